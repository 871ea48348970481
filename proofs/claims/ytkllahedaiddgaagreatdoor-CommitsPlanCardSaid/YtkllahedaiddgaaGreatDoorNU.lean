/- Numbers of qJ. No condition. -/
import Derived.Test.YtkllahedaiddgaaGreatDoorCPS
set_option linter.unusedSimpArgs false
set_option linter.unusedVariables false
set_option maxRecDepth 100000
namespace Go.K
open Go.Ab Go.RowKit Go.Y Go.Proofs
noncomputable section
attribute [local instance 10000] gO
noncomputable def zFf (n l j:Nat):Prop:=zk EO0 (zp EO0 200) 0 82 [nI n,nI l,nI j] .e 0 0 fun r _ _ _=>r=nI (zh n l j)
noncomputable def f82 (n l j:Nat):Prop:=@Nat.rec (fun _=>Prop→Prop) (fun q=>q) (fun k ih q=>ih (cnd (b63 (zh n (Nat.succ k) j)) q)) l (nI (zh n l j)=nI (zh n l j))
noncomputable def zlF (j:Nat) (b:Bool):Prop:=xT (fun n=>xT (fun l=>@Bool.rec (fun _=>Prop) (f82 (Nat.succ n) l j) (zFf (Nat.succ n) l j) b) 3) 24
theorem e82 (j:Nat):zlF j true=zlF j false:=by kernel_rfl
theorem zq6 {n l:Nat}(hn:n < 24) (hl:l < 3):zx (Nat.succ n) l≤6:=ZV n l hn hl
theorem zyU {n l j:Nat}(hn:n < 24) (hl:l≤3):zh (Nat.succ n) l j≤j + 6 * l:=by
 induction l with
 | zero=>exact Nat.le_refl _
 | succ l ih =>
  have h1:=ih (by omega)
  have h2:=zq6 hn (show l < 3 by omega)
  show Nat.add (zh (Nat.succ n) l j) (zx (Nat.succ n) l)≤_
  have:Nat.add (zh (Nat.succ n) l j) (zx (Nat.succ n) l)=zh (Nat.succ n) l j + zx (Nat.succ n) l:=rfl
  omega
theorem Zg {P:Nat→Prop}:∀ {n:Nat},(∀ i,i < n→P i)→xT P n
 | 0,_=>trivial
 | n + 1,h=>⟨Zg fun i hi=>h i (by omega),h n (by omega)⟩
theorem zFg {n j:Nat}(hn:n < 24) (hj:j < 4294967296) {l:Nat}(hl:l < 3):f82 (Nat.succ n) l j:=by
 have h:∀ k,k≤2→b63 (zh (Nat.succ n) k j)=true:=fun k hk=>xb.2 (by have:=zyU (j:=j) hn (show k≤3 by omega); omega)
 match l,hl with
 | 0,_=>exact rfl
 | 1,_=>exact zd.2 ⟨h 1 (by omega),rfl⟩
 | 2,_=>exact zd.2 ⟨h 1 (by omega),zd.2 ⟨h 2 (by omega),rfl⟩⟩
theorem zcK:KCS Tryz.prog 82 zo4 :=
 jV ⟨Tryz.f82,Tryz.func82,by kernel_rfl,by kernel_rfl⟩ fun l K hs=>by
  obtain⟨n,l,j,rfl,⟨h1,h2,h3⟩,hk⟩:=Jv hs
  obtain⟨n1,n2⟩:=zH h1
  obtain⟨m,rfl⟩:∃ m,n=Nat.succ m:=⟨n - 1,by omega⟩
  have hm:m < 24:=by omega
  exact⟨EO0,zI,rfl,200,fun r=>r=nI (zh (Nat.succ m) l j),_,hk,rfl,fun r hr=>by rw[hr]; exact Imp.refl _,zQ (zQ (Eq.mpr (e82 j) (Zg fun i hi=>Zg fun l hl=>zFg hi h3 hl):zlF j true) m hm) l (by omega)⟩
end
end Go.K
