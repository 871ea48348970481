/- Numbers of qd. No condition. -/
import Derived.Test.YtkllahedaiddgaaGreatDoorCPS
set_option linter.unusedSimpArgs false
set_option linter.unusedVariables false
set_option maxRecDepth 100000
namespace Go.K
open Go.Ab Go.RowKit Go.Y Go.Proofs
noncomputable section
attribute [local instance 10000] gO
noncomputable def zvY (n l j:Nat):Prop:=zo EO0 (zp EO0 200) 0 82 [nI n,nI l,nI j] .e 0 0 fun r _ _ _=>r=nI (xO n l j)
noncomputable def f82 (n l j:Nat):Prop:=@Nat.rec (fun _=>Prop→Prop) (fun q=>q) (fun k ih q=>ih (cnd (b63 (xO n (Nat.succ k) j)) q)) l (nI (xO n l j)=nI (xO n l j))
noncomputable def ziC (j:Nat) (b:Bool):Prop:=yx (fun n=>yx (fun l=>@Bool.rec (fun _=>Prop) (f82 (Nat.succ n) l j) (zvY (Nat.succ n) l j) b) 3) 24
theorem e82 (j:Nat):ziC j true=ziC j false:=by kernel_rfl
theorem zlf {n l:Nat}(hn:n < 24) (hl:l < 3):xv (Nat.succ n) l≤6:=Zh n l hn hl
theorem zqG {n l j:Nat}(hn:n < 24) (hl:l≤3):xO (Nat.succ n) l j≤j + 6 * l:=by
 induction l with
 | zero=>exact Nat.le_refl _
 | succ l ih =>
  have h1:=ih (by omega)
  have h2:=zlf hn (show l < 3 by omega)
  show Nat.add (xO (Nat.succ n) l j) (xv (Nat.succ n) l)≤_
  have:Nat.add (xO (Nat.succ n) l j) (xv (Nat.succ n) l)=xO (Nat.succ n) l j + xv (Nat.succ n) l:=rfl
  omega
theorem zbF {P:Nat→Prop}:∀ {n:Nat},(∀ i,i < n→P i)→yx P n
 | 0,_=>trivial
 | n + 1,h=>⟨zbF fun i hi=>h i (by omega),h n (by omega)⟩
theorem zvZ {n j:Nat}(hn:n < 24) (hj:j < 4294967296) {l:Nat}(hl:l < 3):f82 (Nat.succ n) l j:=by
 have h:∀ k,k≤2→b63 (xO (Nat.succ n) k j)=true:=fun k hk=>xe.2 (by have:=zqG (j:=j) hn (show k≤3 by omega); omega)
 match l,hl with
 | 0,_=>exact rfl
 | 1,_=>exact ze.2 ⟨h 1 (by omega),rfl⟩
 | 2,_=>exact ze.2 ⟨h 1 (by omega),ze.2 ⟨h 2 (by omega),rfl⟩⟩
theorem zyz:KCS Tryz.prog 82 ztL :=
 zes ⟨Tryz.f82,Tryz.func82,by kernel_rfl,by kernel_rfl⟩ fun l K hs=>by
  obtain⟨n,l,j,rfl,⟨h1,h2,h3⟩,hk⟩:=zdl hs
  obtain⟨n1,n2⟩:=wi h1
  obtain⟨m,rfl⟩:∃ m,n=Nat.succ m:=⟨n - 1,by omega⟩
  have hm:m < 24:=by omega
  exact⟨EO0,zR,rfl,200,fun r=>r=nI (xO (Nat.succ m) l j),_,hk,rfl,fun r hr=>by rw[hr]; exact Imp.refl _,vx (vx (Eq.mpr (e82 j) (zbF fun i hi=>zbF fun l hl=>zvZ hi h3 hl):ziC j true) m hm) l (by omega)⟩
end
end Go.K
