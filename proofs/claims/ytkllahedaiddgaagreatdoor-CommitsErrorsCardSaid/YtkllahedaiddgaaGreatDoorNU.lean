/- Numbers of wc. No condition. -/
import Derived.Test.YtkllahedaiddgaaGreatDoorWK
set_option linter.unusedSimpArgs false
set_option linter.unusedVariables false
set_option maxRecDepth 100000
namespace Go.K
open Go.Ab Go.RowKit Go.Y Go.Proofs
noncomputable section
attribute [local instance 10000] gO
noncomputable def zCR (n l j:Nat):Prop:=zn EO0 (zu EO0 200) 0 82 [nI n,nI l,nI j] .e 0 0 fun r _ _ _=>r=nI (zi n l j)
noncomputable def f82 (n l j:Nat):Prop:=@Nat.rec (fun _=>Prop→Prop) (fun q=>q) (fun k ih q=>ih (cnd (b63 (zi n (Nat.succ k) j)) q)) l (nI (zi n l j)=nI (zi n l j))
noncomputable def znK (j:Nat) (b:Bool):Prop:=jL (fun n=>jL (fun l=>@Bool.rec (fun _=>Prop) (f82 (Nat.succ n) l j) (zCR (Nat.succ n) l j) b) 3) 24
theorem e82 (j:Nat):znK j true=znK j false:=by kernel_rfl
theorem zrK {n l:Nat}(hn:n < 24) (hl:l < 3):zQ (Nat.succ n) l≤6:=Z9 n l hn hl
theorem zxW {n l j:Nat}(hn:n < 24) (hl:l≤3):zi (Nat.succ n) l j≤j + 6 * l:=by
 induction l with
 | zero=>exact Nat.le_refl _
 | succ l ih =>
  have h1:=ih (by omega)
  have h2:=zrK hn (show l < 3 by omega)
  show Nat.add (zi (Nat.succ n) l j) (zQ (Nat.succ n) l)≤_
  have:Nat.add (zi (Nat.succ n) l j) (zQ (Nat.succ n) l)=zi (Nat.succ n) l j + zQ (Nat.succ n) l:=rfl
  omega
theorem Zp {P:Nat→Prop}:∀ {n:Nat},(∀ i,i < n→P i)→jL P n
 | 0,_=>trivial
 | n + 1,h=>⟨Zp fun i hi=>h i (by omega),h n (by omega)⟩
theorem zCS {n j:Nat}(hn:n < 24) (hj:j < 4294967296) {l:Nat}(hl:l < 3):f82 (Nat.succ n) l j:=by
 have h:∀ k,k≤2→b63 (zi (Nat.succ n) k j)=true:=fun k hk=>xB.2 (by have:=zxW (j:=j) hn (show k≤3 by omega); omega)
 match l,hl with
 | 0,_=>exact rfl
 | 1,_=>exact ze.2 ⟨h 1 (by omega),rfl⟩
 | 2,_=>exact ze.2 ⟨h 1 (by omega),ze.2 ⟨h 2 (by omega),rfl⟩⟩
theorem zxX:KCS Tryz.prog 82 zql :=
 ZV ⟨Tryz.f82,Tryz.func82,by kernel_rfl,by kernel_rfl⟩ fun l K hs=>by
  obtain⟨n,l,j,rfl,⟨h1,h2,h3⟩,hk⟩:=JN hs
  obtain⟨n1,n2⟩:=xc h1
  obtain⟨m,rfl⟩:∃ m,n=Nat.succ m:=⟨n - 1,by omega⟩
  have hm:m < 24:=by omega
  exact⟨EO0,xA,rfl,200,fun r=>r=nI (zi (Nat.succ m) l j),_,hk,rfl,fun r hr=>by rw[hr]; exact Imp.refl _,xC (xC (Eq.mpr (e82 j) (Zp fun i hi=>Zp fun l hl=>zCS hi h3 hl):znK j true) m hm) l (by omega)⟩
end
end Go.K
