/- caissonref18.U: Tree as a contract. No condition. -/
import Derived.Test.YtkllahedaiddgaaGreatDoorUG5
set_option linter.unusedSimpArgs false
set_option linter.unusedVariables false
set_option maxRecDepth 100000
namespace Go.K
open Go.Ab Go.RowKit Go.Y Go.Proofs
noncomputable section
attribute [local instance 10000] gO
theorem zDS:P16 1:=fun u F Q R=>show d16 1 u F Q R=r16 1 u F R by kernel_rfl
theorem zDT:P16 2:=fun u F Q R=>show d16 2 u F Q R=r16 2 u F R by kernel_rfl
theorem zDU:P16 3:=fun u F Q R=>show d16 3 u F Q R=r16 3 u F R by kernel_rfl
theorem zDV:P16 4:=fun u F Q R=>show d16 4 u F Q R=r16 4 u F R by kernel_rfl
theorem zDW:P16 5:=fun u F Q R=>show d16 5 u F Q R=r16 5 u F R by kernel_rfl
theorem zDX:P16 6:=fun u F Q R=>show d16 6 u F Q R=r16 6 u F R by kernel_rfl
theorem zDY:P16 7:=fun u F Q R=>show d16 7 u F Q R=r16 7 u F R by kernel_rfl
theorem zDZ:P16 8:=fun u F Q R=>show d16 8 u F Q R=r16 8 u F R by kernel_rfl
theorem zD0:P16 9:=fun u F Q R=>show d16 9 u F Q R=r16 9 u F R by kernel_rfl
theorem zxt:P16 10:=fun u F Q R=>show d16 10 u F Q R=r16 10 u F R by kernel_rfl
theorem zxu:P16 11:=fun u F Q R=>show d16 11 u F Q R=r16 11 u F R by kernel_rfl
theorem zxv:P16 12:=fun u F Q R=>show d16 12 u F Q R=r16 12 u F R by kernel_rfl
theorem zxY:P16 13:=fun u F Q R=>show d16 13 u F Q R=r16 13 u F R by kernel_rfl
theorem zxZ:P16 14:=fun u F Q R=>show d16 14 u F Q R=r16 14 u F R by kernel_rfl
theorem zx0:P16 15:=fun u F Q R=>show d16 15 u F Q R=r16 15 u F R by kernel_rfl
theorem zx1:P16 16:=fun u F Q R=>show d16 16 u F Q R=r16 16 u F R by kernel_rfl
theorem zx2:P16 17:=fun u F Q R=>show d16 17 u F Q R=r16 17 u F R by kernel_rfl
theorem zx3:P16 18:=fun u F Q R=>show d16 18 u F Q R=r16 18 u F R by kernel_rfl
theorem zx4:P16 19:=fun u F Q R=>show d16 19 u F Q R=r16 19 u F R by kernel_rfl
theorem zx5:P16 20:=fun u F Q R=>show d16 20 u F Q R=r16 20 u F R by kernel_rfl
theorem zx6:P16 21:=fun u F Q R=>show d16 21 u F Q R=r16 21 u F R by kernel_rfl
theorem zx7:P16 22:=fun u F Q R=>show d16 22 u F Q R=r16 22 u F R by kernel_rfl
theorem zx8:P16 23:=fun u F Q R=>show d16 23 u F Q R=r16 23 u F R by kernel_rfl
theorem zx9:P16 24:=fun u F Q R=>show d16 24 u F Q R=r16 24 u F R by kernel_rfl
theorem p16 {n:Nat}(h:zD n=true):P16 n:=by
 obtain⟨n1,n2⟩:=zH h
 match n,n1,n2 with
 | 1,_,_=>exact zDS
 | 2,_,_=>exact zDT
 | 3,_,_=>exact zDU
 | 4,_,_=>exact zDV
 | 5,_,_=>exact zDW
 | 6,_,_=>exact zDX
 | 7,_,_=>exact zDY
 | 8,_,_=>exact zDZ
 | 9,_,_=>exact zD0
 | 10,_,_=>exact zxt
 | 11,_,_=>exact zxu
 | 12,_,_=>exact zxv
 | 13,_,_=>exact zxY
 | 14,_,_=>exact zxZ
 | 15,_,_=>exact zx0
 | 16,_,_=>exact zx1
 | 17,_,_=>exact zx2
 | 18,_,_=>exact zx3
 | 19,_,_=>exact zx4
 | 20,_,_=>exact zx5
 | 21,_,_=>exact zx6
 | 22,_,_=>exact zx7
 | 23,_,_=>exact zx8
 | 24,_,_=>exact zx9
attribute [local irreducible] kpre cOf mOf rOf JL zp l16 zh hS zi zx xh
theorem zI8:Tryz.f16.ntmps=82:=by kernel_rfl
theorem zI9:Tryz.f16.results.toList=rOf 16:=by kernel_rfl
theorem zJa:fl (cOf 16)=l16:=by kernel_rfl
theorem zeL {n:Nat}{u:Ud}{p:Prop}(h:p):∀ k,chn n u p k
 | 0=>h
 | k + 1=>⟨rfl,rfl,zeL h k⟩
theorem zls (y:Un):xi y.k.v=true:=by kernel_rfl
theorem j16 {n m:Nat}{u:Ud}(H:UOk n m u):JFn Tryz.prog 16 false [uK n m u] (trK n m (cU n u)):=by
 obtain rfl:m=zi n:=H.tot
 have hE:=zJv H
 refine JFn.of (P:=Tryz.prog) hE rfl (c:=cOf 16) (mOf 16) Tryz.func16 (by kernel_rfl) fun B N hN=>?_
 rw[zI8] at hN
 rw[zJa]
 have:=JL.goR (B:=B) (N:=N) (mask:=mOf 16) (l1:=l16) (l2:=[]) (Q:=retJ (E16 n u (xD n u)) Tryz.f16 false (trK n (zi n) (cU n u))) (n:=60) hE rfl (rOf 16) [] [zeU n] (lt0:=xd (mOf 16) 0 [uK n (zi n) u]) (lz0:=[]) (n0:=0) hN (by kernel_rfl) (by kernel_rfl) ?_
 ·rwa [List.append_nil] at this
 ·refine Eq.mpr (p16 H.n24 u (xD n u) _ _) ⟨rfl,zeL ?_ _⟩
  intro tr zm hz hmb hi hr
  have h1:kb zm (zeU n)=some (zs5 n u (xD n u)):=congrArg (fun l=>l.getD 0 none) hz
  refine retJ.mk rfl zI9 (FzP.cons (FzP.noref rfl) (FzP.cons (FzP.row h1 rfl rfl fun i hi B C M h3 h4 mm hm=>?_) (FzP.noref rfl))) hr
  have e:KV.atv (@Nat.rec (fun _=>KV) .te (fun i t=>xk (Q0 n u (xD n u) (lvI n i) (ixI n i) i) (enc i) t) (zi n)) (enc i) zp3.v=(Q0 n u (xD n u) (lvI n i) (ixI n i) i).v:=vY (f:=fun k=>Q0 n u (xD n u) (lvI n k) (ixI n k) k) (z:=zp3.v) hi
  have hm':R C (KV.atv (@Nat.rec (fun _=>KV) .te (fun i t=>xk (Q0 n u (xD n u) (lvI n i) (ixI n i) i) (enc i) t) (zi n)) (enc i) zp3.v) mm:=hm
  rw[e] at hm'
  have h5:R C (cU n u i).k.v mm:=ziq n u i _ _ hm'
  show R _ ((cU n u i).k).v mm
  exact R.noref _ (zls _) h5
noncomputable def zE0:zf:=vp (fun x:Nat×Nat×Ud=>[uK x.1 x.2.1 x.2.2]) (fun x=>UOk x.1 x.2.1 x.2.2) fun x=>trK x.1 x.2.1 (cU x.1 x.2.2)
theorem ztw:KCS Tryz.prog 16 zE0:=vV ⟨Tryz.f16,Tryz.func16,by kernel_rfl,by kernel_rfl⟩ fun x h=>j16 h
end
end Go.K
