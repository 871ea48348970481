/- updates.lay: the layout of up to 24 blocks. No condition. -/
import Derived.Test.YtkllahedaiddgaaGreatDoorRW
set_option linter.unusedSimpArgs false
set_option linter.unusedVariables false
set_option maxRecDepth 100000
namespace Go.K
open Go.Ab Go.RowKit Go.Y Go.Proofs
noncomputable section
attribute [local instance 10000] gO
noncomputable def zcu (n:Nat):Prop:=zc1 n fun lay=>zn EO0 (zu EO0 200) 0 208 [nI n] .e 0 0 fun r zm _ _=>tK (fzB zm 30 r (.tup (.cons lay (.cons (nI 0) .nl))))
noncomputable def zcv (b:Bool):Prop:=jL (fun n=>@Bool.rec (fun _=>Prop) True (zcu (Nat.succ n)) b) 24
theorem zEh:zcv true=zcv false:=by kernel_rfl
noncomputable def zAb:zg:=fun l K=>la1 l fun a=>jg a fun n=>zT n=true∧zc1 n fun lay=>K (.tup (.cons lay (.cons (nI 0) .nl)))
theorem zEi:KCS Tryz.prog 208 zAb:=zD5 ⟨Tryz.f208,Tryz.func208,by kernel_rfl,by kernel_rfl⟩ fun l K hs=>by
 obtain⟨a,rfl,h1⟩:=wO hs
 obtain⟨n,rfl,h2,hk⟩:=xz h1
 obtain⟨n1,n2⟩:=xc h2
 obtain⟨m,rfl⟩:∃ m,n=Nat.succ m:=⟨n - 1,by omega⟩
 rw[Xg] at hk
 have h3:zcu (Nat.succ m):=xC (Eq.mpr zEh (vu (fun _=>trivial) 24):zcv true) m (by omega)
 unfold zcu at h3
 rw[Xg] at h3
 exact⟨EO0,xA,rfl,200,30,_,hk,h3⟩
end
end Go.K
