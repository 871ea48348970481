/- updates.lay: the layout of up to 24 blocks. No condition. -/
import Derived.Test.YtkllahedaiddgaaGreatDoorRW
set_option linter.unusedSimpArgs false
set_option linter.unusedVariables false
set_option maxRecDepth 100000
namespace Go.K
open Go.Ab Go.RowKit Go.Y Go.Proofs
noncomputable section
attribute [local instance 10000] gO
noncomputable def zca (n:Nat):Prop:=zcM n fun lay=>zk EO0 (zp EO0 200) 0 208 [nI n] .e 0 0 fun r zm _ _=>tK (fzB zm 30 r (.tup (.cons lay (.cons (nI 0) .nl))))
noncomputable def zcb (b:Bool):Prop:=xT (fun n=>@Bool.rec (fun _=>Prop) True (zca (Nat.succ n)) b) 24
theorem zGW:zcb true=zcb false:=by kernel_rfl
noncomputable def zBg:zf:=fun l K=>la1 l fun a=>z9 a fun n=>zD n=true∧zcM n fun lay=>K (.tup (.cons lay (.cons (nI 0) .nl)))
theorem zGX:KCS Tryz.prog 208 zBg:=zGH ⟨Tryz.f208,Tryz.func208,by kernel_rfl,by kernel_rfl⟩ fun l K hs=>by
 obtain⟨a,rfl,h1⟩:=wz hs
 obtain⟨n,rfl,h2,hk⟩:=zu h1
 obtain⟨n1,n2⟩:=zH h2
 obtain⟨m,rfl⟩:∃ m,n=Nat.succ m:=⟨n - 1,by omega⟩
 rw[Z6] at hk
 have h3:zca (Nat.succ m):=zQ (Eq.mpr zGW (z6 (fun _=>trivial) 24):zcb true) m (by omega)
 unfold zca at h3
 rw[Z6] at h3
 exact⟨EO0,zI,rfl,200,30,_,hk,h3⟩
end
end Go.K
