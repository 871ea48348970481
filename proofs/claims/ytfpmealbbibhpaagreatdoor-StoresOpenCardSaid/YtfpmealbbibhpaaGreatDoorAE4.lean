/- The program's AES as a contract of the run. No condition. -/
import Derived.Test.YtfpmealbbibhpaaGreatDoorAE3
import Derived.Test.YtfpmealbbibhpaaGreatDoorMC
set_option linter.unusedVariables false
set_option linter.unusedSimpArgs false
namespace Go.K
open Go.Ab Go.RowKit Go.Y Go.Proofs
noncomputable section
attribute [local irreducible] krun callR
theorem u8K_s {x:KV}{f:Nat→Prop}{a b c:Nat}(h:onInt (fun k z=>chk (ikEq k .u8) a (@Int.rec (fun _=>Prop) (fun n=>f n) (fun _=>BadN b) z)) (BadN c) x):∃ n,x=.int .u8 (.ofNat n)∧f n:=by
  rcases onInt_inv h with ⟨k,z,rfl,h1⟩ | ⟨_,h1⟩
  · obtain⟨h2,h3⟩:=chk_inv h1
    obtain rfl:=ikEq_eq h2
    cases z with
    | ofNat n=>exact⟨n,rfl,h3⟩
    | negSucc n=>exact (show BadN _ from h3).elim
  · exact h1.elim
theorem kcsSubO:KCS Tryz.prog 314 sSubO:=by
  refine⟨kcsSub.1,fun l K hs=>?_⟩
  obtain⟨x,rfl,h1⟩:=la1_s hs
  obtain⟨n,rfl,h2,h3⟩:=u8K_s h1
  obtain⟨v,h4,h5⟩:=kcsSub.2 [.int .u8 (.ofNat n)] K (by
    show chk (ikEq .u8 .u8) 253 (chk (Nat.blt n 256) 254 (forceN (pkr .u8 sbN n) fun r=>K (.int .u8 (.ofNat r))))
    rw[show Nat.blt n 256=true by rw[Nat.blt_eq]; exact h2,forceN_eq]
    exact h3)
  exact⟨v,h4,h5⟩
theorem kcsMulO:KCS Tryz.prog 329 sMulO:=by
  refine⟨kcsMul.1,fun l K hs=>?_⟩
  obtain⟨x,y,rfl,h1⟩:=lb2_s hs
  obtain⟨m,rfl,h2⟩:=u8K_s h1
  obtain⟨n,rfl,h3⟩:=u8K_s h2
  obtain⟨h4,h5,h6⟩:=chk_inv h3
  have hm:m < 4:=by rwa [Nat.blt_eq] at h4
  obtain⟨v,h7,h8⟩:=kcsMul.2 [.int .u8 (.ofNat m),.int .u8 (.ofNat n)] K (by
    show chk (ikEq .u8 .u8) 253 (chk (Nat.blt m 256) 254 (chk (ikEq .u8 .u8) 253 (chk (Nat.blt n 256) 254 (chk (Nat.blt m 4) 259 (forceN (pkr .u8 mtN (Nat.add (Nat.mul 256 m) n)) fun r=>K (.int .u8 (.ofNat r)))))))
    rw[show Nat.blt n 256=true by rw[Nat.blt_eq]; exact h5,show Nat.blt m 256=true by rw[Nat.blt_eq]; omega,h4,forceN_eq]
    exact h6)
  exact⟨v,h7,h8⟩
theorem okS:@KOk gO ES:=@KOk.tab gO EO0 okO0 _ ⟨kcsSubO.opn,kcsMulO.opn,trivial⟩
def sEnc:KSpec:=fun l K=>lb2 l fun s b=>onAr (fun n d t=>chk (Nat.beq n 11) 420 (chk (keysOk (.ar 11 d t) 11) 421 (onPk (fun kd m x=>chk (nd (ikEq kd .u8) (Nat.beq m 16)) 422 (encP (.ar 11 d t) x fun z=>K (.pk .u8 16 z))) (BadN 423) b))) (BadN 424) s
theorem P302:∃ fn,Tryz.prog.funcs[302]?=some fn∧(fn.name == "runtime.NumGoroutine")=false∧fn.body.isNone=false:=⟨Tryz.f302,Tryz.func302,(fnsL.get Tryz.func302).1,by kernel_rfl⟩
theorem args_imp {a b a' b':V}(h1:Imp a a') (h2:Imp b b'):∀ C m,R C (mkL [a,b]) m→R C (mkL [a',b']) m:=fun C m h=>R.cons_map (fun m h=>h1 C m h) (fun m h=>R.cons_map (fun m h=>h2 C m h) (fun m h=>h) h) h
theorem noRef_pk (k:IntKind) (n x:Nat):noRef (KV.pk k n x).v=true:=by
  rw[v_pk]
  show ((List.range n).all fun i=>noRef (.int k (pkg k x i)))=true
  rw[List.all_eq_true]; intro i _; rfl
theorem kcsEnc:@KCS gO Tryz.prog 302 sEnc:=by
  refine @kcsA gO Tryz.prog 302 sEnc P302 fun l K hs=>?_
  obtain⟨s,b,rfl,h1⟩:=lb2_s hs
  rcases onAr_inv h1 with ⟨n,d,t,rfl,h2⟩ | ⟨_,h2⟩
  · obtain⟨h3,h4⟩:=chk_inv h2
    obtain rfl:=beqE h3
    obtain⟨h5,h6⟩:=chk_inv h4
    rcases onPk_inv h6 with ⟨kd,m,x,rfl,h7⟩ | ⟨_,h7⟩
    · obtain⟨h8,h9⟩:=chk_inv h7
      obtain⟨h10,h11⟩:=nd_iff.1 h8
      obtain rfl:=ikEq_eq h10
      obtain rfl:=beqE h11
      obtain⟨z,h12,h13⟩:=encP_s h9
      refine⟨ES,okS,rfl,200,fun r=>r=by16 (C.enc (byN x) (gOf (.ar 11 d t))),_,[schO (gOf (.ar 11 d t)),by16 (byN x)],h12,noRef_pk _ _ _,fun r hr=>by rw[hr]; exact by16_imp h13,?_,run302_s _ _⟩
      exact args_imp (imp_sch h5) (imp_by16 fun i _=>rfl)
    · exact h7.elim
  · exact h2.elim
end
end Go.K
