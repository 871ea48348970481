/- Closed runs. No condition. Closed runs. No condition. Tables of contracts. No condition. Nodes in which nothing is: their check, their use. No condition. -/
import Derived.Test.YtfpmealbbibhpaaGreatDoorAS7
import Derived.Test.YtfpmealbbibhpaaGreatDoorSO1
set_option linter.unusedVariables false
set_option maxRecDepth 10000
namespace Go.K
open Go.Ab Go.RowKit Go.Y Go.Proofs
noncomputable section
attribute [local irreducible] krun callR
def a163_0:List KV:=[(.cons u0 (.cons u1 (.cons (.ar 4 u2 (.tn u2 (.tn u2 .te .te .te .te) (.tn u2 .te .te .te .te) (.tn u2 .te .te .te .te) .te)) (.cons (.ar 4 u3 .te) .nl))))]
def r163_0:KV:=u5
theorem m163_0:RnM ESW0 163 a163_0 r163_0:=of_eq_true (by kernel_rfl)
theorem c163_0:KCS Tryz.prog 163 (kcon a163_0 r163_0):=kconR okESW0 m163_0
def a163_1:List KV:=[(.cons u0 (.cons u1 u6))]
def r163_1:KV:=u5
theorem m163_1:RnM ESW0 163 a163_1 r163_1:=of_eq_true (by kernel_rfl)
theorem c163_1:KCS Tryz.prog 163 (kcon a163_1 r163_1):=kconR okESW0 m163_1
def a163_2:List KV:=[(.cons u0 (.cons (.int .u32 (.ofNat 1)) u6))]
def r163_2:KV:=(.tup (.cons (.pk .u8 32 92737354059256086018541224954223831730035882624918183053432880550174534895393) u4))
theorem m163_2:RnM ESW0 163 a163_2 r163_2:=of_eq_true (by kernel_rfl)
theorem c163_2:KCS Tryz.prog 163 (kcon a163_2 r163_2):=kconR okESW0 m163_2
def a163_3:List KV:=[(.cons u0 (.cons (.int .u32 (.ofNat 10)) u6))]
def r163_3:KV:=(.tup (.cons (.pk .u8 32 69977056173428067548739264334238082728719694330803616673087276336610006394967) u4))
theorem m163_3:RnM ESW0 163 a163_3 r163_3:=of_eq_true (by kernel_rfl)
theorem c163_3:KCS Tryz.prog 163 (kcon a163_3 r163_3):=kconR okESW0 m163_3
def a163_4:List KV:=[(.cons u0 (.cons (.int .u32 (.ofNat 11)) u6))]
def r163_4:KV:=(.tup (.cons (.pk .u8 32 50638997590588811130980277382183948040685750222219668991024108325316343710753) u4))
theorem m163_4:RnM ESW0 163 a163_4 r163_4:=of_eq_true (by kernel_rfl)
theorem c163_4:KCS Tryz.prog 163 (kcon a163_4 r163_4):=kconR okESW0 m163_4
def a163_5:List KV:=[(.cons u0 (.cons (.int .u32 (.ofNat 12)) u6))]
def r163_5:KV:=(.tup (.cons (.pk .u8 32 97113939895047299866195750817084829793752807455098557917203406345730663215199) u4))
theorem m163_5:RnM ESW0 163 a163_5 r163_5:=of_eq_true (by kernel_rfl)
theorem c163_5:KCS Tryz.prog 163 (kcon a163_5 r163_5):=kconR okESW0 m163_5
def a163_6:List KV:=[(.cons u0 (.cons (.int .u32 (.ofNat 13)) u6))]
def r163_6:KV:=(.tup (.cons (.pk .u8 32 29109607172847082682149397668918651138139271539395162273423412651321402521183) u4))
theorem m163_6:RnM ESW0 163 a163_6 r163_6:=of_eq_true (by kernel_rfl)
theorem c163_6:KCS Tryz.prog 163 (kcon a163_6 r163_6):=kconR okESW0 m163_6
def a163_7:List KV:=[(.cons u0 (.cons (.int .u32 (.ofNat 14)) u6))]
def r163_7:KV:=(.tup (.cons (.pk .u8 32 99757547900603136638136440534614545439341291542283342714013109958166145944281) u4))
theorem m163_7:RnM ESW0 163 a163_7 r163_7:=of_eq_true (by kernel_rfl)
theorem c163_7:KCS Tryz.prog 163 (kcon a163_7 r163_7):=kconR okESW0 m163_7
def a163_8:List KV:=[(.cons u0 (.cons (.int .u32 (.ofNat 2)) u6))]
def r163_8:KV:=(.tup (.cons (.pk .u8 32 47918706474171006277651190523224907994728653905829026848287036720537271556258) u4))
theorem m163_8:RnM ESW0 163 a163_8 r163_8:=of_eq_true (by kernel_rfl)
theorem c163_8:KCS Tryz.prog 163 (kcon a163_8 r163_8):=kconR okESW0 m163_8
def a163_9:List KV:=[(.cons u0 (.cons (.int .u32 (.ofNat 3)) u6))]
def r163_9:KV:=(.tup (.cons (.pk .u8 32 105808125492053878603753688789293281506052300169224624234949933941010534189137) u4))
theorem m163_9:RnM ESW0 163 a163_9 r163_9:=of_eq_true (by kernel_rfl)
theorem c163_9:KCS Tryz.prog 163 (kcon a163_9 r163_9):=kconR okESW0 m163_9
def a163_10:List KV:=[(.cons u0 (.cons (.int .u32 (.ofNat 4)) u6))]
def r163_10:KV:=(.tup (.cons (.pk .u8 32 2807575666369805161367105967504216355691599482869997170990283396053082711165) u4))
theorem m163_10:RnM ESW0 163 a163_10 r163_10:=of_eq_true (by kernel_rfl)
theorem c163_10:KCS Tryz.prog 163 (kcon a163_10 r163_10):=kconR okESW0 m163_10
def a163_11:List KV:=[(.cons u0 (.cons (.int .u32 (.ofNat 5)) u6))]
def r163_11:KV:=(.tup (.cons (.pk .u8 32 17004535875477086782753662661989914294358204886104195460046692357768440731120) u4))
theorem m163_11:RnM ESW0 163 a163_11 r163_11:=of_eq_true (by kernel_rfl)
theorem c163_11:KCS Tryz.prog 163 (kcon a163_11 r163_11):=kconR okESW0 m163_11
end
end Go.K
set_option maxRecDepth 10000
namespace Go.K
open Go.Ab Go.RowKit Go.Y Go.Proofs
noncomputable section
attribute [local irreducible] krun callR
def a163_12:List KV:=[(.cons u0 (.cons (.int .u32 (.ofNat 6)) u6))]
def r163_12:KV:=(.tup (.cons (.pk .u8 32 104216340375470324386493751771669935406123806070455518218465811242047805086844) u4))
theorem m163_12:RnM ESW0 163 a163_12 r163_12:=of_eq_true (by kernel_rfl)
theorem c163_12:KCS Tryz.prog 163 (kcon a163_12 r163_12):=kconR okESW0 m163_12
def a163_13:List KV:=[(.cons u0 (.cons (.int .u32 (.ofNat 7)) u6))]
def r163_13:KV:=(.tup (.cons (.pk .u8 32 96521803657635182070510858349567451771283798052788838851100004209882915743773) u4))
theorem m163_13:RnM ESW0 163 a163_13 r163_13:=of_eq_true (by kernel_rfl)
theorem c163_13:KCS Tryz.prog 163 (kcon a163_13 r163_13):=kconR okESW0 m163_13
def a163_14:List KV:=[(.cons u0 (.cons (.int .u32 (.ofNat 8)) u6))]
def r163_14:KV:=(.tup (.cons (.pk .u8 32 93710545209675476368574032257550555253127208348440497476715009016364319207239) u4))
theorem m163_14:RnM ESW0 163 a163_14 r163_14:=of_eq_true (by kernel_rfl)
theorem c163_14:KCS Tryz.prog 163 (kcon a163_14 r163_14):=kconR okESW0 m163_14
def a163_15:List KV:=[(.cons u0 (.cons (.int .u32 (.ofNat 9)) u6))]
def r163_15:KV:=(.tup (.cons (.pk .u8 32 67309979781048628333167815268403856357527800294378292889002715649848650473963) u4))
theorem m163_15:RnM ESW0 163 a163_15 r163_15:=of_eq_true (by kernel_rfl)
theorem c163_15:KCS Tryz.prog 163 (kcon a163_15 r163_15):=kconR okESW0 m163_15
def a163_16:List KV:=[(.cons u7 u8)]
def r163_16:KV:=u9
theorem m163_16:RnM ESW0 163 a163_16 r163_16:=of_eq_true (by kernel_rfl)
theorem c163_16:KCS Tryz.prog 163 (kcon a163_16 r163_16):=kconR okESW0 m163_16
def a163_17:List KV:=[(.cons u7 (.cons u1 u6))]
def r163_17:KV:=u9
theorem m163_17:RnM ESW0 163 a163_17 r163_17:=of_eq_true (by kernel_rfl)
theorem c163_17:KCS Tryz.prog 163 (kcon a163_17 r163_17):=kconR okESW0 m163_17
def a163_18:List KV:=[(.cons u7 (.cons (.int .u32 (.ofNat 1)) u6))]
def r163_18:KV:=(.tup (.cons (.pk .u8 32 100025555269118255137248028961316576270299120456252955623449049622562727908110) u4))
theorem m163_18:RnM ESW0 163 a163_18 r163_18:=of_eq_true (by kernel_rfl)
theorem c163_18:KCS Tryz.prog 163 (kcon a163_18 r163_18):=kconR okESW0 m163_18
def a163_19:List KV:=[(.cons u7 (.cons (.int .u32 (.ofNat 2)) u6))]
def r163_19:KV:=(.tup (.cons (.pk .u8 32 101021892049956649881610648294824810459308295103834561063476137923884760127909) u4))
theorem m163_19:RnM ESW0 163 a163_19 r163_19:=of_eq_true (by kernel_rfl)
theorem c163_19:KCS Tryz.prog 163 (kcon a163_19 r163_19):=kconR okESW0 m163_19
def a163_20:List KV:=[(.cons u7 (.cons (.int .u32 (.ofNat 3)) u6))]
def r163_20:KV:=(.tup (.cons (.pk .u8 32 13830503607669765359007364108428741409194519704210630192658372672813264830467) u4))
theorem m163_20:RnM ESW0 163 a163_20 r163_20:=of_eq_true (by kernel_rfl)
theorem c163_20:KCS Tryz.prog 163 (kcon a163_20 r163_20):=kconR okESW0 m163_20
def a163_21:List KV:=[(.cons (.int .u8 (.ofNat 2)) u8)]
def r163_21:KV:=u10
theorem m163_21:RnM ESW0 163 a163_21 r163_21:=of_eq_true (by kernel_rfl)
theorem c163_21:KCS Tryz.prog 163 (kcon a163_21 r163_21):=kconR okESW0 m163_21
def a163_22:List KV:=[(.cons (.int .u8 (.ofNat 2)) (.cons u1 u6))]
def r163_22:KV:=u10
theorem m163_22:RnM ESW0 163 a163_22 r163_22:=of_eq_true (by kernel_rfl)
theorem c163_22:KCS Tryz.prog 163 (kcon a163_22 r163_22):=kconR okESW0 m163_22
end
end Go.K
set_option maxRecDepth 10000
namespace Go.K
open Go.Ab Go.RowKit Go.Y Go.Proofs
noncomputable section
def tab163:List (List KV×KV):=[(a163_0,r163_0),(a163_1,r163_1),(a163_2,r163_2),(a163_3,r163_3),(a163_4,r163_4),(a163_5,r163_5),(a163_6,r163_6),(a163_7,r163_7),(a163_8,r163_8),(a163_9,r163_9),(a163_10,r163_10),(a163_11,r163_11),(a163_12,r163_12),(a163_13,r163_13),(a163_14,r163_14),(a163_15,r163_15),(a163_16,r163_16),(a163_17,r163_17),(a163_18,r163_18),(a163_19,r163_19),(a163_20,r163_20),(a163_21,r163_21),(a163_22,r163_22)]
theorem PM163:∃ fn,Tryz.prog.funcs[163]?=some fn∧(fn.name == "runtime.NumGoroutine")=false∧fn.body.isNone=false:=⟨Tryz.f163,Tryz.func163,(fnsL.get Tryz.func163).1,by kernel_rfl⟩
theorem kcsT163:KCS Tryz.prog 163 (sMem tab163):=sMem_s PM163 ⟨c163_0,by kernel_rfl,⟨c163_1,by kernel_rfl,⟨c163_2,by kernel_rfl,⟨c163_3,by kernel_rfl,⟨c163_4,by kernel_rfl,⟨c163_5,by kernel_rfl,⟨c163_6,by kernel_rfl,⟨c163_7,by kernel_rfl,⟨c163_8,by kernel_rfl,⟨c163_9,by kernel_rfl,⟨c163_10,by kernel_rfl,⟨c163_11,by kernel_rfl,⟨c163_12,by kernel_rfl,⟨c163_13,by kernel_rfl,⟨c163_14,by kernel_rfl,⟨c163_15,by kernel_rfl,⟨c163_16,by kernel_rfl,⟨c163_17,by kernel_rfl,⟨c163_18,by kernel_rfl,⟨c163_19,by kernel_rfl,⟨c163_20,by kernel_rfl,⟨c163_21,by kernel_rfl,⟨c163_22,by kernel_rfl,trivial⟩⟩⟩⟩⟩⟩⟩⟩⟩⟩⟩⟩⟩⟩⟩⟩⟩⟩⟩⟩⟩⟩⟩
end
end Go.K
set_option linter.unusedSimpArgs false
set_option maxRecDepth 100000
namespace Go.K
open Go.Ab Go.RowKit Go.Y Go.Proofs
noncomputable section
def emA:KV:=.cons (.ar 4 recZ .te) (.cons (.ar 4 entZ .te) .nl)
def emR:KV:=.cons (.ar 4 recZ (trF (fun _=>recZ) 4)) (.cons (.ar 4 entZ .te) .nl)
def emE:KV:=.cons (.ar 4 recZ .te) (.cons (.ar 4 entZ (trF (fun _=>entZ) 4)) .nl)
def emL:List (Nat×KV):=[(0,emA),(1,emA),(0,emR),(1,emE),(2,emE)]
def emX (p:Nat×KV) (z:Int):KV:=.cons (.int .u8 (.ofNat p.1)) (.cons (.int .u32 z) p.2)
def emF (x:KV) (K:Prop) (z:Int) (l:List (Nat×KV)):Prop:=@List.rec _ (fun _=>Prop) (BadN 921) (fun p _ ih=>@Bool.rec (fun _=>Prop) ih K (kvb x (emX p z))) l
def sEmp:KSpec:=fun l K=>la1 l fun x=>onCons (fun a r=>onCons (fun i r2=>onInt (fun k z=>emF x (K (nI 0)) z emL) (BadN 922) i) (BadN 923) r) (BadN 924) x
theorem emF_s {x:KV}{K:Prop}{z:Int}:∀ {l:List (Nat×KV)},emF x K z l→∃ p∈l,x=emX p z∧K
  | [],h=>h.elim
  | p::l,h=>by
    have h1:@Bool.rec (fun _=>Prop) (emF x K z l) K (kvb x (emX p z)):=h
    cases hb:kvb x (emX p z) with
    | true=>rw[hb] at h1; exact⟨p,List.mem_cons_self,kvb_s hb,h1⟩
    | false=>rw[hb] at h1; obtain⟨q,h2,h3⟩:=emF_s h1; exact⟨q,List.mem_cons_of_mem _ h2,h3⟩
theorem sEmp_s {l:List KV}{K:KV→Prop}(h:sEmp l K):∃ p∈emL,∃ z,l=[emX p z]∧K (nI 0):=by
  obtain⟨x,rfl,h1⟩:=la1_s h
  rcases onCons_inv h1 with ⟨a,r,rfl,h2⟩ | ⟨_,h2⟩
  · rcases onCons_inv h2 with ⟨i,r2,rfl,h3⟩ | ⟨_,h3⟩
    · rcases onInt_inv h3 with ⟨k,z,rfl,h4⟩ | ⟨_,h4⟩
      · obtain⟨p,hp,he,hk⟩:=emF_s h4
        exact⟨p,hp,z,by rw[he],hk⟩
      · exact h4.elim
    · exact h3.elim
  · exact h2.elim
def EEm:KEnv:=E0s.tab [(273,sCompS)]
theorem okEEm:KOk EEm:=ok0s.tab ⟨kcs273,trivial⟩
def pEm (f:Nat) (p:Nat×KV) (z:Int):Prop:=callR EEm (krun EEm 1000000) 0 f [emX p z] .e 0 0 fun r _ _ _=>tK (kvb r (nI 0))
end
attribute [local irreducible] krun callR
theorem pE180_0 (z:Int):pEm 180 (0,emA) z=True:=by kernel_rfl
theorem pE180_1 (z:Int):pEm 180 (1,emA) z=True:=by kernel_rfl
theorem pE180_2 (z:Int):pEm 180 (0,emR) z=True:=by kernel_rfl
theorem pE180_3 (z:Int):pEm 180 (1,emE) z=True:=by kernel_rfl
theorem pE180_4 (z:Int):pEm 180 (2,emE) z=True:=by kernel_rfl
theorem pE229_0 (z:Int):pEm 229 (0,emA) z=True:=by kernel_rfl
theorem pE229_1 (z:Int):pEm 229 (1,emA) z=True:=by kernel_rfl
theorem pE229_2 (z:Int):pEm 229 (0,emR) z=True:=by kernel_rfl
theorem pE229_3 (z:Int):pEm 229 (1,emE) z=True:=by kernel_rfl
theorem pE229_4 (z:Int):pEm 229 (2,emE) z=True:=by kernel_rfl
theorem emOf {f:Nat}(hf:∃ fn,Tryz.prog.funcs[f]?=some fn∧(fn.name == "runtime.NumGoroutine")=false∧fn.body.isNone=false) (h:∀ p∈emL,∀ z,pEm f p z):KCS Tryz.prog f sEmp :=
  kcsP hf fun l K hs=>by
    obtain⟨p,hp,z,rfl,hk⟩:=sEmp_s hs
    exact⟨EEm,okEEm,rfl,1000000,fun r=>tK (kvb r (nI 0)),nI 0,hk,rfl,fun r hr=>by rw[kvb_s (tK_s hr)]; exact Imp.refl _,h p hp z⟩
theorem kcs180:KCS Tryz.prog 180 sEmp:=emOf ⟨Tryz.f180,Tryz.func180,by kernel_rfl,by kernel_rfl⟩ fun p hp z=>by
  simp only[emL,List.mem_cons,List.not_mem_nil,or_false] at hp
  rcases hp with rfl | rfl | rfl | rfl | rfl
  · exact Eq.mpr (pE180_0 z) trivial
  · exact Eq.mpr (pE180_1 z) trivial
  · exact Eq.mpr (pE180_2 z) trivial
  · exact Eq.mpr (pE180_3 z) trivial
  · exact Eq.mpr (pE180_4 z) trivial
theorem kcs229:KCS Tryz.prog 229 sEmp:=emOf ⟨Tryz.f229,Tryz.func229,by kernel_rfl,by kernel_rfl⟩ fun p hp z=>by
  simp only[emL,List.mem_cons,List.not_mem_nil,or_false] at hp
  rcases hp with rfl | rfl | rfl | rfl | rfl
  · exact Eq.mpr (pE229_0 z) trivial
  · exact Eq.mpr (pE229_1 z) trivial
  · exact Eq.mpr (pE229_2 z) trivial
  · exact Eq.mpr (pE229_3 z) trivial
  · exact Eq.mpr (pE229_4 z) trivial
noncomputable def E35:KEnv:=E0s.tab [(273,sCompS),(163,sMem tab163),(180,sEmp),(229,sEmp)]
theorem ok35:KOk E35:=ok0s.tab ⟨kcs273,kcsT163,kcs180,kcs229,trivial⟩
end Go.K
