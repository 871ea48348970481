/- lives() of layer 17. No condition. -/
import Derived.Test.YtkllahedaiddgaaGreatDoorQC0
set_option linter.unusedSimpArgs false
set_option linter.unusedVariables false
set_option maxRecDepth 10000
namespace Go.K
open Go.Ab Go.RowKit Go.Y Go.Proofs
noncomputable section
attribute [local irreducible] zj zi
def ELW:KEnv:=E0.tab [(276,zcc),(190,zcd),(311,zgQ sbN),(296,zrc)]
theorem zAc:KOk ELW:=ok0.tab ⟨zkn,zko,zcE,zrd.cls,trivial⟩
theorem zAd:zi ELW (zj ELW 100000) 0 47 [] .e 0 0 (fun r _ _ _=>tK (kvb r (.bool true))):=of_eq_true (by kernel_rfl)
theorem zAe:KCS Tryz.prog 47 (yY [] (.bool true)):=WE zAc zAd rfl rfl
end
end Go.K
