/- Fresh volumes of at most 60 blocks and their working trees. No condition. -/
import Derived.Test.YtfpmealbbibhpaaGreatDoorK29
import Derived.Test.YtfpmealbbibhpaaGreatDoorSO7_f
import Derived.Test.YtfpmealbbibhpaaGreatDoorSO5
import Derived.Test.YtfpmealbbibhpaaGreatDoorSO7_2
import Derived.Test.YtfpmealbbibhpaaGreatDoorSO7_4
set_option linter.unusedVariables false
set_option maxRecDepth 100000
namespace Go.K
open Go.Ab Go.RowKit Go.Y Go.Proofs
attribute [local irreducible] AllR qFr q35 dskF celF frF wkF
theorem q35_all {n:Nat}(h1:1≤n) (h2:n≤60):q35 E35 n:=by
  rcases Nat.lt_or_ge n 20 with h3 | h1
  · exact allR_of (Eq.mpr wk_0 (allR_true 1 19)) h1 h3
  rcases Nat.lt_or_ge n 31 with h4 | h1
  · exact allR_of (Eq.mpr wk_1 (allR_true 20 11)) h1 h4
  rcases Nat.lt_or_ge n 40 with h5 | h1
  · exact allR_of (Eq.mpr wk_2 (allR_true 31 9)) h1 h5
  rcases Nat.lt_or_ge n 48 with h6 | h1
  · exact allR_of (Eq.mpr wk_3 (allR_true 40 8)) h1 h6
  rcases Nat.lt_or_ge n 55 with h7 | h1
  · exact allR_of (Eq.mpr wk_4 (allR_true 48 7)) h1 h7
  exact allR_of (Eq.mpr wk_5 (allR_true 55 6)) h1 (by omega)
theorem q20_all {n:Nat}(h1:1≤n) (h2:n≤60):qFr n:=allR_of (Eq.mpr fr_0 (allR_true 1 60)) h1 (by omega)
theorem kcs20:@KCS gO Tryz.prog 20 sFr:=(kcsN ok20 (fid:=20) (args:=fun n=>[nI n]) (pre:=fun n=>1≤n∧n≤60) (res:=frF) (k:=60) (m:=1000000) ⟨Tryz.f20,Tryz.func20,by kernel_rfl,by kernel_rfl⟩ fun n hn=>by
  have h:=q20_all hn.1 hn.2
  unfold qFr at h
  exact h).opn
theorem kcs35:@KCS gO Tryz.prog 35 sWk:=(kcsN ok35 (fid:=35) (args:=fun n=>[nI n,dskF n,celF n]) (pre:=fun n=>1≤n∧n≤60) (res:=wkF) (k:=60) (m:=1000000) ⟨Tryz.f35,Tryz.func35,by kernel_rfl,by kernel_rfl⟩ fun n hn=>by
  have h:=q35_all hn.1 hn.2
  unfold q35 at h
  exact h).opn
end Go.K
