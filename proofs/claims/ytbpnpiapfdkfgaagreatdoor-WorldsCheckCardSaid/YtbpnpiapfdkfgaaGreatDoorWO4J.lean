/- What the row says of the program. No condition. -/
import Derived.Test.YtbpnpiapfdkfgaaGreatDoorChecked
import Derived.Test.YtbpnpiapfdkfgaaGreatDoorRows
import Derived.Stop.Joined
import Derived.WalkKit
import Derived.JoinedOf
import Derived.SevenTiedAt
namespace Go.K
open Go.Proofs Go.RowKit
open Go.Proofs.YtbpnpiapfdkfgaaGreatDoor
theorem fact3_0 : (Rows.worldsCheckRow.wf (OpenSpec.ofChange Rows.worldsCheckSpec)) = true := by kernel_rfl
theorem fact3_1 : (laidOutB Tryz.prog) = true := by kernel_rfl
theorem fact3_2 : (mapsRowed Tryz.prog) = true := by kernel_rfl
theorem fact3_3 : (Rows.worldsCheckRow.inPlace == Tryz.prog.inPlace 3) = true := by kernel_rfl
theorem fact3_4 : (Rows.worldsCheckRow.unfollowed == Tryz.prog.unfollowed 3) = true := by kernel_rfl
theorem fact3_5 : (Rows.worldsCheckRow.recurses == Tryz.prog.recurses 3) = true := by kernel_rfl
theorem fact3_6 : (Rows.worldsCheckRow.named == Tryz.prog.varsNamed 3) = true := by kernel_rfl
theorem fact3_7 : (Rows.worldsCheckRow.plainKeys == Tryz.prog.plainKeys) = true := by kernel_rfl
theorem fact3_8 : (Tryz.prog.stopsHeard) = true := by kernel_rfl
theorem fact3_9 : (Tryz.prog.mayEnter) = true := by kernel_rfl
theorem fact3_10 : (Rows.worldsCheckRow.lifted == Tryz.prog.liftsFinal) = true := by kernel_rfl
theorem cw3 : Rows.worldsCheckRow.wfByText (OpenSpec.ofChange Rows.worldsCheckSpec) = true := by kernel_rfl
theorem cm3 : Tryz.prog.mainIs = some (true, ("e80718ab97e1d64c68fd6c28c7e84c560b0ca3b8cfde71a35951396609c2f004" : String).toList) := by kernel_rfl
theorem cf3 : Tryz.prog.funcNamed Rows.worldsCheckRow.func = some 3 := by kernel_rfl
theorem cl3 : false = Tryz.prog.looks [] := by kernel_rfl
theorem cg3 : false = Rows.worldsCheckRow.goesBy Tryz.prog := by kernel_rfl
theorem facts3 : joinedFacts Tryz.prog 3 Tryz.f3 Rows.worldsCheckSpec Rows.worldsCheckRow = true := by
  unfold joinedFacts
  rw [fact3_0, fact3_1, fact3_2, fact3_3, fact3_4, fact3_5, fact3_6, fact3_7, fact3_8, fact3_9, fact3_10]
  kernel_rfl
end Go.K
