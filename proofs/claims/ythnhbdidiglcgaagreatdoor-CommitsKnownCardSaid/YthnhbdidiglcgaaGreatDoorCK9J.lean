/- What the row says of the program. No condition. -/
import Derived.Test.YthnhbdidiglcgaaGreatDoorChecked
import Derived.Test.YthnhbdidiglcgaaGreatDoorRows
import Derived.Stop.Joined
import Derived.WalkKit
import Derived.JoinedOf
import Derived.SevenTiedAt
namespace Go.K
open Go.Proofs Go.RowKit
open Go.Proofs.YthnhbdidiglcgaaGreatDoor
theorem fact3_0 : (Rows.commitsKnownRow.wf (OpenSpec.ofChange Rows.commitsKnownSpec)) = true := by kernel_rfl
theorem fact3_1 : (laidOutB Tryz.prog) = true := by kernel_rfl
theorem fact3_2 : (mapsRowed Tryz.prog) = true := by kernel_rfl
theorem fact3_3 : (Rows.commitsKnownRow.inPlace == Tryz.prog.inPlace 3) = true := by kernel_rfl
theorem fact3_4 : (Rows.commitsKnownRow.unfollowed == Tryz.prog.unfollowed 3) = true := by kernel_rfl
theorem fact3_5 : (Rows.commitsKnownRow.recurses == Tryz.prog.recurses 3) = true := by kernel_rfl
theorem fact3_6 : (Rows.commitsKnownRow.named == Tryz.prog.varsNamed 3) = true := by kernel_rfl
theorem fact3_7 : (Rows.commitsKnownRow.plainKeys == Tryz.prog.plainKeys) = true := by kernel_rfl
theorem fact3_8 : (Tryz.prog.stopsHeard) = true := by kernel_rfl
theorem fact3_9 : (Tryz.prog.mayEnter) = true := by kernel_rfl
theorem fact3_10 : (Rows.commitsKnownRow.lifted == Tryz.prog.liftsFinal) = true := by kernel_rfl
theorem cw3 : Rows.commitsKnownRow.wfByText (OpenSpec.ofChange Rows.commitsKnownSpec) = true := by kernel_rfl
theorem cm3 : Tryz.prog.mainIs = some (true, ("6fac96ebe54569f97cab989157ff8600b0f64b10956e1d40609f2ca4e8e8c1d7" : String).toList) := by kernel_rfl
theorem cf3 : Tryz.prog.funcNamed Rows.commitsKnownRow.func = some 3 := by kernel_rfl
theorem cl3 : true = Tryz.prog.looks [] := by kernel_rfl
theorem cg3 : false = Rows.commitsKnownRow.goesBy Tryz.prog := by kernel_rfl
theorem facts3 : joinedFacts Tryz.prog 3 Tryz.f3 Rows.commitsKnownSpec Rows.commitsKnownRow = true := by
  unfold joinedFacts
  rw [fact3_0, fact3_1, fact3_2, fact3_3, fact3_4, fact3_5, fact3_6, fact3_7, fact3_8, fact3_9, fact3_10]
  kernel_rfl
end Go.K
