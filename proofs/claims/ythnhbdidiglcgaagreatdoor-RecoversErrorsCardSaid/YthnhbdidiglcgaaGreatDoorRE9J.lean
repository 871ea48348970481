/- What the row says of the program. No condition. -/
import Derived.Test.YthnhbdidiglcgaaGreatDoorChecked
import Derived.Test.YthnhbdidiglcgaaGreatDoorRows
import Derived.Stop.Joined
import Derived.WalkKit
import Derived.JoinedOf
import Derived.SevenTiedAt
namespace Go.K
open Go.Proofs Go.RowKit
open Go.Proofs.YthnhbdidiglcgaaGreatDoor
theorem fact6_0 : (Rows.recoversErrorsRow.wf (OpenSpec.ofChange Rows.recoversErrorsSpec)) = true := by kernel_rfl
theorem fact6_1 : (laidOutB Tryz.prog) = true := by kernel_rfl
theorem fact6_2 : (mapsRowed Tryz.prog) = true := by kernel_rfl
theorem fact6_3 : (Rows.recoversErrorsRow.inPlace == Tryz.prog.inPlace 6) = true := by kernel_rfl
theorem fact6_4 : (Rows.recoversErrorsRow.unfollowed == Tryz.prog.unfollowed 6) = true := by kernel_rfl
theorem fact6_5 : (Rows.recoversErrorsRow.recurses == Tryz.prog.recurses 6) = true := by kernel_rfl
theorem fact6_6 : (Rows.recoversErrorsRow.named == Tryz.prog.varsNamed 6) = true := by kernel_rfl
theorem fact6_7 : (Rows.recoversErrorsRow.plainKeys == Tryz.prog.plainKeys) = true := by kernel_rfl
theorem fact6_8 : (Tryz.prog.stopsHeard) = true := by kernel_rfl
theorem fact6_9 : (Tryz.prog.mayEnter) = true := by kernel_rfl
theorem fact6_10 : (Rows.recoversErrorsRow.lifted == Tryz.prog.liftsFinal) = true := by kernel_rfl
theorem cw6 : Rows.recoversErrorsRow.wfByText (OpenSpec.ofChange Rows.recoversErrorsSpec) = true := by kernel_rfl
theorem cm6 : Tryz.prog.mainIs = some (true, ("6fac96ebe54569f97cab989157ff8600b0f64b10956e1d40609f2ca4e8e8c1d7" : String).toList) := by kernel_rfl
theorem cf6 : Tryz.prog.funcNamed Rows.recoversErrorsRow.func = some 6 := by kernel_rfl
theorem cl6 : true = Tryz.prog.looks [] := by kernel_rfl
theorem cg6 : false = Rows.recoversErrorsRow.goesBy Tryz.prog := by kernel_rfl
theorem facts6 : joinedFacts Tryz.prog 6 Tryz.f6 Rows.recoversErrorsSpec Rows.recoversErrorsRow = true := by
  unfold joinedFacts
  rw [fact6_0, fact6_1, fact6_2, fact6_3, fact6_4, fact6_5, fact6_6, fact6_7, fact6_8, fact6_9, fact6_10]
  kernel_rfl
end Go.K
