/- What the row says of the program. No condition. -/
import Derived.Test.YthnhbdidiglcgaaGreatDoorChecked
import Derived.Test.YthnhbdidiglcgaaGreatDoorRows
import Derived.Stop.Joined
import Derived.WalkKit
import Derived.JoinedOf
import Derived.SevenTiedAt
namespace Go.K
open Go.Proofs Go.RowKit
open Go.Proofs.YthnhbdidiglcgaaGreatDoor
theorem fact5_0 : (Rows.recoversKnownRow.wf (OpenSpec.ofChange Rows.recoversKnownSpec)) = true := by kernel_rfl
theorem fact5_1 : (laidOutB Tryz.prog) = true := by kernel_rfl
theorem fact5_2 : (mapsRowed Tryz.prog) = true := by kernel_rfl
theorem fact5_3 : (Rows.recoversKnownRow.inPlace == Tryz.prog.inPlace 5) = true := by kernel_rfl
theorem fact5_4 : (Rows.recoversKnownRow.unfollowed == Tryz.prog.unfollowed 5) = true := by kernel_rfl
theorem fact5_5 : (Rows.recoversKnownRow.recurses == Tryz.prog.recurses 5) = true := by kernel_rfl
theorem fact5_6 : (Rows.recoversKnownRow.named == Tryz.prog.varsNamed 5) = true := by kernel_rfl
theorem fact5_7 : (Rows.recoversKnownRow.plainKeys == Tryz.prog.plainKeys) = true := by kernel_rfl
theorem fact5_8 : (Tryz.prog.stopsHeard) = true := by kernel_rfl
theorem fact5_9 : (Tryz.prog.mayEnter) = true := by kernel_rfl
theorem fact5_10 : (Rows.recoversKnownRow.lifted == Tryz.prog.liftsFinal) = true := by kernel_rfl
theorem cw5 : Rows.recoversKnownRow.wfByText (OpenSpec.ofChange Rows.recoversKnownSpec) = true := by kernel_rfl
theorem cm5 : Tryz.prog.mainIs = some (true, ("6fac96ebe54569f97cab989157ff8600b0f64b10956e1d40609f2ca4e8e8c1d7" : String).toList) := by kernel_rfl
theorem cf5 : Tryz.prog.funcNamed Rows.recoversKnownRow.func = some 5 := by kernel_rfl
theorem cl5 : true = Tryz.prog.looks [] := by kernel_rfl
theorem cg5 : false = Rows.recoversKnownRow.goesBy Tryz.prog := by kernel_rfl
theorem facts5 : joinedFacts Tryz.prog 5 Tryz.f5 Rows.recoversKnownSpec Rows.recoversKnownRow = true := by
  unfold joinedFacts
  rw [fact5_0, fact5_1, fact5_2, fact5_3, fact5_4, fact5_5, fact5_6, fact5_7, fact5_8, fact5_9, fact5_10]
  kernel_rfl
end Go.K
