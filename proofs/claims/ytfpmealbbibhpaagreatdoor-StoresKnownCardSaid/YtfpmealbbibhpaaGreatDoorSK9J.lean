/- What the row says of the program. No condition. -/
import Derived.Test.YtfpmealbbibhpaaGreatDoorChecked
import Derived.Test.YtfpmealbbibhpaaGreatDoorRows
import Derived.Stop.Joined
import Derived.WalkKit
import Derived.JoinedOf
import Derived.SevenTiedAt
namespace Go.K
open Go.Proofs Go.RowKit
open Go.Proofs.YtfpmealbbibhpaaGreatDoor
theorem fact7_0 : (Rows.storesKnownRow.wf (OpenSpec.ofChange Rows.storesKnownSpec)) = true := by kernel_rfl
theorem fact7_1 : (laidOutB Tryz.prog) = true := by kernel_rfl
theorem fact7_2 : (mapsRowed Tryz.prog) = true := by kernel_rfl
theorem fact7_3 : (Rows.storesKnownRow.inPlace == Tryz.prog.inPlace 7) = true := by kernel_rfl
theorem fact7_4 : (Rows.storesKnownRow.unfollowed == Tryz.prog.unfollowed 7) = true := by kernel_rfl
theorem fact7_5 : (Rows.storesKnownRow.recurses == Tryz.prog.recurses 7) = true := by kernel_rfl
theorem fact7_6 : (Rows.storesKnownRow.named == Tryz.prog.varsNamed 7) = true := by kernel_rfl
theorem fact7_7 : (Rows.storesKnownRow.plainKeys == Tryz.prog.plainKeys) = true := by kernel_rfl
theorem fact7_8 : (Tryz.prog.stopsHeard) = true := by kernel_rfl
theorem fact7_9 : (Tryz.prog.mayEnter) = true := by kernel_rfl
theorem fact7_10 : (Rows.storesKnownRow.lifted == Tryz.prog.liftsFinal) = true := by kernel_rfl
theorem cw7 : Rows.storesKnownRow.wfByText (OpenSpec.ofChange Rows.storesKnownSpec) = true := by kernel_rfl
theorem cm7 : Tryz.prog.mainIs = some (true, ("6fac96ebe54569f97cab989157ff8600b0f64b10956e1d40609f2ca4e8e8c1d7" : String).toList) := by kernel_rfl
theorem cf7 : Tryz.prog.funcNamed Rows.storesKnownRow.func = some 7 := by kernel_rfl
theorem cl7 : true = Tryz.prog.looks [] := by kernel_rfl
theorem cg7 : false = Rows.storesKnownRow.goesBy Tryz.prog := by kernel_rfl
theorem facts7 : joinedFacts Tryz.prog 7 Tryz.f7 Rows.storesKnownSpec Rows.storesKnownRow = true := by
  unfold joinedFacts
  rw [fact7_0, fact7_1, fact7_2, fact7_3, fact7_4, fact7_5, fact7_6, fact7_7, fact7_8, fact7_9, fact7_10]
  kernel_rfl
end Go.K
