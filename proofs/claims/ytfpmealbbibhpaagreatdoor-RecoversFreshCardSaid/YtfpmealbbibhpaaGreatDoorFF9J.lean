/- What the row says of the program. No condition. -/
import Derived.Test.YtfpmealbbibhpaaGreatDoorChecked
import Derived.Test.YtfpmealbbibhpaaGreatDoorRows
import Derived.Stop.Joined
import Derived.WalkKit
import Derived.JoinedOf
import Derived.SevenTiedAt
namespace Go.K
open Go.Proofs Go.RowKit
open Go.Proofs.YtfpmealbbibhpaaGreatDoor
theorem fact4_0 : (Rows.recoversFreshRow.wf (OpenSpec.ofChange Rows.recoversFreshSpec)) = true := by kernel_rfl
theorem fact4_1 : (laidOutB Tryz.prog) = true := by kernel_rfl
theorem fact4_2 : (mapsRowed Tryz.prog) = true := by kernel_rfl
theorem fact4_3 : (Rows.recoversFreshRow.inPlace == Tryz.prog.inPlace 4) = true := by kernel_rfl
theorem fact4_4 : (Rows.recoversFreshRow.unfollowed == Tryz.prog.unfollowed 4) = true := by kernel_rfl
theorem fact4_5 : (Rows.recoversFreshRow.recurses == Tryz.prog.recurses 4) = true := by kernel_rfl
theorem fact4_6 : (Rows.recoversFreshRow.named == Tryz.prog.varsNamed 4) = true := by kernel_rfl
theorem fact4_7 : (Rows.recoversFreshRow.plainKeys == Tryz.prog.plainKeys) = true := by kernel_rfl
theorem fact4_8 : (Tryz.prog.stopsHeard) = true := by kernel_rfl
theorem fact4_9 : (Tryz.prog.mayEnter) = true := by kernel_rfl
theorem fact4_10 : (Rows.recoversFreshRow.lifted == Tryz.prog.liftsFinal) = true := by kernel_rfl
theorem cw4 : Rows.recoversFreshRow.wfByText (OpenSpec.ofChange Rows.recoversFreshSpec) = true := by kernel_rfl
theorem cm4 : Tryz.prog.mainIs = some (true, ("6fac96ebe54569f97cab989157ff8600b0f64b10956e1d40609f2ca4e8e8c1d7" : String).toList) := by kernel_rfl
theorem cf4 : Tryz.prog.funcNamed Rows.recoversFreshRow.func = some 4 := by kernel_rfl
theorem cl4 : true = Tryz.prog.looks [] := by kernel_rfl
theorem cg4 : false = Rows.recoversFreshRow.goesBy Tryz.prog := by kernel_rfl
theorem facts4 : joinedFacts Tryz.prog 4 Tryz.f4 Rows.recoversFreshSpec Rows.recoversFreshRow = true := by
  unfold joinedFacts
  rw [fact4_0, fact4_1, fact4_2, fact4_3, fact4_4, fact4_5, fact4_6, fact4_7, fact4_8, fact4_9, fact4_10]
  kernel_rfl
end Go.K
