/- What the row says of the program. No condition. -/
import Derived.Test.YtfpmealbbibhpaaGreatDoorChecked
import Derived.Test.YtfpmealbbibhpaaGreatDoorRows
import Derived.Stop.Joined
import Derived.WalkKit
import Derived.JoinedOf
import Derived.SevenTiedAt
namespace Go.K
open Go.Proofs Go.RowKit
open Go.Proofs.YtfpmealbbibhpaaGreatDoor
theorem fact8_0:(Rows.storesOpenRow.wf (OpenSpec.ofChange Rows.storesOpenSpec))=true:=by kernel_rfl
theorem fact8_1:(laidOutB Tryz.prog)=true:=by kernel_rfl
theorem fact8_2:(mapsRowed Tryz.prog)=true:=by kernel_rfl
theorem fact8_3:(Rows.storesOpenRow.inPlace==Tryz.prog.inPlace 8)=true:=by kernel_rfl
theorem fact8_4:(Rows.storesOpenRow.unfollowed==Tryz.prog.unfollowed 8)=true:=by kernel_rfl
theorem fact8_5:(Rows.storesOpenRow.recurses==Tryz.prog.recurses 8)=true:=by kernel_rfl
theorem fact8_6:(Rows.storesOpenRow.named==Tryz.prog.varsNamed 8)=true:=by kernel_rfl
theorem fact8_7:(Rows.storesOpenRow.plainKeys==Tryz.prog.plainKeys)=true:=by kernel_rfl
theorem fact8_8:(Tryz.prog.stopsHeard)=true:=by kernel_rfl
theorem fact8_9:(Tryz.prog.mayEnter)=true:=by kernel_rfl
theorem fact8_10:(Rows.storesOpenRow.lifted==Tryz.prog.liftsFinal)=true:=by kernel_rfl
theorem cw8:Rows.storesOpenRow.wfByText (OpenSpec.ofChange Rows.storesOpenSpec)=true:=by kernel_rfl
theorem cm8:Tryz.prog.mainIs=some (true,("6fac96ebe54569f97cab989157ff8600b0f64b10956e1d40609f2ca4e8e8c1d7" : String).toList):=by kernel_rfl
theorem cf8:Tryz.prog.funcNamed Rows.storesOpenRow.func=some 8:=by kernel_rfl
theorem cl8:true=Tryz.prog.looks []:=by kernel_rfl
theorem cg8:false=Rows.storesOpenRow.goesBy Tryz.prog:=by kernel_rfl
theorem facts8:joinedFacts Tryz.prog 8 Tryz.f8 Rows.storesOpenSpec Rows.storesOpenRow=true:=by
  unfold joinedFacts
  rw[fact8_0,fact8_1,fact8_2,fact8_3,fact8_4,fact8_5,fact8_6,fact8_7,fact8_8,fact8_9,fact8_10]
  kernel_rfl
end Go.K
