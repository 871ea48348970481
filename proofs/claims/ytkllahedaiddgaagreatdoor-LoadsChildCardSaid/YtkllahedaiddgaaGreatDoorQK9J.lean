/- What the row says of the program. No condition. -/
import Derived.Test.YtkllahedaiddgaaGreatDoorChecked
import Derived.Test.YtkllahedaiddgaaGreatDoorRows
import Derived.Stop.Joined
import Derived.WalkKit
import Derived.JoinedOf
import Derived.SevenTiedAt
set_option linter.unusedSimpArgs false
set_option linter.unusedVariables false
namespace Go.K
open Go.Proofs Go.RowKit
open Go.Proofs.YtkllahedaiddgaaGreatDoor
theorem znz:(Rows.loadsChildRow.wf (OpenSpec.ofChange Rows.loadsChildSpec))=true:=by kernel_rfl
theorem znA:(laidOutB Tryz.prog)=true:=by kernel_rfl
theorem znB:(mapsRowed Tryz.prog)=true:=by kernel_rfl
theorem znC:(Rows.loadsChildRow.inPlace==Tryz.prog.inPlace 9)=true:=by kernel_rfl
theorem znD:(Rows.loadsChildRow.unfollowed==Tryz.prog.unfollowed 9)=true:=by kernel_rfl
theorem znE:(Rows.loadsChildRow.recurses==Tryz.prog.recurses 9)=true:=by kernel_rfl
theorem znF:(Rows.loadsChildRow.named==Tryz.prog.varsNamed 9)=true:=by kernel_rfl
theorem znG:(Rows.loadsChildRow.plainKeys==Tryz.prog.plainKeys)=true:=by kernel_rfl
theorem znH:(Tryz.prog.stopsHeard)=true:=by kernel_rfl
theorem znI:(Tryz.prog.mayEnter)=true:=by kernel_rfl
theorem zkt:(Rows.loadsChildRow.lifted==Tryz.prog.liftsFinal)=true:=by kernel_rfl
theorem cw9:Rows.loadsChildRow.wfByText (OpenSpec.ofChange Rows.loadsChildSpec)=true:=by kernel_rfl
theorem cm9:Tryz.prog.mainIs=some (true,("62ae0aa706a0c78825d22dda79fdf38a29da37409efa4e4c30e845216701d58d" : String).toList):=by kernel_rfl
theorem cf9:Tryz.prog.funcNamed Rows.loadsChildRow.func=some 9:=by kernel_rfl
theorem cl9:true=Tryz.prog.looks []:=by kernel_rfl
theorem cg9:false=Rows.loadsChildRow.goesBy Tryz.prog:=by kernel_rfl
theorem zuz:joinedFacts Tryz.prog 9 Tryz.f9 Rows.loadsChildSpec Rows.loadsChildRow=true:=by
 unfold joinedFacts
 rw[znz,znA,znB,znC,znD,znE,znF,znG,znH,znI,zkt]
 kernel_rfl
end Go.K
