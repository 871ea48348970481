/- What the row says of the program. No condition. -/
import Derived.Test.YtkllahedaiddgaaGreatDoorChecked
import Derived.Test.YtkllahedaiddgaaGreatDoorRows
import Derived.Stop.Joined
import Derived.WalkKit
import Derived.JoinedOf
import Derived.SevenTiedAt
namespace Go.K
open Go.Proofs Go.RowKit
open Go.Proofs.YtkllahedaiddgaaGreatDoor
theorem zqM:(Rows.commitsErrorsRow.wf (OpenSpec.ofChange Rows.commitsErrorsSpec))=true:=by kernel_rfl
theorem zqN:(laidOutB Tryz.prog)=true:=by kernel_rfl
theorem zqO:(mapsRowed Tryz.prog)=true:=by kernel_rfl
theorem zqP:(Rows.commitsErrorsRow.inPlace==Tryz.prog.inPlace 5)=true:=by kernel_rfl
theorem zqQ:(Rows.commitsErrorsRow.unfollowed==Tryz.prog.unfollowed 5)=true:=by kernel_rfl
theorem zqR:(Rows.commitsErrorsRow.recurses==Tryz.prog.recurses 5)=true:=by kernel_rfl
theorem zqS:(Rows.commitsErrorsRow.named==Tryz.prog.varsNamed 5)=true:=by kernel_rfl
theorem zqT:(Rows.commitsErrorsRow.plainKeys==Tryz.prog.plainKeys)=true:=by kernel_rfl
theorem zqU:(Tryz.prog.stopsHeard)=true:=by kernel_rfl
theorem zqV:(Tryz.prog.mayEnter)=true:=by kernel_rfl
theorem zln:(Rows.commitsErrorsRow.lifted==Tryz.prog.liftsFinal)=true:=by kernel_rfl
theorem cw5:Rows.commitsErrorsRow.wfByText (OpenSpec.ofChange Rows.commitsErrorsSpec)=true:=by kernel_rfl
theorem cm5:Tryz.prog.mainIs=some (true,("62ae0aa706a0c78825d22dda79fdf38a29da37409efa4e4c30e845216701d58d" : String).toList):=by kernel_rfl
theorem cf5:Tryz.prog.funcNamed Rows.commitsErrorsRow.func=some 5:=by kernel_rfl
theorem cl5:true=Tryz.prog.looks []:=by kernel_rfl
theorem cg5:false=Rows.commitsErrorsRow.goesBy Tryz.prog:=by kernel_rfl
theorem zwT:joinedFacts Tryz.prog 5 Tryz.f5 Rows.commitsErrorsSpec Rows.commitsErrorsRow=true:=by
 unfold joinedFacts
 rw[zqM,zqN,zqO,zqP,zqQ,zqR,zqS,zqT,zqU,zqV,zln]
 kernel_rfl
end Go.K
