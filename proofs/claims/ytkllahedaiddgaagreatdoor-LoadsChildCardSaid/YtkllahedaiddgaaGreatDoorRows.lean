/-
  NARROWER THAN 'FOR EVERY INPUT', by the rows' own cells (each row's printed sentence says how): CommitsPlan: laid · CommitsPut: laid · CommitsErrors: laid · LoadsWritten: laid · LoadsEdited: laid · LoadsSafe: laid · LoadsChild: laid · CommitsSafe: laid · RecoversCrafted: laid · CommitsApply: laid · RecoversWritten: laid · RecoversEdited: laid.
  DERIVED. THE GIVEN ROWS OF THIS SEAT. 12 by the template 'for every input the law returns true; each argument reads behind the call as it read before'; 0 by the template 'total and deterministic' (their statements: YtkllahedaiddgaaGreatDoorTotals.lean).
  GIVEN WITH THE SEED: the statements are not yours to turn. If you find one false, say at which input.
  Laid BY PROGRAM, IN A SANDBOX (cutbox-rows.mjs): the forced cells as the released guide's own fill.sh prints them over the translation 8b59efaa8968b051… (all of the seat's roots in one cut). By AI agents, Wed Nov 11 2026. No macro, syntax, notation, axiom, sorry.
-/
import Derived.Test.YtkllahedaiddgaaGreatDoorChecked
import GoSem.Claim
import GoSem.ClaimJoined
import GoSem.ClaimMapViews
import Derived.JoinedTies
import Derived.KernelRfl
namespace Go.Proofs.YtkllahedaiddgaaGreatDoor
/- THE CELL 'sum', in the pinned program and in every row, IS THE sha256 OF THE DUMP (.gsa) THAT YtkllahedaiddgaaGreatDoorProg.lean LOADS. Nothing in Lean hashes anything: it is a label: what it is worth is what the hold of that sum in a sandbox is worth. -/
noncomputable def Tryz.pinned : Pinned := { name := "ytkllahedaiddgaagreatdoor", sum := "8b59efaa8968b051c3dd2d88de2147ca1fb2b48e0278a4eae7de551f33d520e4", checked := Tryz.checked }
namespace Rows
def none {H : Type} : Left H := { results := [], args := [] }

/- WHAT THE LISTED PACKAGE-LEVEL VARIABLES READ AS WHEN THE CALL BEGINS. Each datum BY PROGRAM (the guide's laid-datum.mjs) off the statement by which the dump's own 'gosem.cut.vars' lays the variable. In a bare row this is a premise. The card (YtkllahedaiddgaaGreatDoorCards.lean) ties it to the program's text. -/
def laid_caisson_digests_initial {H : Type} : DataW H := .agg [.lit (.int .u32 1779033703), .lit (.int .u32 3144134277), .lit (.int .u32 1013904242), .lit (.int .u32 2773480762), .lit (.int .u32 1359893119), .lit (.int .u32 2600822924), .lit (.int .u32 528734635), .lit (.int .u32 1541459225)]
def laid_caisson_digests_constants {H : Type} : DataW H := .agg [.lit (.int .u32 1116352408), .lit (.int .u32 1899447441), .lit (.int .u32 3049323471), .lit (.int .u32 3921009573), .lit (.int .u32 961987163), .lit (.int .u32 1508970993), .lit (.int .u32 2453635748), .lit (.int .u32 2870763221), .lit (.int .u32 3624381080), .lit (.int .u32 310598401), .lit (.int .u32 607225278), .lit (.int .u32 1426881987), .lit (.int .u32 1925078388), .lit (.int .u32 2162078206), .lit (.int .u32 2614888103), .lit (.int .u32 3248222580), .lit (.int .u32 3835390401), .lit (.int .u32 4022224774), .lit (.int .u32 264347078), .lit (.int .u32 604807628), .lit (.int .u32 770255983), .lit (.int .u32 1249150122), .lit (.int .u32 1555081692), .lit (.int .u32 1996064986), .lit (.int .u32 2554220882), .lit (.int .u32 2821834349), .lit (.int .u32 2952996808), .lit (.int .u32 3210313671), .lit (.int .u32 3336571891), .lit (.int .u32 3584528711), .lit (.int .u32 113926993), .lit (.int .u32 338241895), .lit (.int .u32 666307205), .lit (.int .u32 773529912), .lit (.int .u32 1294757372), .lit (.int .u32 1396182291), .lit (.int .u32 1695183700), .lit (.int .u32 1986661051), .lit (.int .u32 2177026350), .lit (.int .u32 2456956037), .lit (.int .u32 2730485921), .lit (.int .u32 2820302411), .lit (.int .u32 3259730800), .lit (.int .u32 3345764771), .lit (.int .u32 3516065817), .lit (.int .u32 3600352804), .lit (.int .u32 4094571909), .lit (.int .u32 275423344), .lit (.int .u32 430227734), .lit (.int .u32 506948616), .lit (.int .u32 659060556), .lit (.int .u32 883997877), .lit (.int .u32 958139571), .lit (.int .u32 1322822218), .lit (.int .u32 1537002063), .lit (.int .u32 1747873779), .lit (.int .u32 1955562222), .lit (.int .u32 2024104815), .lit (.int .u32 2227730452), .lit (.int .u32 2361852424), .lit (.int .u32 2428436474), .lit (.int .u32 2756734187), .lit (.int .u32 3204031479), .lit (.int .u32 3329325298)]
def laid_caisson_nodes_sizes {H : Type} : DataW H := .agg [.lit (.int .i64 45), .lit (.int .i64 33)]
def laid_errors_errorType {H : Type} : DataW H := .iface "internal/reflectlite.rtype" (.agg [.ptr (.lit (.string [101, 114, 114, 111, 114]))])

/-- 'caissonlaw19.CommitsPlan': WHATEVER THE INPUT: true; the input reads as it did. -/
def commitsPlanSpec : ChangeSpec := { name := "commitsPlan", fn := fun _ => fun
  | [d1, d2] => { results := [.lit (.bool true)], args := [d1, d2] }
  | _ => none }
def commitsPlanRow : OpenClaim := { program := "ytkllahedaiddgaagreatdoor", sum := "8b59efaa8968b051c3dd2d88de2147ca1fb2b48e0278a4eae7de551f33d520e4", func := "caisson/caissonlaw19.CommitsPlan", spec := "commitsPlan", unfollowed := true, recurses := true, named := ["caisson/nodes.sizes", "caisson/digests.initial", "caisson/digests.constants"], apart := false, laid := [("caisson/digests.initial", laid_caisson_digests_initial), ("caisson/digests.constants", laid_caisson_digests_constants), ("caisson/nodes.sizes", laid_caisson_nodes_sizes)] }
def CommitsPlanSaid : Prop := commitsPlanRow.holds Tryz.pinned (OpenSpec.ofChange commitsPlanSpec)

/-- ITS FALSE NEIGHBOUR: 'it returns false'. Refute it at one input. -/
def commitsPlanWrong : ChangeSpec := { name := "commitsPlan", fn := fun _ => fun
  | [d1, d2] => { results := [.lit (.bool false)], args := [d1, d2] }
  | _ => none }
def CommitsPlanWrongFalsely : Prop := commitsPlanRow.holds Tryz.pinned (OpenSpec.ofChange commitsPlanWrong)

/-- 'caissonlaw19.CommitsPut': WHATEVER THE INPUT: true; the input reads as it did. -/
def commitsPutSpec : ChangeSpec := { name := "commitsPut", fn := fun _ => fun
  | [d1, d2, d3] => { results := [.lit (.bool true)], args := [d1, d2, d3] }
  | _ => none }
def commitsPutRow : OpenClaim := { program := "ytkllahedaiddgaagreatdoor", sum := "8b59efaa8968b051c3dd2d88de2147ca1fb2b48e0278a4eae7de551f33d520e4", func := "caisson/caissonlaw19.CommitsPut", spec := "commitsPut", unfollowed := true, recurses := true, named := ["caisson/nodes.sizes", "caisson/digests.initial", "caisson/digests.constants"], apart := false, laid := [("caisson/digests.initial", laid_caisson_digests_initial), ("caisson/digests.constants", laid_caisson_digests_constants), ("caisson/nodes.sizes", laid_caisson_nodes_sizes)] }
def CommitsPutSaid : Prop := commitsPutRow.holds Tryz.pinned (OpenSpec.ofChange commitsPutSpec)

/-- ITS FALSE NEIGHBOUR: 'it returns false'. Refute it at one input. -/
def commitsPutWrong : ChangeSpec := { name := "commitsPut", fn := fun _ => fun
  | [d1, d2, d3] => { results := [.lit (.bool false)], args := [d1, d2, d3] }
  | _ => none }
def CommitsPutWrongFalsely : Prop := commitsPutRow.holds Tryz.pinned (OpenSpec.ofChange commitsPutWrong)

/-- 'caissonlaw19.CommitsErrors': WHATEVER THE INPUT: true; the input reads as it did. -/
def commitsErrorsSpec : ChangeSpec := { name := "commitsErrors", fn := fun _ => fun
  | [d1, d2, d3] => { results := [.lit (.bool true)], args := [d1, d2, d3] }
  | _ => none }
def commitsErrorsRow : OpenClaim := { program := "ytkllahedaiddgaagreatdoor", sum := "8b59efaa8968b051c3dd2d88de2147ca1fb2b48e0278a4eae7de551f33d520e4", func := "caisson/caissonlaw19.CommitsErrors", spec := "commitsErrors", unfollowed := true, recurses := true, named := ["caisson/nodes.sizes", "caisson/digests.initial", "caisson/digests.constants"], apart := false, laid := [("caisson/digests.initial", laid_caisson_digests_initial), ("caisson/digests.constants", laid_caisson_digests_constants), ("caisson/nodes.sizes", laid_caisson_nodes_sizes)] }
def CommitsErrorsSaid : Prop := commitsErrorsRow.holds Tryz.pinned (OpenSpec.ofChange commitsErrorsSpec)

/-- ITS FALSE NEIGHBOUR: 'it returns false'. Refute it at one input. -/
def commitsErrorsWrong : ChangeSpec := { name := "commitsErrors", fn := fun _ => fun
  | [d1, d2, d3] => { results := [.lit (.bool false)], args := [d1, d2, d3] }
  | _ => none }
def CommitsErrorsWrongFalsely : Prop := commitsErrorsRow.holds Tryz.pinned (OpenSpec.ofChange commitsErrorsWrong)

/-- 'caissonlaw17.LoadsWritten': WHATEVER THE INPUT: true; the input reads as it did. -/
def loadsWrittenSpec : ChangeSpec := { name := "loadsWritten", fn := fun _ => fun
  | [d1, d2] => { results := [.lit (.bool true)], args := [d1, d2] }
  | _ => none }
def loadsWrittenRow : OpenClaim := { program := "ytkllahedaiddgaagreatdoor", sum := "8b59efaa8968b051c3dd2d88de2147ca1fb2b48e0278a4eae7de551f33d520e4", func := "caisson/caissonlaw17.LoadsWritten", spec := "loadsWritten", unfollowed := true, recurses := true, named := ["caisson/nodes.sizes", "caisson/digests.initial", "caisson/digests.constants"], apart := false, laid := [("caisson/digests.initial", laid_caisson_digests_initial), ("caisson/digests.constants", laid_caisson_digests_constants), ("caisson/nodes.sizes", laid_caisson_nodes_sizes)] }
def LoadsWrittenSaid : Prop := loadsWrittenRow.holds Tryz.pinned (OpenSpec.ofChange loadsWrittenSpec)

/-- ITS FALSE NEIGHBOUR: 'it returns false'. Refute it at one input. -/
def loadsWrittenWrong : ChangeSpec := { name := "loadsWritten", fn := fun _ => fun
  | [d1, d2] => { results := [.lit (.bool false)], args := [d1, d2] }
  | _ => none }
def LoadsWrittenWrongFalsely : Prop := loadsWrittenRow.holds Tryz.pinned (OpenSpec.ofChange loadsWrittenWrong)

/-- 'caissonlaw17.LoadsEdited': WHATEVER THE INPUT: true; the input reads as it did. -/
def loadsEditedSpec : ChangeSpec := { name := "loadsEdited", fn := fun _ => fun
  | [d1, d2, d3] => { results := [.lit (.bool true)], args := [d1, d2, d3] }
  | _ => none }
def loadsEditedRow : OpenClaim := { program := "ytkllahedaiddgaagreatdoor", sum := "8b59efaa8968b051c3dd2d88de2147ca1fb2b48e0278a4eae7de551f33d520e4", func := "caisson/caissonlaw17.LoadsEdited", spec := "loadsEdited", unfollowed := true, recurses := true, named := ["caisson/nodes.sizes", "caisson/digests.initial", "caisson/digests.constants"], apart := false, laid := [("caisson/digests.initial", laid_caisson_digests_initial), ("caisson/digests.constants", laid_caisson_digests_constants), ("caisson/nodes.sizes", laid_caisson_nodes_sizes)] }
def LoadsEditedSaid : Prop := loadsEditedRow.holds Tryz.pinned (OpenSpec.ofChange loadsEditedSpec)

/-- ITS FALSE NEIGHBOUR: 'it returns false'. Refute it at one input. -/
def loadsEditedWrong : ChangeSpec := { name := "loadsEdited", fn := fun _ => fun
  | [d1, d2, d3] => { results := [.lit (.bool false)], args := [d1, d2, d3] }
  | _ => none }
def LoadsEditedWrongFalsely : Prop := loadsEditedRow.holds Tryz.pinned (OpenSpec.ofChange loadsEditedWrong)

/-- 'caissonlaw17.LoadsSafe': WHATEVER THE INPUT: true; the input reads as it did. -/
def loadsSafeSpec : ChangeSpec := { name := "loadsSafe", fn := fun _ => fun
  | [d1, d2, d3] => { results := [.lit (.bool true)], args := [d1, d2, d3] }
  | _ => none }
def loadsSafeRow : OpenClaim := { program := "ytkllahedaiddgaagreatdoor", sum := "8b59efaa8968b051c3dd2d88de2147ca1fb2b48e0278a4eae7de551f33d520e4", func := "caisson/caissonlaw17.LoadsSafe", spec := "loadsSafe", unfollowed := true, recurses := true, named := ["caisson/nodes.sizes", "caisson/digests.initial", "caisson/digests.constants"], apart := false, laid := [("caisson/digests.initial", laid_caisson_digests_initial), ("caisson/digests.constants", laid_caisson_digests_constants), ("caisson/nodes.sizes", laid_caisson_nodes_sizes)] }
def LoadsSafeSaid : Prop := loadsSafeRow.holds Tryz.pinned (OpenSpec.ofChange loadsSafeSpec)

/-- ITS FALSE NEIGHBOUR: 'it returns false'. Refute it at one input. -/
def loadsSafeWrong : ChangeSpec := { name := "loadsSafe", fn := fun _ => fun
  | [d1, d2, d3] => { results := [.lit (.bool false)], args := [d1, d2, d3] }
  | _ => none }
def LoadsSafeWrongFalsely : Prop := loadsSafeRow.holds Tryz.pinned (OpenSpec.ofChange loadsSafeWrong)

/-- 'caissonlaw17.LoadsChild': WHATEVER THE INPUT: true; the input reads as it did. -/
def loadsChildSpec : ChangeSpec := { name := "loadsChild", fn := fun _ => fun
  | [d1, d2, d3] => { results := [.lit (.bool true)], args := [d1, d2, d3] }
  | _ => none }
def loadsChildRow : OpenClaim := { program := "ytkllahedaiddgaagreatdoor", sum := "8b59efaa8968b051c3dd2d88de2147ca1fb2b48e0278a4eae7de551f33d520e4", func := "caisson/caissonlaw17.LoadsChild", spec := "loadsChild", unfollowed := true, recurses := true, named := ["caisson/nodes.sizes", "caisson/digests.initial", "caisson/digests.constants"], apart := false, laid := [("caisson/digests.initial", laid_caisson_digests_initial), ("caisson/digests.constants", laid_caisson_digests_constants), ("caisson/nodes.sizes", laid_caisson_nodes_sizes)] }
def LoadsChildSaid : Prop := loadsChildRow.holds Tryz.pinned (OpenSpec.ofChange loadsChildSpec)

/-- ITS FALSE NEIGHBOUR: 'it returns false'. Refute it at one input. -/
def loadsChildWrong : ChangeSpec := { name := "loadsChild", fn := fun _ => fun
  | [d1, d2, d3] => { results := [.lit (.bool false)], args := [d1, d2, d3] }
  | _ => none }
def LoadsChildWrongFalsely : Prop := loadsChildRow.holds Tryz.pinned (OpenSpec.ofChange loadsChildWrong)

/-- 'caissonlaw19.CommitsSafe': WHATEVER THE INPUT: true; the input reads as it did. -/
def commitsSafeSpec : ChangeSpec := { name := "commitsSafe", fn := fun _ => fun
  | [d1, d2, d3] => { results := [.lit (.bool true)], args := [d1, d2, d3] }
  | _ => none }
def commitsSafeRow : OpenClaim := { program := "ytkllahedaiddgaagreatdoor", sum := "8b59efaa8968b051c3dd2d88de2147ca1fb2b48e0278a4eae7de551f33d520e4", func := "caisson/caissonlaw19.CommitsSafe", spec := "commitsSafe", unfollowed := true, recurses := true, named := ["caisson/nodes.sizes", "caisson/digests.initial", "caisson/digests.constants"], apart := false, laid := [("caisson/digests.initial", laid_caisson_digests_initial), ("caisson/digests.constants", laid_caisson_digests_constants), ("caisson/nodes.sizes", laid_caisson_nodes_sizes)] }
def CommitsSafeSaid : Prop := commitsSafeRow.holds Tryz.pinned (OpenSpec.ofChange commitsSafeSpec)

/-- ITS FALSE NEIGHBOUR: 'it returns false'. Refute it at one input. -/
def commitsSafeWrong : ChangeSpec := { name := "commitsSafe", fn := fun _ => fun
  | [d1, d2, d3] => { results := [.lit (.bool false)], args := [d1, d2, d3] }
  | _ => none }
def CommitsSafeWrongFalsely : Prop := commitsSafeRow.holds Tryz.pinned (OpenSpec.ofChange commitsSafeWrong)

/-- 'caissonlaw20.RecoversCrafted': WHATEVER THE INPUT: true; the input reads as it did. -/
def recoversCraftedSpec : ChangeSpec := { name := "recoversCrafted", fn := fun _ => fun
  | [d1, d2, d3] => { results := [.lit (.bool true)], args := [d1, d2, d3] }
  | _ => none }
def recoversCraftedRow : OpenClaim := { program := "ytkllahedaiddgaagreatdoor", sum := "8b59efaa8968b051c3dd2d88de2147ca1fb2b48e0278a4eae7de551f33d520e4", func := "caisson/caissonlaw20.RecoversCrafted", spec := "recoversCrafted", inPlace := ["internal/reflectlite.ValueOf", "(internal/reflectlite.Value).Type", "(internal/reflectlite.Value).IsNil", "internal/reflectlite.TypeOf", "(internal/reflectlite.Value).Elem", "(internal/reflectlite.Value).Set"], unfollowed := true, recurses := true, named := ["caisson/nodes.sizes", "caisson/digests.initial", "caisson/digests.constants", "errors.errorType"], apart := false, laid := [("caisson/digests.initial", laid_caisson_digests_initial), ("caisson/digests.constants", laid_caisson_digests_constants), ("errors.errorType", laid_errors_errorType), ("caisson/nodes.sizes", laid_caisson_nodes_sizes)] }
def RecoversCraftedSaid : Prop := recoversCraftedRow.holds Tryz.pinned (OpenSpec.ofChange recoversCraftedSpec)

/-- ITS FALSE NEIGHBOUR: 'it returns false'. Refute it at one input. -/
def recoversCraftedWrong : ChangeSpec := { name := "recoversCrafted", fn := fun _ => fun
  | [d1, d2, d3] => { results := [.lit (.bool false)], args := [d1, d2, d3] }
  | _ => none }
def RecoversCraftedWrongFalsely : Prop := recoversCraftedRow.holds Tryz.pinned (OpenSpec.ofChange recoversCraftedWrong)

/-- 'caissonlaw19.CommitsApply': WHATEVER THE INPUT: true; the input reads as it did. -/
def commitsApplySpec : ChangeSpec := { name := "commitsApply", fn := fun _ => fun
  | [d1, d2, d3] => { results := [.lit (.bool true)], args := [d1, d2, d3] }
  | _ => none }
def commitsApplyRow : OpenClaim := { program := "ytkllahedaiddgaagreatdoor", sum := "8b59efaa8968b051c3dd2d88de2147ca1fb2b48e0278a4eae7de551f33d520e4", func := "caisson/caissonlaw19.CommitsApply", spec := "commitsApply", unfollowed := true, recurses := true, named := ["caisson/nodes.sizes", "caisson/digests.initial", "caisson/digests.constants"], apart := false, laid := [("caisson/digests.initial", laid_caisson_digests_initial), ("caisson/digests.constants", laid_caisson_digests_constants), ("caisson/nodes.sizes", laid_caisson_nodes_sizes)] }
def CommitsApplySaid : Prop := commitsApplyRow.holds Tryz.pinned (OpenSpec.ofChange commitsApplySpec)

/-- ITS FALSE NEIGHBOUR: 'it returns false'. Refute it at one input. -/
def commitsApplyWrong : ChangeSpec := { name := "commitsApply", fn := fun _ => fun
  | [d1, d2, d3] => { results := [.lit (.bool false)], args := [d1, d2, d3] }
  | _ => none }
def CommitsApplyWrongFalsely : Prop := commitsApplyRow.holds Tryz.pinned (OpenSpec.ofChange commitsApplyWrong)

/-- 'caissonlaw20.RecoversWritten': WHATEVER THE INPUT: true; the input reads as it did. -/
def recoversWrittenSpec : ChangeSpec := { name := "recoversWritten", fn := fun _ => fun
  | [d] => { results := [.lit (.bool true)], args := [d] }
  | _ => none }
def recoversWrittenRow : OpenClaim := { program := "ytkllahedaiddgaagreatdoor", sum := "8b59efaa8968b051c3dd2d88de2147ca1fb2b48e0278a4eae7de551f33d520e4", func := "caisson/caissonlaw20.RecoversWritten", spec := "recoversWritten", inPlace := ["internal/reflectlite.ValueOf", "(internal/reflectlite.Value).Type", "(internal/reflectlite.Value).IsNil", "internal/reflectlite.TypeOf", "(internal/reflectlite.Value).Elem", "(internal/reflectlite.Value).Set"], unfollowed := true, recurses := true, named := ["caisson/nodes.sizes", "caisson/digests.initial", "caisson/digests.constants", "errors.errorType"], apart := false, laid := [("caisson/digests.initial", laid_caisson_digests_initial), ("caisson/digests.constants", laid_caisson_digests_constants), ("errors.errorType", laid_errors_errorType), ("caisson/nodes.sizes", laid_caisson_nodes_sizes)] }
def RecoversWrittenSaid : Prop := recoversWrittenRow.holds Tryz.pinned (OpenSpec.ofChange recoversWrittenSpec)

/-- ITS FALSE NEIGHBOUR: 'it returns false'. Refute it at one input. -/
def recoversWrittenWrong : ChangeSpec := { name := "recoversWritten", fn := fun _ => fun
  | [d] => { results := [.lit (.bool false)], args := [d] }
  | _ => none }
def RecoversWrittenWrongFalsely : Prop := recoversWrittenRow.holds Tryz.pinned (OpenSpec.ofChange recoversWrittenWrong)

/-- 'caissonlaw20.RecoversEdited': WHATEVER THE INPUT: true; the input reads as it did. -/
def recoversEditedSpec : ChangeSpec := { name := "recoversEdited", fn := fun _ => fun
  | [d1, d2] => { results := [.lit (.bool true)], args := [d1, d2] }
  | _ => none }
def recoversEditedRow : OpenClaim := { program := "ytkllahedaiddgaagreatdoor", sum := "8b59efaa8968b051c3dd2d88de2147ca1fb2b48e0278a4eae7de551f33d520e4", func := "caisson/caissonlaw20.RecoversEdited", spec := "recoversEdited", inPlace := ["internal/reflectlite.ValueOf", "(internal/reflectlite.Value).Type", "(internal/reflectlite.Value).IsNil", "internal/reflectlite.TypeOf", "(internal/reflectlite.Value).Elem", "(internal/reflectlite.Value).Set"], unfollowed := true, recurses := true, named := ["caisson/nodes.sizes", "caisson/digests.initial", "caisson/digests.constants", "errors.errorType"], apart := false, laid := [("caisson/digests.initial", laid_caisson_digests_initial), ("caisson/digests.constants", laid_caisson_digests_constants), ("errors.errorType", laid_errors_errorType), ("caisson/nodes.sizes", laid_caisson_nodes_sizes)] }
def RecoversEditedSaid : Prop := recoversEditedRow.holds Tryz.pinned (OpenSpec.ofChange recoversEditedSpec)

/-- ITS FALSE NEIGHBOUR: 'it returns false'. Refute it at one input. -/
def recoversEditedWrong : ChangeSpec := { name := "recoversEdited", fn := fun _ => fun
  | [d1, d2] => { results := [.lit (.bool false)], args := [d1, d2] }
  | _ => none }
def RecoversEditedWrongFalsely : Prop := recoversEditedRow.holds Tryz.pinned (OpenSpec.ofChange recoversEditedWrong)

/- THE SECOND FORM. 'bulk': how many values and letters a reading holds, each counted each time it is reached (what is shared counts as often as it is met; a slice's spare places count too). A statement '..UptoSaid' is the law's where the arguments, and the package variables that the reading takes, are together of bulk at most 1048576: NARROWER than '..Said'. Prove '..Said' where nothing that the law and all that it calls make is longer than what came in: it says more and counts as full. Else prove '..UptoSaid'. A law counts once. -/
mutual
def uptoBulk {H : Type} : DataW H → Nat
  | .lit (.string bytes) => bytes.length + 1
  | .lit _ => 1
  | .nil => 1
  | .ptr d => uptoBulk d + 1
  | .slice elems spare => uptoBulkAll elems + uptoBulkAll spare + 1
  | .agg parts => uptoBulkAll parts + 1
  | .iface _ d => uptoBulk d + 1
  | .map entries => uptoBulkEntries entries + 1
  | .held _ => 1
def uptoBulkAll {H : Type} : List (DataW H) → Nat
  | [] => 0
  | d :: r => uptoBulk d + uptoBulkAll r
def uptoBulkEntries {H : Type} : List (Lit × DataW H) → Nat
  | [] => 0
  | x :: r => uptoBulkEntry x + uptoBulkEntries r
def uptoBulkEntry {H : Type} : Lit × DataW H → Nat
  | (.string bytes, d) => bytes.length + uptoBulk d + 1
  | (_, d) => uptoBulk d + 1
 end
def uptoSmall : (H : Type) → List (DataW H) → Bool := fun _ ds => decide (uptoBulkAll ds ≤ 1048576)
def OpenSpec.upto (s : _root_.Go.ChangeSpec) : _root_.Go.OpenSpec := { _root_.Go.OpenSpec.ofChange s with cond := some uptoSmall }

/-- 'caissonlaw19.CommitsPlan', WHERE WHAT IT READS IS OF BULK AT MOST 1048576: true; the input reads as it did. -/
def commitsPlanUptoRow : OpenClaim := { program := "ytkllahedaiddgaagreatdoor", sum := "8b59efaa8968b051c3dd2d88de2147ca1fb2b48e0278a4eae7de551f33d520e4", func := "caisson/caissonlaw19.CommitsPlan", spec := "commitsPlan", unfollowed := true, recurses := true, named := ["caisson/nodes.sizes", "caisson/digests.initial", "caisson/digests.constants"], apart := false, laid := [("caisson/digests.initial", laid_caisson_digests_initial), ("caisson/digests.constants", laid_caisson_digests_constants), ("caisson/nodes.sizes", laid_caisson_nodes_sizes)], narrowed := true }
def CommitsPlanUptoSaid : Prop := commitsPlanUptoRow.holds Tryz.pinned (OpenSpec.upto commitsPlanSpec)

/-- 'caissonlaw19.CommitsPut', WHERE WHAT IT READS IS OF BULK AT MOST 1048576: true; the input reads as it did. -/
def commitsPutUptoRow : OpenClaim := { program := "ytkllahedaiddgaagreatdoor", sum := "8b59efaa8968b051c3dd2d88de2147ca1fb2b48e0278a4eae7de551f33d520e4", func := "caisson/caissonlaw19.CommitsPut", spec := "commitsPut", unfollowed := true, recurses := true, named := ["caisson/nodes.sizes", "caisson/digests.initial", "caisson/digests.constants"], apart := false, laid := [("caisson/digests.initial", laid_caisson_digests_initial), ("caisson/digests.constants", laid_caisson_digests_constants), ("caisson/nodes.sizes", laid_caisson_nodes_sizes)], narrowed := true }
def CommitsPutUptoSaid : Prop := commitsPutUptoRow.holds Tryz.pinned (OpenSpec.upto commitsPutSpec)

/-- 'caissonlaw19.CommitsErrors', WHERE WHAT IT READS IS OF BULK AT MOST 1048576: true; the input reads as it did. -/
def commitsErrorsUptoRow : OpenClaim := { program := "ytkllahedaiddgaagreatdoor", sum := "8b59efaa8968b051c3dd2d88de2147ca1fb2b48e0278a4eae7de551f33d520e4", func := "caisson/caissonlaw19.CommitsErrors", spec := "commitsErrors", unfollowed := true, recurses := true, named := ["caisson/nodes.sizes", "caisson/digests.initial", "caisson/digests.constants"], apart := false, laid := [("caisson/digests.initial", laid_caisson_digests_initial), ("caisson/digests.constants", laid_caisson_digests_constants), ("caisson/nodes.sizes", laid_caisson_nodes_sizes)], narrowed := true }
def CommitsErrorsUptoSaid : Prop := commitsErrorsUptoRow.holds Tryz.pinned (OpenSpec.upto commitsErrorsSpec)

/-- 'caissonlaw17.LoadsWritten', WHERE WHAT IT READS IS OF BULK AT MOST 1048576: true; the input reads as it did. -/
def loadsWrittenUptoRow : OpenClaim := { program := "ytkllahedaiddgaagreatdoor", sum := "8b59efaa8968b051c3dd2d88de2147ca1fb2b48e0278a4eae7de551f33d520e4", func := "caisson/caissonlaw17.LoadsWritten", spec := "loadsWritten", unfollowed := true, recurses := true, named := ["caisson/nodes.sizes", "caisson/digests.initial", "caisson/digests.constants"], apart := false, laid := [("caisson/digests.initial", laid_caisson_digests_initial), ("caisson/digests.constants", laid_caisson_digests_constants), ("caisson/nodes.sizes", laid_caisson_nodes_sizes)], narrowed := true }
def LoadsWrittenUptoSaid : Prop := loadsWrittenUptoRow.holds Tryz.pinned (OpenSpec.upto loadsWrittenSpec)

/-- 'caissonlaw17.LoadsEdited', WHERE WHAT IT READS IS OF BULK AT MOST 1048576: true; the input reads as it did. -/
def loadsEditedUptoRow : OpenClaim := { program := "ytkllahedaiddgaagreatdoor", sum := "8b59efaa8968b051c3dd2d88de2147ca1fb2b48e0278a4eae7de551f33d520e4", func := "caisson/caissonlaw17.LoadsEdited", spec := "loadsEdited", unfollowed := true, recurses := true, named := ["caisson/nodes.sizes", "caisson/digests.initial", "caisson/digests.constants"], apart := false, laid := [("caisson/digests.initial", laid_caisson_digests_initial), ("caisson/digests.constants", laid_caisson_digests_constants), ("caisson/nodes.sizes", laid_caisson_nodes_sizes)], narrowed := true }
def LoadsEditedUptoSaid : Prop := loadsEditedUptoRow.holds Tryz.pinned (OpenSpec.upto loadsEditedSpec)

/-- 'caissonlaw17.LoadsSafe', WHERE WHAT IT READS IS OF BULK AT MOST 1048576: true; the input reads as it did. -/
def loadsSafeUptoRow : OpenClaim := { program := "ytkllahedaiddgaagreatdoor", sum := "8b59efaa8968b051c3dd2d88de2147ca1fb2b48e0278a4eae7de551f33d520e4", func := "caisson/caissonlaw17.LoadsSafe", spec := "loadsSafe", unfollowed := true, recurses := true, named := ["caisson/nodes.sizes", "caisson/digests.initial", "caisson/digests.constants"], apart := false, laid := [("caisson/digests.initial", laid_caisson_digests_initial), ("caisson/digests.constants", laid_caisson_digests_constants), ("caisson/nodes.sizes", laid_caisson_nodes_sizes)], narrowed := true }
def LoadsSafeUptoSaid : Prop := loadsSafeUptoRow.holds Tryz.pinned (OpenSpec.upto loadsSafeSpec)

/-- 'caissonlaw17.LoadsChild', WHERE WHAT IT READS IS OF BULK AT MOST 1048576: true; the input reads as it did. -/
def loadsChildUptoRow : OpenClaim := { program := "ytkllahedaiddgaagreatdoor", sum := "8b59efaa8968b051c3dd2d88de2147ca1fb2b48e0278a4eae7de551f33d520e4", func := "caisson/caissonlaw17.LoadsChild", spec := "loadsChild", unfollowed := true, recurses := true, named := ["caisson/nodes.sizes", "caisson/digests.initial", "caisson/digests.constants"], apart := false, laid := [("caisson/digests.initial", laid_caisson_digests_initial), ("caisson/digests.constants", laid_caisson_digests_constants), ("caisson/nodes.sizes", laid_caisson_nodes_sizes)], narrowed := true }
def LoadsChildUptoSaid : Prop := loadsChildUptoRow.holds Tryz.pinned (OpenSpec.upto loadsChildSpec)

/-- 'caissonlaw19.CommitsSafe', WHERE WHAT IT READS IS OF BULK AT MOST 1048576: true; the input reads as it did. -/
def commitsSafeUptoRow : OpenClaim := { program := "ytkllahedaiddgaagreatdoor", sum := "8b59efaa8968b051c3dd2d88de2147ca1fb2b48e0278a4eae7de551f33d520e4", func := "caisson/caissonlaw19.CommitsSafe", spec := "commitsSafe", unfollowed := true, recurses := true, named := ["caisson/nodes.sizes", "caisson/digests.initial", "caisson/digests.constants"], apart := false, laid := [("caisson/digests.initial", laid_caisson_digests_initial), ("caisson/digests.constants", laid_caisson_digests_constants), ("caisson/nodes.sizes", laid_caisson_nodes_sizes)], narrowed := true }
def CommitsSafeUptoSaid : Prop := commitsSafeUptoRow.holds Tryz.pinned (OpenSpec.upto commitsSafeSpec)

/-- 'caissonlaw20.RecoversCrafted', WHERE WHAT IT READS IS OF BULK AT MOST 1048576: true; the input reads as it did. -/
def recoversCraftedUptoRow : OpenClaim := { program := "ytkllahedaiddgaagreatdoor", sum := "8b59efaa8968b051c3dd2d88de2147ca1fb2b48e0278a4eae7de551f33d520e4", func := "caisson/caissonlaw20.RecoversCrafted", spec := "recoversCrafted", inPlace := ["internal/reflectlite.ValueOf", "(internal/reflectlite.Value).Type", "(internal/reflectlite.Value).IsNil", "internal/reflectlite.TypeOf", "(internal/reflectlite.Value).Elem", "(internal/reflectlite.Value).Set"], unfollowed := true, recurses := true, named := ["caisson/nodes.sizes", "caisson/digests.initial", "caisson/digests.constants", "errors.errorType"], apart := false, laid := [("caisson/digests.initial", laid_caisson_digests_initial), ("caisson/digests.constants", laid_caisson_digests_constants), ("errors.errorType", laid_errors_errorType), ("caisson/nodes.sizes", laid_caisson_nodes_sizes)], narrowed := true }
def RecoversCraftedUptoSaid : Prop := recoversCraftedUptoRow.holds Tryz.pinned (OpenSpec.upto recoversCraftedSpec)

/-- 'caissonlaw19.CommitsApply', WHERE WHAT IT READS IS OF BULK AT MOST 1048576: true; the input reads as it did. -/
def commitsApplyUptoRow : OpenClaim := { program := "ytkllahedaiddgaagreatdoor", sum := "8b59efaa8968b051c3dd2d88de2147ca1fb2b48e0278a4eae7de551f33d520e4", func := "caisson/caissonlaw19.CommitsApply", spec := "commitsApply", unfollowed := true, recurses := true, named := ["caisson/nodes.sizes", "caisson/digests.initial", "caisson/digests.constants"], apart := false, laid := [("caisson/digests.initial", laid_caisson_digests_initial), ("caisson/digests.constants", laid_caisson_digests_constants), ("caisson/nodes.sizes", laid_caisson_nodes_sizes)], narrowed := true }
def CommitsApplyUptoSaid : Prop := commitsApplyUptoRow.holds Tryz.pinned (OpenSpec.upto commitsApplySpec)

/-- 'caissonlaw20.RecoversWritten', WHERE WHAT IT READS IS OF BULK AT MOST 1048576: true; the input reads as it did. -/
def recoversWrittenUptoRow : OpenClaim := { program := "ytkllahedaiddgaagreatdoor", sum := "8b59efaa8968b051c3dd2d88de2147ca1fb2b48e0278a4eae7de551f33d520e4", func := "caisson/caissonlaw20.RecoversWritten", spec := "recoversWritten", inPlace := ["internal/reflectlite.ValueOf", "(internal/reflectlite.Value).Type", "(internal/reflectlite.Value).IsNil", "internal/reflectlite.TypeOf", "(internal/reflectlite.Value).Elem", "(internal/reflectlite.Value).Set"], unfollowed := true, recurses := true, named := ["caisson/nodes.sizes", "caisson/digests.initial", "caisson/digests.constants", "errors.errorType"], apart := false, laid := [("caisson/digests.initial", laid_caisson_digests_initial), ("caisson/digests.constants", laid_caisson_digests_constants), ("errors.errorType", laid_errors_errorType), ("caisson/nodes.sizes", laid_caisson_nodes_sizes)], narrowed := true }
def RecoversWrittenUptoSaid : Prop := recoversWrittenUptoRow.holds Tryz.pinned (OpenSpec.upto recoversWrittenSpec)

/-- 'caissonlaw20.RecoversEdited', WHERE WHAT IT READS IS OF BULK AT MOST 1048576: true; the input reads as it did. -/
def recoversEditedUptoRow : OpenClaim := { program := "ytkllahedaiddgaagreatdoor", sum := "8b59efaa8968b051c3dd2d88de2147ca1fb2b48e0278a4eae7de551f33d520e4", func := "caisson/caissonlaw20.RecoversEdited", spec := "recoversEdited", inPlace := ["internal/reflectlite.ValueOf", "(internal/reflectlite.Value).Type", "(internal/reflectlite.Value).IsNil", "internal/reflectlite.TypeOf", "(internal/reflectlite.Value).Elem", "(internal/reflectlite.Value).Set"], unfollowed := true, recurses := true, named := ["caisson/nodes.sizes", "caisson/digests.initial", "caisson/digests.constants", "errors.errorType"], apart := false, laid := [("caisson/digests.initial", laid_caisson_digests_initial), ("caisson/digests.constants", laid_caisson_digests_constants), ("errors.errorType", laid_errors_errorType), ("caisson/nodes.sizes", laid_caisson_nodes_sizes)], narrowed := true }
def RecoversEditedUptoSaid : Prop := recoversEditedUptoRow.holds Tryz.pinned (OpenSpec.upto recoversEditedSpec)

end Rows
end Go.Proofs.YtkllahedaiddgaaGreatDoor
