/-
  No cell of these rows narrows 'for every input' (looked for: loops, veiled, ifaces, maps, wideKeys, modest, calm, conditions, laid).
  DERIVED. THE GIVEN ROWS OF THIS SEAT. 4 by the template 'for every input the law returns true; each argument reads behind the call as it read before'; 0 by the template 'total and deterministic' (their statements: YtkjoldifiniliaaTotals.lean).
  GIVEN WITH THE SEED: the statements are not yours to turn. If you find one false, say at which input.
  Laid BY PROGRAM, IN A SANDBOX (cutbox-rows.mjs): the forced cells as the released guide's own fill.sh prints them over the translation bb6dfc3c23732db5… (all of the seat's roots in one cut). By AI agents, Wed Nov 11 2026. No macro, syntax, notation, axiom, sorry.
-/
import Derived.Test.YtkjoldifiniliaaChecked
import GoSem.Claim
import GoSem.ClaimJoined
import GoSem.ClaimMapViews
import Derived.JoinedTies
import Derived.KernelRfl
namespace Go.Proofs.Ytkjoldifiniliaa
/- THE CELL 'sum', in the pinned program and in every row, IS THE sha256 OF THE DUMP (.gsa) THAT YtkjoldifiniliaaProg.lean LOADS. Nothing in Lean hashes anything: it is a label: what it is worth is what the hold of that sum in a sandbox is worth. -/
noncomputable def Try.pinned : Pinned := { name := "ytkjoldifiniliaa", sum := "bb6dfc3c23732db5f894f21ff887385807370c45a710238949c17a1bf53d9c3d", checked := Try.checked }
namespace Rows
def none {H : Type} : Left H := { results := [], args := [] }

/-- 'caissonlaw29.GatesBack': WHATEVER THE INPUT: true; the input reads as it did. -/
def gatesBackSpec : ChangeSpec := { name := "gatesBack", fn := fun _ => fun
  | [d1, d2] => { results := [.lit (.bool true)], args := [d1, d2] }
  | _ => none }
def gatesBackRow : OpenClaim := { program := "ytkjoldifiniliaa", sum := "bb6dfc3c23732db5f894f21ff887385807370c45a710238949c17a1bf53d9c3d", func := "caisson/caissonlaw29.GatesBack", spec := "gatesBack", unfollowed := true, recurses := true, apart := false }
def GatesBackSaid : Prop := gatesBackRow.holds Try.pinned (OpenSpec.ofChange gatesBackSpec)

/-- ITS FALSE NEIGHBOUR: 'it returns false'. Refute it at one input. -/
def gatesBackWrong : ChangeSpec := { name := "gatesBack", fn := fun _ => fun
  | [d1, d2] => { results := [.lit (.bool false)], args := [d1, d2] }
  | _ => none }
def GatesBackWrongFalsely : Prop := gatesBackRow.holds Try.pinned (OpenSpec.ofChange gatesBackWrong)

/-- 'caissonlaw29.GatesPlay': WHATEVER THE INPUT: true; the input reads as it did. -/
def gatesPlaySpec : ChangeSpec := { name := "gatesPlay", fn := fun _ => fun
  | [d1, d2] => { results := [.lit (.bool true)], args := [d1, d2] }
  | _ => none }
def gatesPlayRow : OpenClaim := { program := "ytkjoldifiniliaa", sum := "bb6dfc3c23732db5f894f21ff887385807370c45a710238949c17a1bf53d9c3d", func := "caisson/caissonlaw29.GatesPlay", spec := "gatesPlay", unfollowed := true, recurses := true, apart := false }
def GatesPlaySaid : Prop := gatesPlayRow.holds Try.pinned (OpenSpec.ofChange gatesPlaySpec)

/-- ITS FALSE NEIGHBOUR: 'it returns false'. Refute it at one input. -/
def gatesPlayWrong : ChangeSpec := { name := "gatesPlay", fn := fun _ => fun
  | [d1, d2] => { results := [.lit (.bool false)], args := [d1, d2] }
  | _ => none }
def GatesPlayWrongFalsely : Prop := gatesPlayRow.holds Try.pinned (OpenSpec.ofChange gatesPlayWrong)

/-- 'caissonlaw29.GatesCalls': WHATEVER THE INPUT: true; the input reads as it did. -/
def gatesCallsSpec : ChangeSpec := { name := "gatesCalls", fn := fun _ => fun
  | [d1, d2] => { results := [.lit (.bool true)], args := [d1, d2] }
  | _ => none }
def gatesCallsRow : OpenClaim := { program := "ytkjoldifiniliaa", sum := "bb6dfc3c23732db5f894f21ff887385807370c45a710238949c17a1bf53d9c3d", func := "caisson/caissonlaw29.GatesCalls", spec := "gatesCalls", unfollowed := true, recurses := true, apart := false }
def GatesCallsSaid : Prop := gatesCallsRow.holds Try.pinned (OpenSpec.ofChange gatesCallsSpec)

/-- ITS FALSE NEIGHBOUR: 'it returns false'. Refute it at one input. -/
def gatesCallsWrong : ChangeSpec := { name := "gatesCalls", fn := fun _ => fun
  | [d1, d2] => { results := [.lit (.bool false)], args := [d1, d2] }
  | _ => none }
def GatesCallsWrongFalsely : Prop := gatesCallsRow.holds Try.pinned (OpenSpec.ofChange gatesCallsWrong)

/-- 'caissonlaw29.GatesKnown': WHATEVER THE INPUT: true; the input reads as it did. -/
def gatesKnownSpec : ChangeSpec := { name := "gatesKnown", fn := fun _ => fun
  | [] => { results := [.lit (.bool true)], args := [] }
  | _ => none }
def gatesKnownRow : OpenClaim := { program := "ytkjoldifiniliaa", sum := "bb6dfc3c23732db5f894f21ff887385807370c45a710238949c17a1bf53d9c3d", func := "caisson/caissonlaw29.GatesKnown", spec := "gatesKnown", unfollowed := true, recurses := true, apart := false }
def GatesKnownSaid : Prop := gatesKnownRow.holds Try.pinned (OpenSpec.ofChange gatesKnownSpec)

/-- ITS FALSE NEIGHBOUR: 'it returns false'. Refute it at one input. -/
def gatesKnownWrong : ChangeSpec := { name := "gatesKnown", fn := fun _ => fun
  | [] => { results := [.lit (.bool false)], args := [] }
  | _ => none }
def GatesKnownWrongFalsely : Prop := gatesKnownRow.holds Try.pinned (OpenSpec.ofChange gatesKnownWrong)

/- THE SECOND FORM. 'bulk': how many values and letters a reading holds, each counted each time it is reached (what is shared counts as often as it is met; a slice's spare places count too). A statement '..UptoSaid' is the law's where the arguments, and the package variables that the reading takes, are together of bulk at most 1048576: NARROWER than '..Said'. Prove '..Said' where nothing that the law and all that it calls make is longer than what came in: it says more and counts as full. Else prove '..UptoSaid'. A law counts once. -/
mutual
def uptoBulk {H : Type} : DataW H → Nat
  | .lit (.string bytes) => bytes.length + 1
  | .lit _ => 1
  | .nil => 1
  | .ptr d => uptoBulk d + 1
  | .slice elems spare => uptoBulkAll elems + uptoBulkAll spare + 1
  | .agg parts => uptoBulkAll parts + 1
  | .iface _ d => uptoBulk d + 1
  | .map entries => uptoBulkEntries entries + 1
  | .held _ => 1
def uptoBulkAll {H : Type} : List (DataW H) → Nat
  | [] => 0
  | d :: r => uptoBulk d + uptoBulkAll r
def uptoBulkEntries {H : Type} : List (Lit × DataW H) → Nat
  | [] => 0
  | x :: r => uptoBulkEntry x + uptoBulkEntries r
def uptoBulkEntry {H : Type} : Lit × DataW H → Nat
  | (.string bytes, d) => bytes.length + uptoBulk d + 1
  | (_, d) => uptoBulk d + 1
 end
def uptoSmall : (H : Type) → List (DataW H) → Bool := fun _ ds => decide (uptoBulkAll ds ≤ 1048576)
def OpenSpec.upto (s : _root_.Go.ChangeSpec) : _root_.Go.OpenSpec := { _root_.Go.OpenSpec.ofChange s with cond := some uptoSmall }

/-- 'caissonlaw29.GatesBack', WHERE WHAT IT READS IS OF BULK AT MOST 1048576: true; the input reads as it did. -/
def gatesBackUptoRow : OpenClaim := { program := "ytkjoldifiniliaa", sum := "bb6dfc3c23732db5f894f21ff887385807370c45a710238949c17a1bf53d9c3d", func := "caisson/caissonlaw29.GatesBack", spec := "gatesBack", unfollowed := true, recurses := true, apart := false, narrowed := true }
def GatesBackUptoSaid : Prop := gatesBackUptoRow.holds Try.pinned (OpenSpec.upto gatesBackSpec)

/-- 'caissonlaw29.GatesPlay', WHERE WHAT IT READS IS OF BULK AT MOST 1048576: true; the input reads as it did. -/
def gatesPlayUptoRow : OpenClaim := { program := "ytkjoldifiniliaa", sum := "bb6dfc3c23732db5f894f21ff887385807370c45a710238949c17a1bf53d9c3d", func := "caisson/caissonlaw29.GatesPlay", spec := "gatesPlay", unfollowed := true, recurses := true, apart := false, narrowed := true }
def GatesPlayUptoSaid : Prop := gatesPlayUptoRow.holds Try.pinned (OpenSpec.upto gatesPlaySpec)

/-- 'caissonlaw29.GatesCalls', WHERE WHAT IT READS IS OF BULK AT MOST 1048576: true; the input reads as it did. -/
def gatesCallsUptoRow : OpenClaim := { program := "ytkjoldifiniliaa", sum := "bb6dfc3c23732db5f894f21ff887385807370c45a710238949c17a1bf53d9c3d", func := "caisson/caissonlaw29.GatesCalls", spec := "gatesCalls", unfollowed := true, recurses := true, apart := false, narrowed := true }
def GatesCallsUptoSaid : Prop := gatesCallsUptoRow.holds Try.pinned (OpenSpec.upto gatesCallsSpec)

/-- 'caissonlaw29.GatesKnown', WHERE WHAT IT READS IS OF BULK AT MOST 1048576: true; the input reads as it did. -/
def gatesKnownUptoRow : OpenClaim := { program := "ytkjoldifiniliaa", sum := "bb6dfc3c23732db5f894f21ff887385807370c45a710238949c17a1bf53d9c3d", func := "caisson/caissonlaw29.GatesKnown", spec := "gatesKnown", unfollowed := true, recurses := true, apart := false, narrowed := true }
def GatesKnownUptoSaid : Prop := gatesKnownUptoRow.holds Try.pinned (OpenSpec.upto gatesKnownSpec)

end Rows
end Go.Proofs.Ytkjoldifiniliaa
