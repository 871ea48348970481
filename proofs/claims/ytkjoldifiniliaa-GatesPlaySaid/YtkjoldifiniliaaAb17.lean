/- More equations for the simplifier. No condition. -/
import Derived.Test.YtkjoldifiniliaaAb16
set_option linter.unusedVariables false
set_option linter.unusedSimpArgs false
namespace Go.Ab
open Go.RowKit
section
variable {P : Program} {G : Nat → V} {ct : FuncId → Option CSpec}
theorem x_build {t : TypeId} {l : List (Nat × Operand)} {S : St} : aexec P G ct (.build t ⟨l⟩) S = aBuild P t (l.map fun x => (x.1, opv G S.t x.2)) := rfl
theorem x_buildSlice {t : TypeId} {n : Nat} {l : List (Nat × Operand)} {S : St} : aexec P G ct (.buildSlice t n ⟨l⟩) S = aBuildSlice P t n (l.map fun x => (x.1, opv G S.t x.2)) S.mem.length := rfl
theorem x_len {t : TypeId} {x : Operand} {S : St} : aexec P G ct (.call ⟨.builtin .len, ⟨[x]⟩, ⟨[t]⟩⟩) S = aLen P t (opv G S.t x) := rfl
theorem x_slice {t : TypeId} {x : Operand} {lo hi : Option Operand} {S : St} : aexec P G ct (.slice t x lo hi none) S = aSlice P t (opv G S.t x) (lo.map (opv G S.t)) (hi.map (opv G S.t)) := rfl
theorem x_makeFunc {f : FuncId} {l : List Operand} {S : St} : aexec P G ct (.makeFunc (.func f) ⟨[]⟩ ⟨l⟩) S = okP (pureE (.fn f (mkL (l.map (opv G S.t))))) := rfl
def exO (x : Option V) : Res := match x with | some v => okP (pureE v) | none => none
theorem exO_some {v : V} : exO (some v) = okP (pureE v) := rfl
theorem extr_tup {l : V} {k : Nat} : extr (.tup l) k = exO (l.nth k) := rfl
theorem nth_zero {a t : V} : (V.cons a t).nth 0 = some a := rfl
theorem nth_succ {a t : V} {k : Nat} : (V.cons a t).nth (k + 1) = t.nth k := rfl
end
end Go.Ab
