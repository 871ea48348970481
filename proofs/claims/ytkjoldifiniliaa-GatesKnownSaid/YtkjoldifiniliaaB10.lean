/- The evaluator of single operations, and that it is right. No condition. -/
import Derived.Test.YtkjoldifiniliaaB9
set_option linter.unusedVariables false
set_option linter.unusedSimpArgs false
namespace Go.Ab
open Go.RowKit
variable [Gl]

def Shape.beq : Shape → Shape → Bool
  | .sc, .sc => true
  | .nl, .nl => true
  | .cons a b, .cons c d => a.beq c && b.beq d
  | .arr n s, .arr m t => n == m && s.beq t
  | _, _ => false
omit [Gl] in
theorem Shape.eq_of_beq : ∀ {a b : Shape}, a.beq b = true → a = b
  | .sc, b, h => by cases b <;> simp [Shape.beq] at h; rfl
  | .nl, b, h => by cases b <;> simp [Shape.beq] at h; rfl
  | .cons a c, b, h => by cases b <;> simp [Shape.beq] at h; rw [Shape.eq_of_beq h.1, Shape.eq_of_beq h.2]
  | .arr n s, b, h => by cases b <;> simp [Shape.beq] at h; rw [h.1, Shape.eq_of_beq h.2]

end Go.Ab
