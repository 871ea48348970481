/- The same operations on trees, for values that are known: the test comes first. No condition. -/
import Derived.Test.YtkjoldifiniliaaB17
set_option linter.unusedVariables false
namespace Go.Ab
open Go.RowKit
noncomputable section
def V.setC : List Step → V → V → V
  | [], x, _ => x
  | .fld k :: p, x, v => v.setFld k (V.setC p x)
  | .idx i :: p, x, v => match v with
    | .arr n f => .arr n fun j => @Bool.rec (fun _ => V) (f j) (V.setC p x (f j)) (Nat.beq j i)
    | v => v
theorem rec_eq (c : Bool) (a b : V) : @Bool.rec (fun _ => V) b a c = V.ite c a b := by rw [V.ite_eq]; cases c <;> rfl
theorem V.setC_eq (x : V) : ∀ (p : List Step) (v : V), V.setC p x v = V.set p x v
  | [], v => rfl
  | .fld k :: p, v => by
    show v.setFld k (V.setC p x) = v.setFld k (V.set p x)
    rw [show V.setC p x = V.set p x from funext (V.setC_eq x p)]
  | .idx i :: p, v => by
    cases v with
    | arr n f =>
      show V.arr n (fun j => @Bool.rec (fun _ => V) (f j) (V.setC p x (f j)) (Nat.beq j i)) = V.arr n fun j => V.ite (j == i) (V.set p x (f j)) (f j)
      congr 1
      funext j
      rw [rec_eq, V.setC_eq x p, show Nat.beq j i = (j == i) from by rw [Bool.eq_iff_iff, Nat.beq_eq, beq_iff_eq]]
    | _ => rfl
def appC (len0 : Nat) (f0 f : Nat → V) : Nat → V := fun i => @Bool.rec (fun _ => V) (f (i - len0)) (f0 i) (Nat.blt i len0)
theorem appC_eq (len0 : Nat) (f0 f : Nat → V) : appC len0 f0 f = appF len0 f0 f := by
  funext i
  unfold appC appF
  rw [rec_eq]
  congr 1
  rw [Bool.eq_iff_iff]
  simp
def bsetC (st : Bool) : V → List (Nat × V) → V
  | v, [] => v
  | v, (i, x) :: r => bsetC st (V.setC [bstep st i] x v) r
theorem bsetC_eq (st : Bool) : ∀ (l : List (Nat × V)) (v : V), bsetC st v l = bset st v l
  | [], v => rfl
  | (i, x) :: r, v => by
    show bsetC st (V.setC [bstep st i] x v) r = bset st (V.set [bstep st i] x v) r
    rw [V.setC_eq, bsetC_eq st r]
def cpC (off cnt : Nat) (f0 f : Nat → V) : Nat → V := fun j => @Bool.rec (fun _ => V) (f0 j) (f (j - off)) (Nat.ble off j && Nat.blt j (off + cnt))
theorem cpC_eq (off cnt : Nat) (f0 f : Nat → V) : cpC off cnt f0 f = cpF off cnt f0 f := by
  funext j
  unfold cpC cpF
  rw [rec_eq]
  congr 1
  rw [Bool.eq_iff_iff]
  simp
section
variable [Gl]
def setX (p : List Step) (x v : V) : V := @Bool.rec (fun _ => V) (V.set p x v) (V.setC p x v) Gl.cl
theorem setX_eq (p : List Step) (x v : V) : setX p x v = V.set p x v := by
  unfold setX
  cases Gl.cl
  · rfl
  · exact V.setC_eq x p v
def bsetX (st : Bool) (v : V) (l : List (Nat × V)) : V := @Bool.rec (fun _ => V) (bset st v l) (bsetC st v l) Gl.cl
theorem bsetX_eq (st : Bool) (v : V) (l : List (Nat × V)) : bsetX st v l = bset st v l := by
  unfold bsetX
  cases Gl.cl
  · rfl
  · exact bsetC_eq st l v
def appX (len0 : Nat) (f0 f : Nat → V) : Nat → V := @Bool.rec (fun _ => Nat → V) (appF len0 f0 f) (appC len0 f0 f) Gl.cl
theorem appX_eq (len0 : Nat) (f0 f : Nat → V) : appX len0 f0 f = appF len0 f0 f := by
  unfold appX
  cases Gl.cl
  · rfl
  · exact appC_eq len0 f0 f
def cpX (off cnt : Nat) (f0 f : Nat → V) : Nat → V := @Bool.rec (fun _ => Nat → V) (cpF off cnt f0 f) (cpC off cnt f0 f) Gl.cl
theorem cpX_eq (off cnt : Nat) (f0 f : Nat → V) : cpX off cnt f0 f = cpF off cnt f0 f := by
  unfold cpX
  cases Gl.cl
  · rfl
  · exact cpC_eq off cnt f0 f
end
end
end Go.Ab
