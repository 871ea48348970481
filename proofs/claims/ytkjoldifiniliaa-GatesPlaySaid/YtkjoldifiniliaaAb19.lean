/- Places of a list, sixteen at a time. No condition. -/
import Derived.Test.YtkjoldifiniliaaAb18
namespace Go.Ab
section
variable {α : Type}
theorem gd0 {a0 : α} {l : List α} {d : α} : (a0 :: l).getD 0 d = a0 := by cases l <;> rfl
theorem sd0 {a0 : α} {l : List α} {v : α} : (a0 :: l).set 0 v = v :: l := by cases l <;> rfl
theorem gd1 {a0 a1 : α} {l : List α} {d : α} : (a0 :: a1 :: l).getD 1 d = a1 := by cases l <;> rfl
theorem sd1 {a0 a1 : α} {l : List α} {v : α} : (a0 :: a1 :: l).set 1 v = a0 :: v :: l := by cases l <;> rfl
theorem gd2 {a0 a1 a2 : α} {l : List α} {d : α} : (a0 :: a1 :: a2 :: l).getD 2 d = a2 := by cases l <;> rfl
theorem sd2 {a0 a1 a2 : α} {l : List α} {v : α} : (a0 :: a1 :: a2 :: l).set 2 v = a0 :: a1 :: v :: l := by cases l <;> rfl
theorem gd3 {a0 a1 a2 a3 : α} {l : List α} {d : α} : (a0 :: a1 :: a2 :: a3 :: l).getD 3 d = a3 := by cases l <;> rfl
theorem sd3 {a0 a1 a2 a3 : α} {l : List α} {v : α} : (a0 :: a1 :: a2 :: a3 :: l).set 3 v = a0 :: a1 :: a2 :: v :: l := by cases l <;> rfl
theorem gd4 {a0 a1 a2 a3 a4 : α} {l : List α} {d : α} : (a0 :: a1 :: a2 :: a3 :: a4 :: l).getD 4 d = a4 := by cases l <;> rfl
theorem sd4 {a0 a1 a2 a3 a4 : α} {l : List α} {v : α} : (a0 :: a1 :: a2 :: a3 :: a4 :: l).set 4 v = a0 :: a1 :: a2 :: a3 :: v :: l := by cases l <;> rfl
theorem gd5 {a0 a1 a2 a3 a4 a5 : α} {l : List α} {d : α} : (a0 :: a1 :: a2 :: a3 :: a4 :: a5 :: l).getD 5 d = a5 := by cases l <;> rfl
theorem sd5 {a0 a1 a2 a3 a4 a5 : α} {l : List α} {v : α} : (a0 :: a1 :: a2 :: a3 :: a4 :: a5 :: l).set 5 v = a0 :: a1 :: a2 :: a3 :: a4 :: v :: l := by cases l <;> rfl
theorem gd6 {a0 a1 a2 a3 a4 a5 a6 : α} {l : List α} {d : α} : (a0 :: a1 :: a2 :: a3 :: a4 :: a5 :: a6 :: l).getD 6 d = a6 := by cases l <;> rfl
theorem sd6 {a0 a1 a2 a3 a4 a5 a6 : α} {l : List α} {v : α} : (a0 :: a1 :: a2 :: a3 :: a4 :: a5 :: a6 :: l).set 6 v = a0 :: a1 :: a2 :: a3 :: a4 :: a5 :: v :: l := by cases l <;> rfl
theorem gd7 {a0 a1 a2 a3 a4 a5 a6 a7 : α} {l : List α} {d : α} : (a0 :: a1 :: a2 :: a3 :: a4 :: a5 :: a6 :: a7 :: l).getD 7 d = a7 := by cases l <;> rfl
theorem sd7 {a0 a1 a2 a3 a4 a5 a6 a7 : α} {l : List α} {v : α} : (a0 :: a1 :: a2 :: a3 :: a4 :: a5 :: a6 :: a7 :: l).set 7 v = a0 :: a1 :: a2 :: a3 :: a4 :: a5 :: a6 :: v :: l := by cases l <;> rfl
theorem gd8 {a0 a1 a2 a3 a4 a5 a6 a7 a8 : α} {l : List α} {d : α} : (a0 :: a1 :: a2 :: a3 :: a4 :: a5 :: a6 :: a7 :: a8 :: l).getD 8 d = a8 := by cases l <;> rfl
theorem sd8 {a0 a1 a2 a3 a4 a5 a6 a7 a8 : α} {l : List α} {v : α} : (a0 :: a1 :: a2 :: a3 :: a4 :: a5 :: a6 :: a7 :: a8 :: l).set 8 v = a0 :: a1 :: a2 :: a3 :: a4 :: a5 :: a6 :: a7 :: v :: l := by cases l <;> rfl
theorem gd9 {a0 a1 a2 a3 a4 a5 a6 a7 a8 a9 : α} {l : List α} {d : α} : (a0 :: a1 :: a2 :: a3 :: a4 :: a5 :: a6 :: a7 :: a8 :: a9 :: l).getD 9 d = a9 := by cases l <;> rfl
theorem sd9 {a0 a1 a2 a3 a4 a5 a6 a7 a8 a9 : α} {l : List α} {v : α} : (a0 :: a1 :: a2 :: a3 :: a4 :: a5 :: a6 :: a7 :: a8 :: a9 :: l).set 9 v = a0 :: a1 :: a2 :: a3 :: a4 :: a5 :: a6 :: a7 :: a8 :: v :: l := by cases l <;> rfl
theorem gd10 {a0 a1 a2 a3 a4 a5 a6 a7 a8 a9 a10 : α} {l : List α} {d : α} : (a0 :: a1 :: a2 :: a3 :: a4 :: a5 :: a6 :: a7 :: a8 :: a9 :: a10 :: l).getD 10 d = a10 := by cases l <;> rfl
theorem sd10 {a0 a1 a2 a3 a4 a5 a6 a7 a8 a9 a10 : α} {l : List α} {v : α} : (a0 :: a1 :: a2 :: a3 :: a4 :: a5 :: a6 :: a7 :: a8 :: a9 :: a10 :: l).set 10 v = a0 :: a1 :: a2 :: a3 :: a4 :: a5 :: a6 :: a7 :: a8 :: a9 :: v :: l := by cases l <;> rfl
theorem gd11 {a0 a1 a2 a3 a4 a5 a6 a7 a8 a9 a10 a11 : α} {l : List α} {d : α} : (a0 :: a1 :: a2 :: a3 :: a4 :: a5 :: a6 :: a7 :: a8 :: a9 :: a10 :: a11 :: l).getD 11 d = a11 := by cases l <;> rfl
theorem sd11 {a0 a1 a2 a3 a4 a5 a6 a7 a8 a9 a10 a11 : α} {l : List α} {v : α} : (a0 :: a1 :: a2 :: a3 :: a4 :: a5 :: a6 :: a7 :: a8 :: a9 :: a10 :: a11 :: l).set 11 v = a0 :: a1 :: a2 :: a3 :: a4 :: a5 :: a6 :: a7 :: a8 :: a9 :: a10 :: v :: l := by cases l <;> rfl
theorem gd12 {a0 a1 a2 a3 a4 a5 a6 a7 a8 a9 a10 a11 a12 : α} {l : List α} {d : α} : (a0 :: a1 :: a2 :: a3 :: a4 :: a5 :: a6 :: a7 :: a8 :: a9 :: a10 :: a11 :: a12 :: l).getD 12 d = a12 := by cases l <;> rfl
theorem sd12 {a0 a1 a2 a3 a4 a5 a6 a7 a8 a9 a10 a11 a12 : α} {l : List α} {v : α} : (a0 :: a1 :: a2 :: a3 :: a4 :: a5 :: a6 :: a7 :: a8 :: a9 :: a10 :: a11 :: a12 :: l).set 12 v = a0 :: a1 :: a2 :: a3 :: a4 :: a5 :: a6 :: a7 :: a8 :: a9 :: a10 :: a11 :: v :: l := by cases l <;> rfl
theorem gd13 {a0 a1 a2 a3 a4 a5 a6 a7 a8 a9 a10 a11 a12 a13 : α} {l : List α} {d : α} : (a0 :: a1 :: a2 :: a3 :: a4 :: a5 :: a6 :: a7 :: a8 :: a9 :: a10 :: a11 :: a12 :: a13 :: l).getD 13 d = a13 := by cases l <;> rfl
theorem sd13 {a0 a1 a2 a3 a4 a5 a6 a7 a8 a9 a10 a11 a12 a13 : α} {l : List α} {v : α} : (a0 :: a1 :: a2 :: a3 :: a4 :: a5 :: a6 :: a7 :: a8 :: a9 :: a10 :: a11 :: a12 :: a13 :: l).set 13 v = a0 :: a1 :: a2 :: a3 :: a4 :: a5 :: a6 :: a7 :: a8 :: a9 :: a10 :: a11 :: a12 :: v :: l := by cases l <;> rfl
theorem gd14 {a0 a1 a2 a3 a4 a5 a6 a7 a8 a9 a10 a11 a12 a13 a14 : α} {l : List α} {d : α} : (a0 :: a1 :: a2 :: a3 :: a4 :: a5 :: a6 :: a7 :: a8 :: a9 :: a10 :: a11 :: a12 :: a13 :: a14 :: l).getD 14 d = a14 := by cases l <;> rfl
theorem sd14 {a0 a1 a2 a3 a4 a5 a6 a7 a8 a9 a10 a11 a12 a13 a14 : α} {l : List α} {v : α} : (a0 :: a1 :: a2 :: a3 :: a4 :: a5 :: a6 :: a7 :: a8 :: a9 :: a10 :: a11 :: a12 :: a13 :: a14 :: l).set 14 v = a0 :: a1 :: a2 :: a3 :: a4 :: a5 :: a6 :: a7 :: a8 :: a9 :: a10 :: a11 :: a12 :: a13 :: v :: l := by cases l <;> rfl
theorem gd15 {a0 a1 a2 a3 a4 a5 a6 a7 a8 a9 a10 a11 a12 a13 a14 a15 : α} {l : List α} {d : α} : (a0 :: a1 :: a2 :: a3 :: a4 :: a5 :: a6 :: a7 :: a8 :: a9 :: a10 :: a11 :: a12 :: a13 :: a14 :: a15 :: l).getD 15 d = a15 := by cases l <;> rfl
theorem sd15 {a0 a1 a2 a3 a4 a5 a6 a7 a8 a9 a10 a11 a12 a13 a14 a15 : α} {l : List α} {v : α} : (a0 :: a1 :: a2 :: a3 :: a4 :: a5 :: a6 :: a7 :: a8 :: a9 :: a10 :: a11 :: a12 :: a13 :: a14 :: a15 :: l).set 15 v = a0 :: a1 :: a2 :: a3 :: a4 :: a5 :: a6 :: a7 :: a8 :: a9 :: a10 :: a11 :: a12 :: a13 :: a14 :: v :: l := by cases l <;> rfl
theorem gd16 {a0 a1 a2 a3 a4 a5 a6 a7 a8 a9 a10 a11 a12 a13 a14 a15 : α} {l : List α} {d : α} {n : Nat} : (a0 :: a1 :: a2 :: a3 :: a4 :: a5 :: a6 :: a7 :: a8 :: a9 :: a10 :: a11 :: a12 :: a13 :: a14 :: a15 :: l).getD (n + 16) d = l.getD n d := by cases l <;> rfl
theorem sd16 {a0 a1 a2 a3 a4 a5 a6 a7 a8 a9 a10 a11 a12 a13 a14 a15 : α} {l : List α} {v : α} {n : Nat} : (a0 :: a1 :: a2 :: a3 :: a4 :: a5 :: a6 :: a7 :: a8 :: a9 :: a10 :: a11 :: a12 :: a13 :: a14 :: a15 :: l).set (n + 16) v = a0 :: a1 :: a2 :: a3 :: a4 :: a5 :: a6 :: a7 :: a8 :: a9 :: a10 :: a11 :: a12 :: a13 :: a14 :: a15 :: l.set n v := by cases l <;> rfl
end
end Go.Ab
