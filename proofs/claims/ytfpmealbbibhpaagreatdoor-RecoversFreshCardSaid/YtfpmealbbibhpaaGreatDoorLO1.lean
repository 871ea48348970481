/- The open mode of the run. No condition. Contracts over open numbers: the shape of a number of blocks. No condition. Contracts over open numbers: sectors. No condition. Contracts over open numbers: volumes that do not fit, the definition's sectors. No condition. -/
import Derived.Test.YtfpmealbbibhpaaGreatDoorKL0
set_option linter.unusedVariables false
set_option linter.unusedSimpArgs false
namespace Go.K
open Go.Ab Go.RowKit Go.Y Go.Proofs
noncomputable section
def natK (x : KV) (f : Nat → Prop) : Prop := onInt (fun k a => chk (ikEq k .i64) 300 (@Int.rec (fun _ => Prop) (fun n => f n) (fun _ => BadN 301) a)) (BadN 302) x
theorem natK_s {x : KV} {f : Nat → Prop} (h : natK x f) : ∃ n, x = .int .i64 (.ofNat n) ∧ f n := by
  rcases onInt_inv h with ⟨k, a, rfl, h1⟩ | ⟨_, h1⟩
  · obtain ⟨h2, h3⟩ := chk_inv h1
    obtain rfl := ikEq_eq h2
    cases a with
    | ofNat n => exact ⟨n, rfl, h3⟩
    | negSucc n => exact (show BadN 301 from h3).elim
  · exact h1.elim
def nI (n : Nat) : KV := .int .i64 (.ofNat n)
@[reducible] def gO : KGl := opnG kgL
def EO0 : KEnv := { P := Tryz.prog, ct := fun _ => none, md := fun f => mdL.getD f 0, km := fun f => maskL.getD f 0 }
theorem okO0 : @KOk gO EO0 := @KOk.mk gO EO0 fnsL (fun _ _ h => (by cases h)) gnL mixL (fun _ h => (by cases h)) (fun _ _ h => (by cases h)) (fun _ _ _ h => (by cases h))
theorem imp_refl (v : V) : Imp v v := fun _ _ h => h
end
end Go.K
namespace Go.K
open Go.Ab Go.RowKit Go.Y Go.Proofs
noncomputable section
def C.ab (n : Nat) : Nat := (n + 3) / 4
def s279 : KSpec := fun l K => la1 l fun x => natK x fun n => n ≤ 4294967296 ∧ K (.int .i64 (.ofNat (C.ab n)))
def run279 (N : Nat) (v : KV) : Prop := @callR gO EO0 (@krun gO EO0 100) 0 279 [.int .i64 (.ofNat N)] .e 0 0 fun r _ _ _ => r = v
theorem run279_eq (N : Nat) (v : KV) : run279 N v = cnd ((N.add (nat_lit 4)).blt (nat_lit 9223372036854775808)) (cnd (((N.add (nat_lit 4)).sub (nat_lit 1)).blt (nat_lit 9223372036854775808)) (cnd ((((N.add (nat_lit 4)).sub (nat_lit 1)).div (nat_lit 4)).blt (nat_lit 9223372036854775808)) (KV.int IntKind.i64 (Int.ofNat (((N.add (nat_lit 4)).sub (nat_lit 1)).div (nat_lit 4))) = v))) := by kernel_rfl
theorem P279 : ∃ fn, Tryz.prog.funcs[279]? = some fn ∧ (fn.name == "runtime.NumGoroutine") = false ∧ fn.body.isNone = false := ⟨Tryz.f279, Tryz.func279, (fnsL.get Tryz.func279).1, by kernel_rfl⟩
theorem kcs279 : @KCS gO Tryz.prog 279 s279 := by
  refine @kcsQ gO EO0 okO0 279 s279 P279 fun l K hs => ?_
  obtain ⟨x, rfl, h1⟩ := la1_s hs
  obtain ⟨n, rfl, h2, h3⟩ := natK_s h1
  refine ⟨100, _, _, h3, rfl, fun _ _ h => h, ?_⟩
  show run279 n (.int .i64 (.ofNat (C.ab n)))
  rw [run279_eq]
  simp only [cnd_iff, Nat.blt_eq]
  refine ⟨by show n + 4 < _; omega, by show n + 4 - 1 < _; omega, by show (n + 4 - 1) / 4 < _; omega, ?_⟩
  show KV.int .i64 (Int.ofNat ((n + 4 - 1) / 4)) = KV.int .i64 (Int.ofNat ((n + 3) / 4))
  rw [show n + 4 - 1 = n + 3 by omega]
def ctO1 : FuncId → Option KSpec := fun f => @Bool.rec (fun _ => Option KSpec) none (some s279) (Nat.beq f 279)
theorem ctO1_s (f : FuncId) (s : KSpec) (h : ctO1 f = some s) : @KCS gO Tryz.prog f s := by
  unfold ctO1 at h
  cases h1 : Nat.beq f 279 with
  | true => rw [h1] at h; cases h; rw [beqE h1]; exact kcs279
  | false => rw [h1] at h; cases h
def EO1 : KEnv := { EO0 with ct := ctO1 }
theorem okO1 : @KOk gO EO1 := @KOk.mk gO EO1 fnsL ctO1_s gnL mixL (fun _ h => (by cases h)) (fun _ _ h => (by cases h)) (fun _ _ _ h => (by cases h))
def dkR : KV := .cons (.int .i64 (.ofNat 0)) (.cons (.ro true true .sc 0 1 (.ar 1 .nilp (.tn (.ref true (.arr 64 .sc) (.ar 64 .nilp .te)) .te .te .te .te))) .nl)
def dk (k : Nat) : KV := .cons (.int .i64 (.ofNat k)) dkR
def C.cnt (n : Nat) : Nat → Nat
  | 0 => C.ab n
  | l + 1 => C.ab (C.cnt n l)
def C.no1 (n l : Nat) : Prop := ∀ j, j < l → C.cnt n j ≠ 1
end
end Go.K
namespace Go.K
open Go.Ab Go.RowKit Go.Y Go.Proofs
noncomputable section
attribute [local irreducible] krun callR
theorem eqI_nat (a b : Nat) : eqI (Int.ofNat a) (Int.ofNat b) = Nat.beq a b := rfl
theorem ltI_nat (a b : Nat) : ltI (Int.ofNat a) (Int.ofNat b) = Nat.blt a b := rfl
theorem beqT (a b : Nat) : (Nat.beq a b = true) ↔ a = b := by rw [Nat.beq_eq]
theorem beqF (a b : Nat) : (Nat.beq a b = false) ↔ ¬ a = b := by rw [← Bool.not_eq_true, Nat.beq_eq]
theorem bltT (a b : Nat) : (Nat.blt a b = true) ↔ a < b := by rw [Nat.blt_eq]
theorem bltF (a b : Nat) : (Nat.blt a b = false) ↔ ¬ a < b := by rw [← Bool.not_eq_true, Nat.blt_eq]
theorem notT (b : Bool) : ((!b) = true) ↔ b = false := by cases b <;> simp
theorem notF (b : Bool) : ((!b) = false) ↔ b = true := by cases b <;> simp
theorem ltI_neg (a b : Nat) : ltI (Int.negSucc a) (Int.ofNat b) = true := by
  rfl
theorem ab_s (n : Nat) : 4 * C.ab n ≤ n + 3 ∧ n ≤ 4 * C.ab n := by unfold C.ab; omega
def C.sl : Nat → Nat → Nat
  | 0, c => 2 * c
  | f + 1, c => 2 * c + if c = 1 then 0 else C.sl f (C.ab c)
def C.sec (n : Nat) : Nat := 2 * n + C.sl 5 (C.ab n)
theorem sl_0 (c : Nat) : C.sl 0 c = 2 * c := rfl
theorem sl_1 {f c : Nat} (h : c = 1) : C.sl (f + 1) c = 2 * c := by show 2 * c + (if c = 1 then 0 else _) = _; rw [if_pos h]; rfl
theorem sl_n {f c : Nat} (h : ¬ c = 1) : C.sl (f + 1) c = 2 * c + C.sl f (C.ab c) := by show 2 * c + (if c = 1 then 0 else _) = _; rw [if_neg h]
theorem sl_1' (f c : Nat) : c = 1 → C.sl (f + 1) c = 2 * c := sl_1
theorem sl_n' (f c : Nat) : ¬ c = 1 → C.sl (f + 1) c = 2 * c + C.sl f (C.ab c) := sl_n
theorem tup2_eq {a b : Nat} (h : a = b) (e : KV) : (KV.tup (.cons (.int .i64 (.ofNat a)) (.cons e .nl))) = .tup (.cons (.int .i64 (.ofNat b)) (.cons e .nl)) := by rw [h]
theorem int_eq {a b : Nat} (h : a = b) : KV.int .i64 (.ofNat a) = .int .i64 (.ofNat b) := by rw [h]
def run89 (N : Nat) (v : KV) : Prop := @callR gO EO1 (@krun gO EO1 28) 0 89 [.int .i64 (.ofNat N)] .e 0 0 fun r _ _ _ => r = v
def run89m (N : Nat) (v : KV) : Prop := @callR gO EO1 (@krun gO EO1 28) 0 89 [.int .i64 (.negSucc N)] .e 0 0 fun r _ _ _ => r = v
set_option maxRecDepth 100000 in
theorem run89_eq (N : Nat) (v : KV) : run89 N v = (alt (ltI (Int.ofNat N) (Int.ofNat 1)) (((KV.int IntKind.i64 (Int.ofNat 0)).cons ((KV.int IntKind.i64 (Int.ofNat 1)).cons KV.nl)).tup = v) (alt (ltI (Int.ofNat 4096) (Int.ofNat N)) (((KV.int IntKind.i64 (Int.ofNat 0)).cons ((KV.int IntKind.i64 (Int.ofNat 1)).cons KV.nl)).tup = v) (N ≤ 4294967296 ∧ alt (eqI (Int.ofNat (C.ab N)) (Int.ofNat 1)) (cnd ((Nat.mul 2 N).blt 9223372036854775808) (cnd ((Nat.mul 2 (C.ab N)).blt 9223372036854775808) (cnd (((Nat.mul 2 N).add (Nat.mul 2 (C.ab N))).blt 9223372036854775808) (((KV.int IntKind.i64 (Int.ofNat ((Nat.mul 2 N).add (Nat.mul 2 (C.ab N))))).cons ((KV.int IntKind.i64 (Int.ofNat 0)).cons KV.nl)).tup = v)))) (C.ab N ≤ 4294967296 ∧ alt (eqI (Int.ofNat (C.ab (C.ab N))) (Int.ofNat 1)) (cnd ((Nat.mul 2 N).blt 9223372036854775808) (cnd ((Nat.mul 2 (C.ab N)).blt 9223372036854775808) (cnd (((Nat.mul 2 N).add (Nat.mul 2 (C.ab N))).blt 9223372036854775808) (cnd ((Nat.mul 2 (C.ab (C.ab N))).blt 9223372036854775808) (cnd ((((Nat.mul 2 N).add (Nat.mul 2 (C.ab N))).add (Nat.mul 2 (C.ab (C.ab N)))).blt 9223372036854775808) (((KV.int IntKind.i64 (Int.ofNat (((Nat.mul 2 N).add (Nat.mul 2 (C.ab N))).add (Nat.mul 2 (C.ab (C.ab N)))))).cons ((KV.int IntKind.i64 (Int.ofNat 0)).cons KV.nl)).tup = v)))))) (C.ab (C.ab N) ≤ 4294967296 ∧ alt (eqI (Int.ofNat (C.ab (C.ab (C.ab N)))) (Int.ofNat 1)) (cnd ((Nat.mul 2 N).blt 9223372036854775808) (cnd ((Nat.mul 2 (C.ab N)).blt 9223372036854775808) (cnd (((Nat.mul 2 N).add (Nat.mul 2 (C.ab N))).blt 9223372036854775808) (cnd ((Nat.mul 2 (C.ab (C.ab N))).blt 9223372036854775808) (cnd ((((Nat.mul 2 N).add (Nat.mul 2 (C.ab N))).add (Nat.mul 2 (C.ab (C.ab N)))).blt 9223372036854775808) (cnd ((Nat.mul 2 (C.ab (C.ab (C.ab N)))).blt 9223372036854775808) (cnd (((((Nat.mul 2 N).add (Nat.mul 2 (C.ab N))).add (Nat.mul 2 (C.ab (C.ab N)))).add (Nat.mul 2 (C.ab (C.ab (C.ab N))))).blt 9223372036854775808) (((KV.int IntKind.i64 (Int.ofNat ((((Nat.mul 2 N).add (Nat.mul 2 (C.ab N))).add (Nat.mul 2 (C.ab (C.ab N)))).add (Nat.mul 2 (C.ab (C.ab (C.ab N))))))).cons ((KV.int IntKind.i64 (Int.ofNat 0)).cons KV.nl)).tup = v)))))))) (C.ab (C.ab (C.ab N)) ≤ 4294967296 ∧ alt (eqI (Int.ofNat (C.ab (C.ab (C.ab (C.ab N))))) (Int.ofNat 1)) (cnd ((Nat.mul 2 N).blt 9223372036854775808) (cnd ((Nat.mul 2 (C.ab N)).blt 9223372036854775808) (cnd (((Nat.mul 2 N).add (Nat.mul 2 (C.ab N))).blt 9223372036854775808) (cnd ((Nat.mul 2 (C.ab (C.ab N))).blt 9223372036854775808) (cnd ((((Nat.mul 2 N).add (Nat.mul 2 (C.ab N))).add (Nat.mul 2 (C.ab (C.ab N)))).blt 9223372036854775808) (cnd ((Nat.mul 2 (C.ab (C.ab (C.ab N)))).blt 9223372036854775808) (cnd (((((Nat.mul 2 N).add (Nat.mul 2 (C.ab N))).add (Nat.mul 2 (C.ab (C.ab N)))).add (Nat.mul 2 (C.ab (C.ab (C.ab N))))).blt 9223372036854775808) (cnd ((Nat.mul 2 (C.ab (C.ab (C.ab (C.ab N))))).blt 9223372036854775808) (cnd ((((((Nat.mul 2 N).add (Nat.mul 2 (C.ab N))).add (Nat.mul 2 (C.ab (C.ab N)))).add (Nat.mul 2 (C.ab (C.ab (C.ab N))))).add (Nat.mul 2 (C.ab (C.ab (C.ab (C.ab N)))))).blt 9223372036854775808) (((KV.int IntKind.i64 (Int.ofNat (((((Nat.mul 2 N).add (Nat.mul 2 (C.ab N))).add (Nat.mul 2 (C.ab (C.ab N)))).add (Nat.mul 2 (C.ab (C.ab (C.ab N))))).add (Nat.mul 2 (C.ab (C.ab (C.ab (C.ab N)))))))).cons ((KV.int IntKind.i64 (Int.ofNat 0)).cons KV.nl)).tup = v)))))))))) (C.ab (C.ab (C.ab (C.ab N))) ≤ 4294967296 ∧ alt (eqI (Int.ofNat (C.ab (C.ab (C.ab (C.ab (C.ab N)))))) (Int.ofNat 1)) (cnd ((Nat.mul 2 N).blt 9223372036854775808) (cnd ((Nat.mul 2 (C.ab N)).blt 9223372036854775808) (cnd (((Nat.mul 2 N).add (Nat.mul 2 (C.ab N))).blt 9223372036854775808) (cnd ((Nat.mul 2 (C.ab (C.ab N))).blt 9223372036854775808) (cnd ((((Nat.mul 2 N).add (Nat.mul 2 (C.ab N))).add (Nat.mul 2 (C.ab (C.ab N)))).blt 9223372036854775808) (cnd ((Nat.mul 2 (C.ab (C.ab (C.ab N)))).blt 9223372036854775808) (cnd (((((Nat.mul 2 N).add (Nat.mul 2 (C.ab N))).add (Nat.mul 2 (C.ab (C.ab N)))).add (Nat.mul 2 (C.ab (C.ab (C.ab N))))).blt 9223372036854775808) (cnd ((Nat.mul 2 (C.ab (C.ab (C.ab (C.ab N))))).blt 9223372036854775808) (cnd ((((((Nat.mul 2 N).add (Nat.mul 2 (C.ab N))).add (Nat.mul 2 (C.ab (C.ab N)))).add (Nat.mul 2 (C.ab (C.ab (C.ab N))))).add (Nat.mul 2 (C.ab (C.ab (C.ab (C.ab N)))))).blt 9223372036854775808) (cnd ((Nat.mul 2 (C.ab (C.ab (C.ab (C.ab (C.ab N)))))).blt 9223372036854775808) (cnd (((((((Nat.mul 2 N).add (Nat.mul 2 (C.ab N))).add (Nat.mul 2 (C.ab (C.ab N)))).add (Nat.mul 2 (C.ab (C.ab (C.ab N))))).add (Nat.mul 2 (C.ab (C.ab (C.ab (C.ab N)))))).add (Nat.mul 2 (C.ab (C.ab (C.ab (C.ab (C.ab N))))))).blt 9223372036854775808) (((KV.int IntKind.i64 (Int.ofNat ((((((Nat.mul 2 N).add (Nat.mul 2 (C.ab N))).add (Nat.mul 2 (C.ab (C.ab N)))).add (Nat.mul 2 (C.ab (C.ab (C.ab N))))).add (Nat.mul 2 (C.ab (C.ab (C.ab (C.ab N)))))).add (Nat.mul 2 (C.ab (C.ab (C.ab (C.ab (C.ab N))))))))).cons ((KV.int IntKind.i64 (Int.ofNat 0)).cons KV.nl)).tup = v)))))))))))) (C.ab (C.ab (C.ab (C.ab (C.ab N)))) ≤ 4294967296 ∧ alt (eqI (Int.ofNat (C.ab (C.ab (C.ab (C.ab (C.ab (C.ab N))))))) (Int.ofNat 1)) (cnd ((Nat.mul 2 N).blt 9223372036854775808) (cnd ((Nat.mul 2 (C.ab N)).blt 9223372036854775808) (cnd (((Nat.mul 2 N).add (Nat.mul 2 (C.ab N))).blt 9223372036854775808) (cnd ((Nat.mul 2 (C.ab (C.ab N))).blt 9223372036854775808) (cnd ((((Nat.mul 2 N).add (Nat.mul 2 (C.ab N))).add (Nat.mul 2 (C.ab (C.ab N)))).blt 9223372036854775808) (cnd ((Nat.mul 2 (C.ab (C.ab (C.ab N)))).blt 9223372036854775808) (cnd (((((Nat.mul 2 N).add (Nat.mul 2 (C.ab N))).add (Nat.mul 2 (C.ab (C.ab N)))).add (Nat.mul 2 (C.ab (C.ab (C.ab N))))).blt 9223372036854775808) (cnd ((Nat.mul 2 (C.ab (C.ab (C.ab (C.ab N))))).blt 9223372036854775808) (cnd ((((((Nat.mul 2 N).add (Nat.mul 2 (C.ab N))).add (Nat.mul 2 (C.ab (C.ab N)))).add (Nat.mul 2 (C.ab (C.ab (C.ab N))))).add (Nat.mul 2 (C.ab (C.ab (C.ab (C.ab N)))))).blt 9223372036854775808) (cnd ((Nat.mul 2 (C.ab (C.ab (C.ab (C.ab (C.ab N)))))).blt 9223372036854775808) (cnd (((((((Nat.mul 2 N).add (Nat.mul 2 (C.ab N))).add (Nat.mul 2 (C.ab (C.ab N)))).add (Nat.mul 2 (C.ab (C.ab (C.ab N))))).add (Nat.mul 2 (C.ab (C.ab (C.ab (C.ab N)))))).add (Nat.mul 2 (C.ab (C.ab (C.ab (C.ab (C.ab N))))))).blt 9223372036854775808) (cnd ((Nat.mul 2 (C.ab (C.ab (C.ab (C.ab (C.ab (C.ab N))))))).blt 9223372036854775808) (cnd ((((((((Nat.mul 2 N).add (Nat.mul 2 (C.ab N))).add (Nat.mul 2 (C.ab (C.ab N)))).add (Nat.mul 2 (C.ab (C.ab (C.ab N))))).add (Nat.mul 2 (C.ab (C.ab (C.ab (C.ab N)))))).add (Nat.mul 2 (C.ab (C.ab (C.ab (C.ab (C.ab N))))))).add (Nat.mul 2 (C.ab (C.ab (C.ab (C.ab (C.ab (C.ab N)))))))).blt 9223372036854775808) (((KV.int IntKind.i64 (Int.ofNat (((((((Nat.mul 2 N).add (Nat.mul 2 (C.ab N))).add (Nat.mul 2 (C.ab (C.ab N)))).add (Nat.mul 2 (C.ab (C.ab (C.ab N))))).add (Nat.mul 2 (C.ab (C.ab (C.ab (C.ab N)))))).add (Nat.mul 2 (C.ab (C.ab (C.ab (C.ab (C.ab N))))))).add (Nat.mul 2 (C.ab (C.ab (C.ab (C.ab (C.ab (C.ab N)))))))))).cons ((KV.int IntKind.i64 (Int.ofNat 0)).cons KV.nl)).tup = v)))))))))))))) (C.ab (C.ab (C.ab (C.ab (C.ab (C.ab N))))) ≤ 4294967296 ∧ alt (eqI (Int.ofNat (C.ab (C.ab (C.ab (C.ab (C.ab (C.ab (C.ab N)))))))) (Int.ofNat 1)) (cnd ((Nat.mul 2 N).blt 9223372036854775808) (cnd ((Nat.mul 2 (C.ab N)).blt 9223372036854775808) (cnd (((Nat.mul 2 N).add (Nat.mul 2 (C.ab N))).blt 9223372036854775808) (cnd ((Nat.mul 2 (C.ab (C.ab N))).blt 9223372036854775808) (cnd ((((Nat.mul 2 N).add (Nat.mul 2 (C.ab N))).add (Nat.mul 2 (C.ab (C.ab N)))).blt 9223372036854775808) (cnd ((Nat.mul 2 (C.ab (C.ab (C.ab N)))).blt 9223372036854775808) (cnd (((((Nat.mul 2 N).add (Nat.mul 2 (C.ab N))).add (Nat.mul 2 (C.ab (C.ab N)))).add (Nat.mul 2 (C.ab (C.ab (C.ab N))))).blt 9223372036854775808) (cnd ((Nat.mul 2 (C.ab (C.ab (C.ab (C.ab N))))).blt 9223372036854775808) (cnd ((((((Nat.mul 2 N).add (Nat.mul 2 (C.ab N))).add (Nat.mul 2 (C.ab (C.ab N)))).add (Nat.mul 2 (C.ab (C.ab (C.ab N))))).add (Nat.mul 2 (C.ab (C.ab (C.ab (C.ab N)))))).blt 9223372036854775808) (cnd ((Nat.mul 2 (C.ab (C.ab (C.ab (C.ab (C.ab N)))))).blt 9223372036854775808) (cnd (((((((Nat.mul 2 N).add (Nat.mul 2 (C.ab N))).add (Nat.mul 2 (C.ab (C.ab N)))).add (Nat.mul 2 (C.ab (C.ab (C.ab N))))).add (Nat.mul 2 (C.ab (C.ab (C.ab (C.ab N)))))).add (Nat.mul 2 (C.ab (C.ab (C.ab (C.ab (C.ab N))))))).blt 9223372036854775808) (cnd ((Nat.mul 2 (C.ab (C.ab (C.ab (C.ab (C.ab (C.ab N))))))).blt 9223372036854775808) (cnd ((((((((Nat.mul 2 N).add (Nat.mul 2 (C.ab N))).add (Nat.mul 2 (C.ab (C.ab N)))).add (Nat.mul 2 (C.ab (C.ab (C.ab N))))).add (Nat.mul 2 (C.ab (C.ab (C.ab (C.ab N)))))).add (Nat.mul 2 (C.ab (C.ab (C.ab (C.ab (C.ab N))))))).add (Nat.mul 2 (C.ab (C.ab (C.ab (C.ab (C.ab (C.ab N)))))))).blt 9223372036854775808) (cnd ((Nat.mul 2 (C.ab (C.ab (C.ab (C.ab (C.ab (C.ab (C.ab N)))))))).blt 9223372036854775808) (cnd (((((((((Nat.mul 2 N).add (Nat.mul 2 (C.ab N))).add (Nat.mul 2 (C.ab (C.ab N)))).add (Nat.mul 2 (C.ab (C.ab (C.ab N))))).add (Nat.mul 2 (C.ab (C.ab (C.ab (C.ab N)))))).add (Nat.mul 2 (C.ab (C.ab (C.ab (C.ab (C.ab N))))))).add (Nat.mul 2 (C.ab (C.ab (C.ab (C.ab (C.ab (C.ab N)))))))).add (Nat.mul 2 (C.ab (C.ab (C.ab (C.ab (C.ab (C.ab (C.ab N))))))))).blt 9223372036854775808) (((KV.int IntKind.i64 (Int.ofNat ((((((((Nat.mul 2 N).add (Nat.mul 2 (C.ab N))).add (Nat.mul 2 (C.ab (C.ab N)))).add (Nat.mul 2 (C.ab (C.ab (C.ab N))))).add (Nat.mul 2 (C.ab (C.ab (C.ab (C.ab N)))))).add (Nat.mul 2 (C.ab (C.ab (C.ab (C.ab (C.ab N))))))).add (Nat.mul 2 (C.ab (C.ab (C.ab (C.ab (C.ab (C.ab N)))))))).add (Nat.mul 2 (C.ab (C.ab (C.ab (C.ab (C.ab (C.ab (C.ab N))))))))))).cons ((KV.int IntKind.i64 (Int.ofNat 0)).cons KV.nl)).tup = v)))))))))))))))) (C.ab (C.ab (C.ab (C.ab (C.ab (C.ab (C.ab N)))))) ≤ 4294967296 ∧ alt (eqI (Int.ofNat (C.ab (C.ab (C.ab (C.ab (C.ab (C.ab (C.ab (C.ab N))))))))) (Int.ofNat 1)) (cnd ((Nat.mul 2 N).blt 9223372036854775808) (cnd ((Nat.mul 2 (C.ab N)).blt 9223372036854775808) (cnd (((Nat.mul 2 N).add (Nat.mul 2 (C.ab N))).blt 9223372036854775808) (cnd ((Nat.mul 2 (C.ab (C.ab N))).blt 9223372036854775808) (cnd ((((Nat.mul 2 N).add (Nat.mul 2 (C.ab N))).add (Nat.mul 2 (C.ab (C.ab N)))).blt 9223372036854775808) (cnd ((Nat.mul 2 (C.ab (C.ab (C.ab N)))).blt 9223372036854775808) (cnd (((((Nat.mul 2 N).add (Nat.mul 2 (C.ab N))).add (Nat.mul 2 (C.ab (C.ab N)))).add (Nat.mul 2 (C.ab (C.ab (C.ab N))))).blt 9223372036854775808) (cnd ((Nat.mul 2 (C.ab (C.ab (C.ab (C.ab N))))).blt 9223372036854775808) (cnd ((((((Nat.mul 2 N).add (Nat.mul 2 (C.ab N))).add (Nat.mul 2 (C.ab (C.ab N)))).add (Nat.mul 2 (C.ab (C.ab (C.ab N))))).add (Nat.mul 2 (C.ab (C.ab (C.ab (C.ab N)))))).blt 9223372036854775808) (cnd ((Nat.mul 2 (C.ab (C.ab (C.ab (C.ab (C.ab N)))))).blt 9223372036854775808) (cnd (((((((Nat.mul 2 N).add (Nat.mul 2 (C.ab N))).add (Nat.mul 2 (C.ab (C.ab N)))).add (Nat.mul 2 (C.ab (C.ab (C.ab N))))).add (Nat.mul 2 (C.ab (C.ab (C.ab (C.ab N)))))).add (Nat.mul 2 (C.ab (C.ab (C.ab (C.ab (C.ab N))))))).blt 9223372036854775808) (cnd ((Nat.mul 2 (C.ab (C.ab (C.ab (C.ab (C.ab (C.ab N))))))).blt 9223372036854775808) (cnd ((((((((Nat.mul 2 N).add (Nat.mul 2 (C.ab N))).add (Nat.mul 2 (C.ab (C.ab N)))).add (Nat.mul 2 (C.ab (C.ab (C.ab N))))).add (Nat.mul 2 (C.ab (C.ab (C.ab (C.ab N)))))).add (Nat.mul 2 (C.ab (C.ab (C.ab (C.ab (C.ab N))))))).add (Nat.mul 2 (C.ab (C.ab (C.ab (C.ab (C.ab (C.ab N)))))))).blt 9223372036854775808) (cnd ((Nat.mul 2 (C.ab (C.ab (C.ab (C.ab (C.ab (C.ab (C.ab N)))))))).blt 9223372036854775808) (cnd (((((((((Nat.mul 2 N).add (Nat.mul 2 (C.ab N))).add (Nat.mul 2 (C.ab (C.ab N)))).add (Nat.mul 2 (C.ab (C.ab (C.ab N))))).add (Nat.mul 2 (C.ab (C.ab (C.ab (C.ab N)))))).add (Nat.mul 2 (C.ab (C.ab (C.ab (C.ab (C.ab N))))))).add (Nat.mul 2 (C.ab (C.ab (C.ab (C.ab (C.ab (C.ab N)))))))).add (Nat.mul 2 (C.ab (C.ab (C.ab (C.ab (C.ab (C.ab (C.ab N))))))))).blt 9223372036854775808) (cnd ((Nat.mul 2 (C.ab (C.ab (C.ab (C.ab (C.ab (C.ab (C.ab (C.ab N))))))))).blt 9223372036854775808) (cnd ((((((((((Nat.mul 2 N).add (Nat.mul 2 (C.ab N))).add (Nat.mul 2 (C.ab (C.ab N)))).add (Nat.mul 2 (C.ab (C.ab (C.ab N))))).add (Nat.mul 2 (C.ab (C.ab (C.ab (C.ab N)))))).add (Nat.mul 2 (C.ab (C.ab (C.ab (C.ab (C.ab N))))))).add (Nat.mul 2 (C.ab (C.ab (C.ab (C.ab (C.ab (C.ab N)))))))).add (Nat.mul 2 (C.ab (C.ab (C.ab (C.ab (C.ab (C.ab (C.ab N))))))))).add (Nat.mul 2 (C.ab (C.ab (C.ab (C.ab (C.ab (C.ab (C.ab (C.ab N)))))))))).blt 9223372036854775808) (((KV.int IntKind.i64 (Int.ofNat (((((((((Nat.mul 2 N).add (Nat.mul 2 (C.ab N))).add (Nat.mul 2 (C.ab (C.ab N)))).add (Nat.mul 2 (C.ab (C.ab (C.ab N))))).add (Nat.mul 2 (C.ab (C.ab (C.ab (C.ab N)))))).add (Nat.mul 2 (C.ab (C.ab (C.ab (C.ab (C.ab N))))))).add (Nat.mul 2 (C.ab (C.ab (C.ab (C.ab (C.ab (C.ab N)))))))).add (Nat.mul 2 (C.ab (C.ab (C.ab (C.ab (C.ab (C.ab (C.ab N))))))))).add (Nat.mul 2 (C.ab (C.ab (C.ab (C.ab (C.ab (C.ab (C.ab (C.ab N)))))))))))).cons ((KV.int IntKind.i64 (Int.ofNat 0)).cons KV.nl)).tup = v)))))))))))))))))) (C.ab (C.ab (C.ab (C.ab (C.ab (C.ab (C.ab (C.ab N))))))) ≤ 4294967296 ∧ alt (eqI (Int.ofNat (C.ab (C.ab (C.ab (C.ab (C.ab (C.ab (C.ab (C.ab (C.ab N)))))))))) (Int.ofNat 1)) (cnd ((Nat.mul 2 N).blt 9223372036854775808) (cnd ((Nat.mul 2 (C.ab N)).blt 9223372036854775808) (cnd (((Nat.mul 2 N).add (Nat.mul 2 (C.ab N))).blt 9223372036854775808) (cnd ((Nat.mul 2 (C.ab (C.ab N))).blt 9223372036854775808) (cnd ((((Nat.mul 2 N).add (Nat.mul 2 (C.ab N))).add (Nat.mul 2 (C.ab (C.ab N)))).blt 9223372036854775808) (cnd ((Nat.mul 2 (C.ab (C.ab (C.ab N)))).blt 9223372036854775808) (cnd (((((Nat.mul 2 N).add (Nat.mul 2 (C.ab N))).add (Nat.mul 2 (C.ab (C.ab N)))).add (Nat.mul 2 (C.ab (C.ab (C.ab N))))).blt 9223372036854775808) (cnd ((Nat.mul 2 (C.ab (C.ab (C.ab (C.ab N))))).blt 9223372036854775808) (cnd ((((((Nat.mul 2 N).add (Nat.mul 2 (C.ab N))).add (Nat.mul 2 (C.ab (C.ab N)))).add (Nat.mul 2 (C.ab (C.ab (C.ab N))))).add (Nat.mul 2 (C.ab (C.ab (C.ab (C.ab N)))))).blt 9223372036854775808) (cnd ((Nat.mul 2 (C.ab (C.ab (C.ab (C.ab (C.ab N)))))).blt 9223372036854775808) (cnd (((((((Nat.mul 2 N).add (Nat.mul 2 (C.ab N))).add (Nat.mul 2 (C.ab (C.ab N)))).add (Nat.mul 2 (C.ab (C.ab (C.ab N))))).add (Nat.mul 2 (C.ab (C.ab (C.ab (C.ab N)))))).add (Nat.mul 2 (C.ab (C.ab (C.ab (C.ab (C.ab N))))))).blt 9223372036854775808) (cnd ((Nat.mul 2 (C.ab (C.ab (C.ab (C.ab (C.ab (C.ab N))))))).blt 9223372036854775808) (cnd ((((((((Nat.mul 2 N).add (Nat.mul 2 (C.ab N))).add (Nat.mul 2 (C.ab (C.ab N)))).add (Nat.mul 2 (C.ab (C.ab (C.ab N))))).add (Nat.mul 2 (C.ab (C.ab (C.ab (C.ab N)))))).add (Nat.mul 2 (C.ab (C.ab (C.ab (C.ab (C.ab N))))))).add (Nat.mul 2 (C.ab (C.ab (C.ab (C.ab (C.ab (C.ab N)))))))).blt 9223372036854775808) (cnd ((Nat.mul 2 (C.ab (C.ab (C.ab (C.ab (C.ab (C.ab (C.ab N)))))))).blt 9223372036854775808) (cnd (((((((((Nat.mul 2 N).add (Nat.mul 2 (C.ab N))).add (Nat.mul 2 (C.ab (C.ab N)))).add (Nat.mul 2 (C.ab (C.ab (C.ab N))))).add (Nat.mul 2 (C.ab (C.ab (C.ab (C.ab N)))))).add (Nat.mul 2 (C.ab (C.ab (C.ab (C.ab (C.ab N))))))).add (Nat.mul 2 (C.ab (C.ab (C.ab (C.ab (C.ab (C.ab N)))))))).add (Nat.mul 2 (C.ab (C.ab (C.ab (C.ab (C.ab (C.ab (C.ab N))))))))).blt 9223372036854775808) (cnd ((Nat.mul 2 (C.ab (C.ab (C.ab (C.ab (C.ab (C.ab (C.ab (C.ab N))))))))).blt 9223372036854775808) (cnd ((((((((((Nat.mul 2 N).add (Nat.mul 2 (C.ab N))).add (Nat.mul 2 (C.ab (C.ab N)))).add (Nat.mul 2 (C.ab (C.ab (C.ab N))))).add (Nat.mul 2 (C.ab (C.ab (C.ab (C.ab N)))))).add (Nat.mul 2 (C.ab (C.ab (C.ab (C.ab (C.ab N))))))).add (Nat.mul 2 (C.ab (C.ab (C.ab (C.ab (C.ab (C.ab N)))))))).add (Nat.mul 2 (C.ab (C.ab (C.ab (C.ab (C.ab (C.ab (C.ab N))))))))).add (Nat.mul 2 (C.ab (C.ab (C.ab (C.ab (C.ab (C.ab (C.ab (C.ab N)))))))))).blt 9223372036854775808) (cnd ((Nat.mul 2 (C.ab (C.ab (C.ab (C.ab (C.ab (C.ab (C.ab (C.ab (C.ab N)))))))))).blt 9223372036854775808) (cnd (((((((((((Nat.mul 2 N).add (Nat.mul 2 (C.ab N))).add (Nat.mul 2 (C.ab (C.ab N)))).add (Nat.mul 2 (C.ab (C.ab (C.ab N))))).add (Nat.mul 2 (C.ab (C.ab (C.ab (C.ab N)))))).add (Nat.mul 2 (C.ab (C.ab (C.ab (C.ab (C.ab N))))))).add (Nat.mul 2 (C.ab (C.ab (C.ab (C.ab (C.ab (C.ab N)))))))).add (Nat.mul 2 (C.ab (C.ab (C.ab (C.ab (C.ab (C.ab (C.ab N))))))))).add (Nat.mul 2 (C.ab (C.ab (C.ab (C.ab (C.ab (C.ab (C.ab (C.ab N)))))))))).add (Nat.mul 2 (C.ab (C.ab (C.ab (C.ab (C.ab (C.ab (C.ab (C.ab (C.ab N))))))))))).blt 9223372036854775808) (((KV.int IntKind.i64 (Int.ofNat ((((((((((Nat.mul 2 N).add (Nat.mul 2 (C.ab N))).add (Nat.mul 2 (C.ab (C.ab N)))).add (Nat.mul 2 (C.ab (C.ab (C.ab N))))).add (Nat.mul 2 (C.ab (C.ab (C.ab (C.ab N)))))).add (Nat.mul 2 (C.ab (C.ab (C.ab (C.ab (C.ab N))))))).add (Nat.mul 2 (C.ab (C.ab (C.ab (C.ab (C.ab (C.ab N)))))))).add (Nat.mul 2 (C.ab (C.ab (C.ab (C.ab (C.ab (C.ab (C.ab N))))))))).add (Nat.mul 2 (C.ab (C.ab (C.ab (C.ab (C.ab (C.ab (C.ab (C.ab N)))))))))).add (Nat.mul 2 (C.ab (C.ab (C.ab (C.ab (C.ab (C.ab (C.ab (C.ab (C.ab N))))))))))))).cons ((KV.int IntKind.i64 (Int.ofNat 0)).cons KV.nl)).tup = v)))))))))))))))))))) (C.ab (C.ab (C.ab (C.ab (C.ab (C.ab (C.ab (C.ab (C.ab N)))))))) ≤ 4294967296 ∧ alt (eqI (Int.ofNat (C.ab (C.ab (C.ab (C.ab (C.ab (C.ab (C.ab (C.ab (C.ab (C.ab N))))))))))) (Int.ofNat 1)) (BadN (15 : Nat)) (C.ab (C.ab (C.ab (C.ab (C.ab (C.ab (C.ab (C.ab (C.ab (C.ab N))))))))) ≤ 4294967296 ∧ alt (eqI (Int.ofNat (C.ab (C.ab (C.ab (C.ab (C.ab (C.ab (C.ab (C.ab (C.ab (C.ab (C.ab N)))))))))))) (Int.ofNat 1)) (BadN (15 : Nat)) (BadN (15 : Nat))))))))))))))) := by kernel_rfl
theorem run89m_eq (N : Nat) (v : KV) : run89m N v = (((KV.int IntKind.i64 (Int.ofNat 0)).cons ((KV.int IntKind.i64 (Int.ofNat 1)).cons KV.nl)).tup = v) := by kernel_rfl
set_option maxRecDepth 100000 in
theorem run89_g {N : Nat} (h1 : 1 ≤ N) (h2 : N ≤ 4096) : run89 N (.tup (.cons (.int .i64 (.ofNat (C.sec N))) (.cons (.int .i64 (.ofNat 0)) .nl))) := by
  rw [run89_eq]
  have hs : C.sec N = 2 * N + C.sl 5 (C.ab N) := rfl
  have a1 := ab_s N
  have p1 := sl_1' 4 (C.ab N)
  have q1 := sl_n' 4 (C.ab N)
  generalize C.ab N = c1 at *
  have a2 := ab_s c1
  have p2 := sl_1' 3 (C.ab c1)
  have q2 := sl_n' 3 (C.ab c1)
  generalize C.ab c1 = c2 at *
  have a3 := ab_s c2
  have p3 := sl_1' 2 (C.ab c2)
  have q3 := sl_n' 2 (C.ab c2)
  generalize C.ab c2 = c3 at *
  have a4 := ab_s c3
  have p4 := sl_1' 1 (C.ab c3)
  have q4 := sl_n' 1 (C.ab c3)
  generalize C.ab c3 = c4 at *
  have a5 := ab_s c4
  have p5 := sl_1' 0 (C.ab c4)
  have q5 := sl_n' 0 (C.ab c4)
  generalize C.ab c4 = c5 at *
  have a6 := ab_s c5
  have p6 := sl_0 (C.ab c5)
  generalize C.ab c5 = c6 at *
  generalize C.sec N = sN at *
  simp only [Nat.zero_add] at p1 q1 p2 q2 p3 q3 p4 q4 p5 q5
  generalize C.sl 5 c1 = s1 at *
  generalize C.sl 4 c2 = s2 at *
  generalize C.sl 3 c3 = s3 at *
  generalize C.sl 2 c4 = s34 at *
  generalize C.sl 1 c5 = s5 at *
  generalize C.sl 0 c6 = s6 at *
  simp only [alt_iff, cnd_iff, eqI_nat, ltI_nat, beqT, beqF, bltT, bltF, notT, notF, Nat.add_eq, Nat.mul_eq]
  repeat' first | apply And.intro | intro _
  all_goals first | omega | (exfalso; omega) | (apply tup2_eq; omega)
theorem run89_b {N : Nat} (h1 : N < 1 ∨ 4096 < N) : run89 N (.tup (.cons (.int .i64 (.ofNat 0)) (.cons (.int .i64 (.ofNat 1)) .nl))) := by
  rw [run89_eq]
  refine alt_iff.2 ⟨fun _ => rfl, fun h3 => alt_iff.2 ⟨fun _ => rfl, fun h4 => ?_⟩⟩
  rw [ltI_nat, bltF] at h3 h4
  omega
theorem run89_m (N : Nat) : run89m N (.tup (.cons (.int .i64 (.ofNat 0)) (.cons (.int .i64 (.ofNat 1)) .nl))) := by
  rw [run89m_eq]
theorem P89 : ∃ fn, Tryz.prog.funcs[89]? = some fn ∧ (fn.name == "runtime.NumGoroutine") = false ∧ fn.body.isNone = false := ⟨Tryz.f89, Tryz.func89, (fnsL.get Tryz.func89).1, by kernel_rfl⟩
def s89b : KSpec := fun l K => la1 l fun x => onInt (fun kk z => chk (ikEq kk .i64) 311 ((z < 1 ∨ 4096 < z) ∧ K (.tup (.cons (.int .i64 (.ofNat 0)) (.cons (.int .i64 (.ofNat 1)) .nl))))) (BadN 312) x
def s89g : KSpec := fun l K => la1 l fun x => natK x fun n => (1 ≤ n ∧ n ≤ 4096) ∧ K (.tup (.cons (.int .i64 (.ofNat (C.sec n))) (.cons (.int .i64 (.ofNat 0)) .nl)))
theorem kcs89b : @KCS gO Tryz.prog 89 s89b := by
  refine @kcsQ gO EO1 okO1 89 s89b P89 fun l K hs => ?_
  obtain ⟨x, rfl, h1⟩ := la1_s hs
  rcases onInt_inv h1 with ⟨kk, z, rfl, h2⟩ | ⟨_, h2⟩
  · obtain ⟨h3, h4, h5⟩ := chk_inv h2
    obtain rfl := ikEq_eq h3
    refine ⟨28, _, _, h5, rfl, fun _ _ h => h, ?_⟩
    cases z with
    | ofNat n => exact run89_b (by have : Int.ofNat n = (n : Int) := rfl; omega)
    | negSucc n => exact run89_m n
  · exact h2.elim
theorem kcs89g : @KCS gO Tryz.prog 89 s89g := by
  refine @kcsQ gO EO1 okO1 89 s89g P89 fun l K hs => ?_
  obtain ⟨x, rfl, h1⟩ := la1_s hs
  obtain ⟨n, rfl, h2, h3⟩ := natK_s h1
  exact ⟨28, _, _, h3, rfl, fun _ _ h => h, run89_g h2.1 h2.2⟩
end
end Go.K
namespace Go.K
open Go.Ab Go.RowKit Go.Y Go.Proofs
noncomputable section
attribute [local irreducible] krun callR
def E169b : KEnv := EO0.tab [(89, s89b)]
def E169g : KEnv := EO0.tab [(89, s89g)]
theorem ok169b : @KOk gO E169b := @KOk.tab gO EO0 okO0 _ ⟨kcs89b, trivial⟩
theorem ok169g : @KOk gO E169g := @KOk.tab gO EO0 okO0 _ ⟨kcs89g, trivial⟩
def run169b (z : Int) (k : Nat) (v : KV) : Prop := @callR gO E169b (@krun gO E169b 32) 0 169 [.int .i64 z, dk k] .e 0 0 fun r _ _ _ => r = v
def run169g (N k : Nat) (v : KV) : Prop := @callR gO E169g (@krun gO E169g 32) 0 169 [.int .i64 (.ofNat N), dk k] .e 0 0 fun r _ _ _ => r = v
theorem run169b_eq (z : Int) (k : Nat) (v : KV) : run169b z k v = ((z < Int.ofNat 1 ∨ Int.ofNat 4096 < z) ∧ (((KV.int IntKind.i64 z).cons (((KV.int IntKind.i64 (Int.ofNat k)).cons ((KV.int IntKind.i64 (Int.ofNat 0)).cons ((KV.ro true true Shape.sc 0 1 (KV.ar 1 KV.nilp ((KV.ref true (Shape.arr 64 Shape.sc) (KV.ar 64 KV.nilp KV.te)).tn KV.te KV.te KV.te KV.te))).cons KV.nl))).cons KV.nl)).cons ((KV.int IntKind.i64 (Int.ofNat 1)).cons KV.nl)).tup = v) := by kernel_rfl
theorem run169g_eq (N k : Nat) (v : KV) : run169g N k v = ((1 ≤ N ∧ N ≤ 4096) ∧ alt (!eqI (Int.ofNat k) (Int.ofNat (C.sec N))) ((((KV.int IntKind.i64 (Int.ofNat N)).cons (((KV.int IntKind.i64 (Int.ofNat k)).cons ((KV.int IntKind.i64 (Int.ofNat 0)).cons ((KV.ro true true Shape.sc 0 1 (KV.ar 1 KV.nilp ((KV.ref true (Shape.arr 64 Shape.sc) (KV.ar 64 KV.nilp KV.te)).tn KV.te KV.te KV.te KV.te))).cons KV.nl))).cons KV.nl)).cons ((KV.int IntKind.i64 (Int.ofNat 1)).cons KV.nl)).tup = v) ((((KV.int IntKind.i64 (Int.ofNat N)).cons (((KV.int IntKind.i64 (Int.ofNat k)).cons ((KV.int IntKind.i64 (Int.ofNat 0)).cons ((KV.ro true true Shape.sc 0 1 (KV.ar 1 KV.nilp ((KV.ref true (Shape.arr 64 Shape.sc) (KV.ar 64 KV.nilp KV.te)).tn KV.te KV.te KV.te KV.te))).cons KV.nl))).cons KV.nl)).cons ((KV.int IntKind.i64 (Int.ofNat 0)).cons KV.nl)).tup = v)) := by kernel_rfl
def C.bad (z : Int) (k : Nat) : Prop := z < 1 ∨ 4096 < z ∨ ∃ N : Nat, z = .ofNat N ∧ C.sec N ≠ k
def e1 : KV := .tup (.cons .unk (.cons (.int .i64 (.ofNat 1)) .nl))
def s169 : KSpec := fun l K => lb2 l fun x d => onInt (fun kk z => chk (ikEq kk .i64) 311 (onCons (fun a b => chk (kvb b dkR) 313 (natK a fun k => C.bad z k ∧ K e1)) (BadN 314) d)) (BadN 312) x
theorem P169 : ∃ fn, Tryz.prog.funcs[169]? = some fn ∧ (fn.name == "runtime.NumGoroutine") = false ∧ fn.body.isNone = false := ⟨Tryz.f169, Tryz.func169, (fnsL.get Tryz.func169).1, by kernel_rfl⟩
theorem imp_e1 (a : KV) : Imp (KV.tup (.cons a (.cons (.int .i64 (.ofNat 1)) .nl))).v e1.v := Imp.tupL (Imp.consL (fun _ _ _ => trivial) fun _ _ h => h)
theorem kcs169 : @KCS gO Tryz.prog 169 s169 := by
  refine @kcsE gO Tryz.prog 169 s169 P169 fun l K hs => ?_
  obtain ⟨x, d, rfl, h1⟩ := lb2_s hs
  rcases onInt_inv h1 with ⟨kk, z, rfl, h2⟩ | ⟨_, h2⟩
  · obtain ⟨h3, h4⟩ := chk_inv h2
    obtain rfl := ikEq_eq h3
    rcases onCons_inv h4 with ⟨a, b, rfl, h5⟩ | ⟨_, h5⟩
    · obtain ⟨h6, h7⟩ := chk_inv h5
      obtain rfl := kvb_s h6
      obtain ⟨k, rfl, h8, h9⟩ := natK_s h7
      have hb : (z < 1 ∨ 4096 < z) ∨ ∃ N : Nat, z = .ofNat N ∧ C.sec N ≠ k ∧ 1 ≤ N ∧ N ≤ 4096 := by
        rcases h8 with h | h | ⟨N, rfl, h⟩
        · exact .inl (.inl h)
        · exact .inl (.inr h)
        · by_cases q : 1 ≤ N ∧ N ≤ 4096
          · exact .inr ⟨N, rfl, h, q.1, q.2⟩
          · left
            have : Int.ofNat N = (N : Int) := rfl
            omega
      rcases hb with hb | ⟨N, rfl, hb, q1, q2⟩
      · refine ⟨E169b, ok169b, rfl, 32, _, _, h9, rfl, imp_e1 (.cons (.int .i64 z) (.cons (dk k) .nl)), ?_⟩
        show run169b z k _
        rw [run169b_eq]
        exact ⟨hb, rfl⟩
      · refine ⟨E169g, ok169g, rfl, 32, _, _, h9, rfl, imp_e1 (.cons (.int .i64 (.ofNat N)) (.cons (dk k) .nl)), ?_⟩
        show run169g N k _
        rw [run169g_eq]
        refine ⟨⟨q1, q2⟩, alt_iff.2 ⟨fun _ => rfl, fun h => ?_⟩⟩
        rw [notF, eqI_nat, beqT] at h
        exact absurd h.symm hb
    · exact h5.elim
  · exact h2.elim
theorem div_e (a b : Nat) : Nat.div a b = a / b := rfl
def run62 (l N : Nat) (v : KV) : Prop := @callR gO EO0 (@krun gO EO0 40) 0 62 [.int .i64 (.ofNat N), .int .i64 (.ofNat l)] .e 0 0 fun r _ _ _ => r = v
theorem run56_0_eq (N : Nat) (v : KV) : run62 0 N v = (cnd ((N.add 3).blt 9223372036854775808) (cnd (((N.add 3).div 4).blt 9223372036854775808) (KV.int IntKind.i64 (Int.ofNat ((N.add 3).div 4)) = v))) := by kernel_rfl
theorem run56_1_eq (N : Nat) (v : KV) : run62 1 N v = (cnd ((N.add 3).blt 9223372036854775808) (cnd (((N.add 3).div 4).blt 9223372036854775808) (alt (eqI (Int.ofNat ((N.add 3).div 4)) (Int.ofNat 1)) (KV.int IntKind.i64 (Int.ofNat 0) = v) (cnd ((((N.add 3).div 4).add 3).blt 9223372036854775808) (cnd (((((N.add 3).div 4).add 3).div 4).blt 9223372036854775808) (KV.int IntKind.i64 (Int.ofNat ((((N.add 3).div 4).add 3).div 4)) = v)))))) := by kernel_rfl
theorem run56_2_eq (N : Nat) (v : KV) : run62 2 N v = (cnd ((N.add 3).blt 9223372036854775808) (cnd (((N.add 3).div 4).blt 9223372036854775808) (alt (eqI (Int.ofNat ((N.add 3).div 4)) (Int.ofNat 1)) (KV.int IntKind.i64 (Int.ofNat 0) = v) (cnd ((((N.add 3).div 4).add 3).blt 9223372036854775808) (cnd (((((N.add 3).div 4).add 3).div 4).blt 9223372036854775808) (alt (eqI (Int.ofNat ((((N.add 3).div 4).add 3).div 4)) (Int.ofNat 1)) (KV.int IntKind.i64 (Int.ofNat 0) = v) (cnd ((((((N.add 3).div 4).add 3).div 4).add 3).blt 9223372036854775808) (cnd (((((((N.add 3).div 4).add 3).div 4).add 3).div 4).blt 9223372036854775808) (KV.int IntKind.i64 (Int.ofNat ((((((N.add 3).div 4).add 3).div 4).add 3).div 4)) = v))))))))) := by kernel_rfl
theorem run56_3_eq (N : Nat) (v : KV) : run62 3 N v = (cnd ((N.add 3).blt 9223372036854775808) (cnd (((N.add 3).div 4).blt 9223372036854775808) (alt (eqI (Int.ofNat ((N.add 3).div 4)) (Int.ofNat 1)) (KV.int IntKind.i64 (Int.ofNat 0) = v) (cnd ((((N.add 3).div 4).add 3).blt 9223372036854775808) (cnd (((((N.add 3).div 4).add 3).div 4).blt 9223372036854775808) (alt (eqI (Int.ofNat ((((N.add 3).div 4).add 3).div 4)) (Int.ofNat 1)) (KV.int IntKind.i64 (Int.ofNat 0) = v) (cnd ((((((N.add 3).div 4).add 3).div 4).add 3).blt 9223372036854775808) (cnd (((((((N.add 3).div 4).add 3).div 4).add 3).div 4).blt 9223372036854775808) (alt (eqI (Int.ofNat ((((((N.add 3).div 4).add 3).div 4).add 3).div 4)) (Int.ofNat 1)) (KV.int IntKind.i64 (Int.ofNat 0) = v) (cnd ((((((((N.add 3).div 4).add 3).div 4).add 3).div 4).add 3).blt 9223372036854775808) (cnd (((((((((N.add 3).div 4).add 3).div 4).add 3).div 4).add 3).div 4).blt 9223372036854775808) (KV.int IntKind.i64 (Int.ofNat ((((((((N.add 3).div 4).add 3).div 4).add 3).div 4).add 3).div 4)) = v)))))))))))) := by kernel_rfl
theorem run56_4_eq (N : Nat) (v : KV) : run62 4 N v = (cnd ((N.add 3).blt 9223372036854775808) (cnd (((N.add 3).div 4).blt 9223372036854775808) (alt (eqI (Int.ofNat ((N.add 3).div 4)) (Int.ofNat 1)) (KV.int IntKind.i64 (Int.ofNat 0) = v) (cnd ((((N.add 3).div 4).add 3).blt 9223372036854775808) (cnd (((((N.add 3).div 4).add 3).div 4).blt 9223372036854775808) (alt (eqI (Int.ofNat ((((N.add 3).div 4).add 3).div 4)) (Int.ofNat 1)) (KV.int IntKind.i64 (Int.ofNat 0) = v) (cnd ((((((N.add 3).div 4).add 3).div 4).add 3).blt 9223372036854775808) (cnd (((((((N.add 3).div 4).add 3).div 4).add 3).div 4).blt 9223372036854775808) (alt (eqI (Int.ofNat ((((((N.add 3).div 4).add 3).div 4).add 3).div 4)) (Int.ofNat 1)) (KV.int IntKind.i64 (Int.ofNat 0) = v) (cnd ((((((((N.add 3).div 4).add 3).div 4).add 3).div 4).add 3).blt 9223372036854775808) (cnd (((((((((N.add 3).div 4).add 3).div 4).add 3).div 4).add 3).div 4).blt 9223372036854775808) (alt (eqI (Int.ofNat ((((((((N.add 3).div 4).add 3).div 4).add 3).div 4).add 3).div 4)) (Int.ofNat 1)) (KV.int IntKind.i64 (Int.ofNat 0) = v) (cnd ((((((((((N.add 3).div 4).add 3).div 4).add 3).div 4).add 3).div 4).add 3).blt 9223372036854775808) (cnd (((((((((((N.add 3).div 4).add 3).div 4).add 3).div 4).add 3).div 4).add 3).div 4).blt 9223372036854775808) (KV.int IntKind.i64 (Int.ofNat ((((((((((N.add 3).div 4).add 3).div 4).add 3).div 4).add 3).div 4).add 3).div 4)) = v))))))))))))))) := by kernel_rfl
theorem run56_5_eq (N : Nat) (v : KV) : run62 5 N v = (cnd ((N.add 3).blt 9223372036854775808) (cnd (((N.add 3).div 4).blt 9223372036854775808) (alt (eqI (Int.ofNat ((N.add 3).div 4)) (Int.ofNat 1)) (KV.int IntKind.i64 (Int.ofNat 0) = v) (cnd ((((N.add 3).div 4).add 3).blt 9223372036854775808) (cnd (((((N.add 3).div 4).add 3).div 4).blt 9223372036854775808) (alt (eqI (Int.ofNat ((((N.add 3).div 4).add 3).div 4)) (Int.ofNat 1)) (KV.int IntKind.i64 (Int.ofNat 0) = v) (cnd ((((((N.add 3).div 4).add 3).div 4).add 3).blt 9223372036854775808) (cnd (((((((N.add 3).div 4).add 3).div 4).add 3).div 4).blt 9223372036854775808) (alt (eqI (Int.ofNat ((((((N.add 3).div 4).add 3).div 4).add 3).div 4)) (Int.ofNat 1)) (KV.int IntKind.i64 (Int.ofNat 0) = v) (cnd ((((((((N.add 3).div 4).add 3).div 4).add 3).div 4).add 3).blt 9223372036854775808) (cnd (((((((((N.add 3).div 4).add 3).div 4).add 3).div 4).add 3).div 4).blt 9223372036854775808) (alt (eqI (Int.ofNat ((((((((N.add 3).div 4).add 3).div 4).add 3).div 4).add 3).div 4)) (Int.ofNat 1)) (KV.int IntKind.i64 (Int.ofNat 0) = v) (cnd ((((((((((N.add 3).div 4).add 3).div 4).add 3).div 4).add 3).div 4).add 3).blt 9223372036854775808) (cnd (((((((((((N.add 3).div 4).add 3).div 4).add 3).div 4).add 3).div 4).add 3).div 4).blt 9223372036854775808) (alt (eqI (Int.ofNat ((((((((((N.add 3).div 4).add 3).div 4).add 3).div 4).add 3).div 4).add 3).div 4)) (Int.ofNat 1)) (KV.int IntKind.i64 (Int.ofNat 0) = v) (cnd ((((((((((((N.add 3).div 4).add 3).div 4).add 3).div 4).add 3).div 4).add 3).div 4).add 3).blt 9223372036854775808) (cnd (((((((((((((N.add 3).div 4).add 3).div 4).add 3).div 4).add 3).div 4).add 3).div 4).add 3).div 4).blt 9223372036854775808) (KV.int IntKind.i64 (Int.ofNat ((((((((((((N.add 3).div 4).add 3).div 4).add 3).div 4).add 3).div 4).add 3).div 4).add 3).div 4)) = v)))))))))))))))))) := by kernel_rfl
theorem run56_6_eq (N : Nat) (v : KV) : run62 6 N v = (cnd ((N.add 3).blt 9223372036854775808) (cnd (((N.add 3).div 4).blt 9223372036854775808) (alt (eqI (Int.ofNat ((N.add 3).div 4)) (Int.ofNat 1)) (KV.int IntKind.i64 (Int.ofNat 0) = v) (cnd ((((N.add 3).div 4).add 3).blt 9223372036854775808) (cnd (((((N.add 3).div 4).add 3).div 4).blt 9223372036854775808) (alt (eqI (Int.ofNat ((((N.add 3).div 4).add 3).div 4)) (Int.ofNat 1)) (KV.int IntKind.i64 (Int.ofNat 0) = v) (cnd ((((((N.add 3).div 4).add 3).div 4).add 3).blt 9223372036854775808) (cnd (((((((N.add 3).div 4).add 3).div 4).add 3).div 4).blt 9223372036854775808) (alt (eqI (Int.ofNat ((((((N.add 3).div 4).add 3).div 4).add 3).div 4)) (Int.ofNat 1)) (KV.int IntKind.i64 (Int.ofNat 0) = v) (cnd ((((((((N.add 3).div 4).add 3).div 4).add 3).div 4).add 3).blt 9223372036854775808) (cnd (((((((((N.add 3).div 4).add 3).div 4).add 3).div 4).add 3).div 4).blt 9223372036854775808) (alt (eqI (Int.ofNat ((((((((N.add 3).div 4).add 3).div 4).add 3).div 4).add 3).div 4)) (Int.ofNat 1)) (KV.int IntKind.i64 (Int.ofNat 0) = v) (cnd ((((((((((N.add 3).div 4).add 3).div 4).add 3).div 4).add 3).div 4).add 3).blt 9223372036854775808) (cnd (((((((((((N.add 3).div 4).add 3).div 4).add 3).div 4).add 3).div 4).add 3).div 4).blt 9223372036854775808) (alt (eqI (Int.ofNat ((((((((((N.add 3).div 4).add 3).div 4).add 3).div 4).add 3).div 4).add 3).div 4)) (Int.ofNat 1)) (KV.int IntKind.i64 (Int.ofNat 0) = v) (cnd ((((((((((((N.add 3).div 4).add 3).div 4).add 3).div 4).add 3).div 4).add 3).div 4).add 3).blt 9223372036854775808) (cnd (((((((((((((N.add 3).div 4).add 3).div 4).add 3).div 4).add 3).div 4).add 3).div 4).add 3).div 4).blt 9223372036854775808) (alt (eqI (Int.ofNat ((((((((((((N.add 3).div 4).add 3).div 4).add 3).div 4).add 3).div 4).add 3).div 4).add 3).div 4)) (Int.ofNat 1)) (KV.int IntKind.i64 (Int.ofNat 0) = v) (cnd ((((((((((((((N.add 3).div 4).add 3).div 4).add 3).div 4).add 3).div 4).add 3).div 4).add 3).div 4).add 3).blt 9223372036854775808) (cnd (((((((((((((((N.add 3).div 4).add 3).div 4).add 3).div 4).add 3).div 4).add 3).div 4).add 3).div 4).add 3).div 4).blt 9223372036854775808) (KV.int IntKind.i64 (Int.ofNat ((((((((((((((N.add 3).div 4).add 3).div 4).add 3).div 4).add 3).div 4).add 3).div 4).add 3).div 4).add 3).div 4)) = v))))))))))))))))))))) := by kernel_rfl
theorem run56_0 {N : Nat} (h : N ≤ 4294967296) (hn : C.no1 N 0) : run62 0 N (.int .i64 (.ofNat (C.cnt N 0))) := by
  rw [run56_0_eq]
  have e0 : C.cnt N 0 = (N + 3) / 4 := rfl
  generalize C.cnt N 0 = c0 at *
  simp only [alt_iff, cnd_iff, eqI_nat, ltI_nat, beqT, beqF, bltT, bltF, notT, notF, Nat.add_eq, Nat.mul_eq, div_e, ← e0]
  repeat' first | apply And.intro | intro _
  all_goals first | trivial | omega | (exfalso; omega) | (apply int_eq; omega)
theorem run56_1 {N : Nat} (h : N ≤ 4294967296) (hn : C.no1 N 1) : run62 1 N (.int .i64 (.ofNat (C.cnt N 1))) := by
  rw [run56_1_eq]
  have n0 := hn 0 (by omega)
  have e0 : C.cnt N 0 = (N + 3) / 4 := rfl
  have e1 : C.cnt N 1 = (C.cnt N 0 + 3) / 4 := rfl
  generalize C.cnt N 0 = c0 at *
  generalize C.cnt N 1 = c1 at *
  simp only [alt_iff, cnd_iff, eqI_nat, ltI_nat, beqT, beqF, bltT, bltF, notT, notF, Nat.add_eq, Nat.mul_eq, div_e, ← e0, ← e1]
  repeat' first | apply And.intro | intro _
  all_goals first | trivial | omega | (exfalso; omega) | (apply int_eq; omega)
theorem run56_2 {N : Nat} (h : N ≤ 4294967296) (hn : C.no1 N 2) : run62 2 N (.int .i64 (.ofNat (C.cnt N 2))) := by
  rw [run56_2_eq]
  have n0 := hn 0 (by omega)
  have n1 := hn 1 (by omega)
  have e0 : C.cnt N 0 = (N + 3) / 4 := rfl
  have e1 : C.cnt N 1 = (C.cnt N 0 + 3) / 4 := rfl
  have e2 : C.cnt N 2 = (C.cnt N 1 + 3) / 4 := rfl
  generalize C.cnt N 0 = c0 at *
  generalize C.cnt N 1 = c1 at *
  generalize C.cnt N 2 = c2 at *
  simp only [alt_iff, cnd_iff, eqI_nat, ltI_nat, beqT, beqF, bltT, bltF, notT, notF, Nat.add_eq, Nat.mul_eq, div_e, ← e0, ← e1, ← e2]
  repeat' first | apply And.intro | intro _
  all_goals first | trivial | omega | (exfalso; omega) | (apply int_eq; omega)
theorem run56_3 {N : Nat} (h : N ≤ 4294967296) (hn : C.no1 N 3) : run62 3 N (.int .i64 (.ofNat (C.cnt N 3))) := by
  rw [run56_3_eq]
  have n0 := hn 0 (by omega)
  have n1 := hn 1 (by omega)
  have n2 := hn 2 (by omega)
  have e0 : C.cnt N 0 = (N + 3) / 4 := rfl
  have e1 : C.cnt N 1 = (C.cnt N 0 + 3) / 4 := rfl
  have e2 : C.cnt N 2 = (C.cnt N 1 + 3) / 4 := rfl
  have e3 : C.cnt N 3 = (C.cnt N 2 + 3) / 4 := rfl
  generalize C.cnt N 0 = c0 at *
  generalize C.cnt N 1 = c1 at *
  generalize C.cnt N 2 = c2 at *
  generalize C.cnt N 3 = c3 at *
  simp only [alt_iff, cnd_iff, eqI_nat, ltI_nat, beqT, beqF, bltT, bltF, notT, notF, Nat.add_eq, Nat.mul_eq, div_e, ← e0, ← e1, ← e2, ← e3]
  repeat' first | apply And.intro | intro _
  all_goals first | trivial | omega | (exfalso; omega) | (apply int_eq; omega)
theorem run56_4 {N : Nat} (h : N ≤ 4294967296) (hn : C.no1 N 4) : run62 4 N (.int .i64 (.ofNat (C.cnt N 4))) := by
  rw [run56_4_eq]
  have n0 := hn 0 (by omega)
  have n1 := hn 1 (by omega)
  have n2 := hn 2 (by omega)
  have n3 := hn 3 (by omega)
  have e0 : C.cnt N 0 = (N + 3) / 4 := rfl
  have e1 : C.cnt N 1 = (C.cnt N 0 + 3) / 4 := rfl
  have e2 : C.cnt N 2 = (C.cnt N 1 + 3) / 4 := rfl
  have e3 : C.cnt N 3 = (C.cnt N 2 + 3) / 4 := rfl
  have e4 : C.cnt N 4 = (C.cnt N 3 + 3) / 4 := rfl
  generalize C.cnt N 0 = c0 at *
  generalize C.cnt N 1 = c1 at *
  generalize C.cnt N 2 = c2 at *
  generalize C.cnt N 3 = c3 at *
  generalize C.cnt N 4 = c4 at *
  simp only [alt_iff, cnd_iff, eqI_nat, ltI_nat, beqT, beqF, bltT, bltF, notT, notF, Nat.add_eq, Nat.mul_eq, div_e, ← e0, ← e1, ← e2, ← e3, ← e4]
  repeat' first | apply And.intro | intro _
  all_goals first | trivial | omega | (exfalso; omega) | (apply int_eq; omega)
theorem run56_5 {N : Nat} (h : N ≤ 4294967296) (hn : C.no1 N 5) : run62 5 N (.int .i64 (.ofNat (C.cnt N 5))) := by
  rw [run56_5_eq]
  have n0 := hn 0 (by omega)
  have n1 := hn 1 (by omega)
  have n2 := hn 2 (by omega)
  have n3 := hn 3 (by omega)
  have n4 := hn 4 (by omega)
  have e0 : C.cnt N 0 = (N + 3) / 4 := rfl
  have e1 : C.cnt N 1 = (C.cnt N 0 + 3) / 4 := rfl
  have e2 : C.cnt N 2 = (C.cnt N 1 + 3) / 4 := rfl
  have e3 : C.cnt N 3 = (C.cnt N 2 + 3) / 4 := rfl
  have e4 : C.cnt N 4 = (C.cnt N 3 + 3) / 4 := rfl
  have e5 : C.cnt N 5 = (C.cnt N 4 + 3) / 4 := rfl
  generalize C.cnt N 0 = c0 at *
  generalize C.cnt N 1 = c1 at *
  generalize C.cnt N 2 = c2 at *
  generalize C.cnt N 3 = c3 at *
  generalize C.cnt N 4 = c4 at *
  generalize C.cnt N 5 = c5 at *
  simp only [alt_iff, cnd_iff, eqI_nat, ltI_nat, beqT, beqF, bltT, bltF, notT, notF, Nat.add_eq, Nat.mul_eq, div_e, ← e0, ← e1, ← e2, ← e3, ← e4, ← e5]
  repeat' first | apply And.intro | intro _
  all_goals first | trivial | omega | (exfalso; omega) | (apply int_eq; omega)
theorem run56_6 {N : Nat} (h : N ≤ 4294967296) (hn : C.no1 N 6) : run62 6 N (.int .i64 (.ofNat (C.cnt N 6))) := by
  rw [run56_6_eq]
  have n0 := hn 0 (by omega)
  have n1 := hn 1 (by omega)
  have n2 := hn 2 (by omega)
  have n3 := hn 3 (by omega)
  have n4 := hn 4 (by omega)
  have n5 := hn 5 (by omega)
  have e0 : C.cnt N 0 = (N + 3) / 4 := rfl
  have e1 : C.cnt N 1 = (C.cnt N 0 + 3) / 4 := rfl
  have e2 : C.cnt N 2 = (C.cnt N 1 + 3) / 4 := rfl
  have e3 : C.cnt N 3 = (C.cnt N 2 + 3) / 4 := rfl
  have e4 : C.cnt N 4 = (C.cnt N 3 + 3) / 4 := rfl
  have e5 : C.cnt N 5 = (C.cnt N 4 + 3) / 4 := rfl
  have e6 : C.cnt N 6 = (C.cnt N 5 + 3) / 4 := rfl
  generalize C.cnt N 0 = c0 at *
  generalize C.cnt N 1 = c1 at *
  generalize C.cnt N 2 = c2 at *
  generalize C.cnt N 3 = c3 at *
  generalize C.cnt N 4 = c4 at *
  generalize C.cnt N 5 = c5 at *
  generalize C.cnt N 6 = c6 at *
  simp only [alt_iff, cnd_iff, eqI_nat, ltI_nat, beqT, beqF, bltT, bltF, notT, notF, Nat.add_eq, Nat.mul_eq, div_e, ← e0, ← e1, ← e2, ← e3, ← e4, ← e5, ← e6]
  repeat' first | apply And.intro | intro _
  all_goals first | trivial | omega | (exfalso; omega) | (apply int_eq; omega)
def s62 : KSpec := fun l K => lb2 l fun x y => natK x fun n => natK y fun l => chk (Nat.blt l 7) 310 ((n ≤ 4294967296 ∧ C.no1 n l) ∧ K (.int .i64 (.ofNat (C.cnt n l))))
theorem P62 : ∃ fn, Tryz.prog.funcs[62]? = some fn ∧ (fn.name == "runtime.NumGoroutine") = false ∧ fn.body.isNone = false := ⟨Tryz.f62, Tryz.func62, (fnsL.get Tryz.func62).1, by kernel_rfl⟩
theorem kcs62 : @KCS gO Tryz.prog 62 s62 := by
  refine @kcsQ gO EO0 okO0 62 s62 P62 fun l K hs => ?_
  obtain ⟨x, y, rfl, h1⟩ := lb2_s hs
  obtain ⟨n, rfl, h2⟩ := natK_s h1
  obtain ⟨l, rfl, h3⟩ := natK_s h2
  obtain ⟨h4, ⟨h5, h6⟩, h7⟩ := chk_inv h3
  rw [Nat.blt_eq] at h4
  refine ⟨40, _, _, h7, rfl, fun _ _ h => h, ?_⟩
  show run62 l n _
  match l, h4 with
  | 0, _ => exact run56_0 h5 h6
  | 1, _ => exact run56_1 h5 h6
  | 2, _ => exact run56_2 h5 h6
  | 3, _ => exact run56_3 h5 h6
  | 4, _ => exact run56_4 h5 h6
  | 5, _ => exact run56_5 h5 h6
  | 6, _ => exact run56_6 h5 h6
  | l + 7, h => omega
def E37 : KEnv := EO0.tab [(62, s62)]
theorem ok37 : @KOk gO E37 := @KOk.tab gO EO0 okO0 _ ⟨kcs62, trivial⟩
def run37 (N : Nat) (v : KV) : Prop := @callR gO E37 (@krun gO E37 22) 0 37 [.int .i64 (.ofNat N)] .e 0 0 fun r _ _ _ => r = v
set_option maxRecDepth 100000 in
theorem run37_eq (N : Nat) (v : KV) : run37 N v = ((N ≤ 4294967296 ∧ C.no1 N 0) ∧ alt (!eqI (Int.ofNat (C.cnt N 0)) (Int.ofNat 1)) ((N ≤ 4294967296 ∧ C.no1 N (Nat.add 0 1)) ∧ alt (!eqI (Int.ofNat (C.cnt N 1)) (Int.ofNat 1)) ((N ≤ 4294967296 ∧ C.no1 N ((Nat.add 0 1).add 1)) ∧ alt (!eqI (Int.ofNat (C.cnt N 2)) (Int.ofNat 1)) ((N ≤ 4294967296 ∧ C.no1 N (((Nat.add 0 1).add 1).add 1)) ∧ alt (!eqI (Int.ofNat (C.cnt N 3)) (Int.ofNat 1)) ((N ≤ 4294967296 ∧ C.no1 N ((((Nat.add 0 1).add 1).add 1).add 1)) ∧ alt (!eqI (Int.ofNat (C.cnt N 4)) (Int.ofNat 1)) ((N ≤ 4294967296 ∧ C.no1 N (((((Nat.add 0 1).add 1).add 1).add 1).add 1)) ∧ alt (!eqI (Int.ofNat (C.cnt N 5)) (Int.ofNat 1)) ((N ≤ 4294967296 ∧ C.no1 N ((((((Nat.add 0 1).add 1).add 1).add 1).add 1).add 1)) ∧ alt (!eqI (Int.ofNat (C.cnt N 6)) (Int.ofNat 1)) (BadN (310 : Nat)) (cnd ((Nat.mul 2 N).blt 9223372036854775808) ((N ≤ 4294967296 ∧ C.no1 N 0) ∧ cnd ((Nat.mul 2 (C.cnt N 0)).blt 9223372036854775808) (cnd (((Nat.mul 2 N).add (Nat.mul 2 (C.cnt N 0))).blt 9223372036854775808) ((N ≤ 4294967296 ∧ C.no1 N (Nat.add 0 1)) ∧ cnd ((Nat.mul 2 (C.cnt N 1)).blt 9223372036854775808) (cnd ((((Nat.mul 2 N).add (Nat.mul 2 (C.cnt N 0))).add (Nat.mul 2 (C.cnt N 1))).blt 9223372036854775808) ((N ≤ 4294967296 ∧ C.no1 N ((Nat.add 0 1).add 1)) ∧ cnd ((Nat.mul 2 (C.cnt N 2)).blt 9223372036854775808) (cnd (((((Nat.mul 2 N).add (Nat.mul 2 (C.cnt N 0))).add (Nat.mul 2 (C.cnt N 1))).add (Nat.mul 2 (C.cnt N 2))).blt 9223372036854775808) ((N ≤ 4294967296 ∧ C.no1 N (((Nat.add 0 1).add 1).add 1)) ∧ cnd ((Nat.mul 2 (C.cnt N 3)).blt 9223372036854775808) (cnd ((((((Nat.mul 2 N).add (Nat.mul 2 (C.cnt N 0))).add (Nat.mul 2 (C.cnt N 1))).add (Nat.mul 2 (C.cnt N 2))).add (Nat.mul 2 (C.cnt N 3))).blt 9223372036854775808) ((N ≤ 4294967296 ∧ C.no1 N ((((Nat.add 0 1).add 1).add 1).add 1)) ∧ cnd ((Nat.mul 2 (C.cnt N 4)).blt 9223372036854775808) (cnd (((((((Nat.mul 2 N).add (Nat.mul 2 (C.cnt N 0))).add (Nat.mul 2 (C.cnt N 1))).add (Nat.mul 2 (C.cnt N 2))).add (Nat.mul 2 (C.cnt N 3))).add (Nat.mul 2 (C.cnt N 4))).blt 9223372036854775808) ((N ≤ 4294967296 ∧ C.no1 N (((((Nat.add 0 1).add 1).add 1).add 1).add 1)) ∧ cnd ((Nat.mul 2 (C.cnt N 5)).blt 9223372036854775808) (cnd ((((((((Nat.mul 2 N).add (Nat.mul 2 (C.cnt N 0))).add (Nat.mul 2 (C.cnt N 1))).add (Nat.mul 2 (C.cnt N 2))).add (Nat.mul 2 (C.cnt N 3))).add (Nat.mul 2 (C.cnt N 4))).add (Nat.mul 2 (C.cnt N 5))).blt 9223372036854775808) ((N ≤ 4294967296 ∧ C.no1 N ((((((Nat.add 0 1).add 1).add 1).add 1).add 1).add 1)) ∧ cnd ((Nat.mul 2 (C.cnt N 6)).blt 9223372036854775808) (cnd (((((((((Nat.mul 2 N).add (Nat.mul 2 (C.cnt N 0))).add (Nat.mul 2 (C.cnt N 1))).add (Nat.mul 2 (C.cnt N 2))).add (Nat.mul 2 (C.cnt N 3))).add (Nat.mul 2 (C.cnt N 4))).add (Nat.mul 2 (C.cnt N 5))).add (Nat.mul 2 (C.cnt N 6))).blt 9223372036854775808) (KV.int IntKind.i64 (Int.ofNat ((((((((Nat.mul 2 N).add (Nat.mul 2 (C.cnt N 0))).add (Nat.mul 2 (C.cnt N 1))).add (Nat.mul 2 (C.cnt N 2))).add (Nat.mul 2 (C.cnt N 3))).add (Nat.mul 2 (C.cnt N 4))).add (Nat.mul 2 (C.cnt N 5))).add (Nat.mul 2 (C.cnt N 6)))) = v))))))))))))))))) (cnd ((Nat.mul 2 N).blt 9223372036854775808) ((N ≤ 4294967296 ∧ C.no1 N 0) ∧ cnd ((Nat.mul 2 (C.cnt N 0)).blt 9223372036854775808) (cnd (((Nat.mul 2 N).add (Nat.mul 2 (C.cnt N 0))).blt 9223372036854775808) ((N ≤ 4294967296 ∧ C.no1 N (Nat.add 0 1)) ∧ cnd ((Nat.mul 2 (C.cnt N 1)).blt 9223372036854775808) (cnd ((((Nat.mul 2 N).add (Nat.mul 2 (C.cnt N 0))).add (Nat.mul 2 (C.cnt N 1))).blt 9223372036854775808) ((N ≤ 4294967296 ∧ C.no1 N ((Nat.add 0 1).add 1)) ∧ cnd ((Nat.mul 2 (C.cnt N 2)).blt 9223372036854775808) (cnd (((((Nat.mul 2 N).add (Nat.mul 2 (C.cnt N 0))).add (Nat.mul 2 (C.cnt N 1))).add (Nat.mul 2 (C.cnt N 2))).blt 9223372036854775808) ((N ≤ 4294967296 ∧ C.no1 N (((Nat.add 0 1).add 1).add 1)) ∧ cnd ((Nat.mul 2 (C.cnt N 3)).blt 9223372036854775808) (cnd ((((((Nat.mul 2 N).add (Nat.mul 2 (C.cnt N 0))).add (Nat.mul 2 (C.cnt N 1))).add (Nat.mul 2 (C.cnt N 2))).add (Nat.mul 2 (C.cnt N 3))).blt 9223372036854775808) ((N ≤ 4294967296 ∧ C.no1 N ((((Nat.add 0 1).add 1).add 1).add 1)) ∧ cnd ((Nat.mul 2 (C.cnt N 4)).blt 9223372036854775808) (cnd (((((((Nat.mul 2 N).add (Nat.mul 2 (C.cnt N 0))).add (Nat.mul 2 (C.cnt N 1))).add (Nat.mul 2 (C.cnt N 2))).add (Nat.mul 2 (C.cnt N 3))).add (Nat.mul 2 (C.cnt N 4))).blt 9223372036854775808) ((N ≤ 4294967296 ∧ C.no1 N (((((Nat.add 0 1).add 1).add 1).add 1).add 1)) ∧ cnd ((Nat.mul 2 (C.cnt N 5)).blt 9223372036854775808) (cnd ((((((((Nat.mul 2 N).add (Nat.mul 2 (C.cnt N 0))).add (Nat.mul 2 (C.cnt N 1))).add (Nat.mul 2 (C.cnt N 2))).add (Nat.mul 2 (C.cnt N 3))).add (Nat.mul 2 (C.cnt N 4))).add (Nat.mul 2 (C.cnt N 5))).blt 9223372036854775808) (KV.int IntKind.i64 (Int.ofNat (((((((Nat.mul 2 N).add (Nat.mul 2 (C.cnt N 0))).add (Nat.mul 2 (C.cnt N 1))).add (Nat.mul 2 (C.cnt N 2))).add (Nat.mul 2 (C.cnt N 3))).add (Nat.mul 2 (C.cnt N 4))).add (Nat.mul 2 (C.cnt N 5)))) = v))))))))))))))) (cnd ((Nat.mul 2 N).blt 9223372036854775808) ((N ≤ 4294967296 ∧ C.no1 N 0) ∧ cnd ((Nat.mul 2 (C.cnt N 0)).blt 9223372036854775808) (cnd (((Nat.mul 2 N).add (Nat.mul 2 (C.cnt N 0))).blt 9223372036854775808) ((N ≤ 4294967296 ∧ C.no1 N (Nat.add 0 1)) ∧ cnd ((Nat.mul 2 (C.cnt N 1)).blt 9223372036854775808) (cnd ((((Nat.mul 2 N).add (Nat.mul 2 (C.cnt N 0))).add (Nat.mul 2 (C.cnt N 1))).blt 9223372036854775808) ((N ≤ 4294967296 ∧ C.no1 N ((Nat.add 0 1).add 1)) ∧ cnd ((Nat.mul 2 (C.cnt N 2)).blt 9223372036854775808) (cnd (((((Nat.mul 2 N).add (Nat.mul 2 (C.cnt N 0))).add (Nat.mul 2 (C.cnt N 1))).add (Nat.mul 2 (C.cnt N 2))).blt 9223372036854775808) ((N ≤ 4294967296 ∧ C.no1 N (((Nat.add 0 1).add 1).add 1)) ∧ cnd ((Nat.mul 2 (C.cnt N 3)).blt 9223372036854775808) (cnd ((((((Nat.mul 2 N).add (Nat.mul 2 (C.cnt N 0))).add (Nat.mul 2 (C.cnt N 1))).add (Nat.mul 2 (C.cnt N 2))).add (Nat.mul 2 (C.cnt N 3))).blt 9223372036854775808) ((N ≤ 4294967296 ∧ C.no1 N ((((Nat.add 0 1).add 1).add 1).add 1)) ∧ cnd ((Nat.mul 2 (C.cnt N 4)).blt 9223372036854775808) (cnd (((((((Nat.mul 2 N).add (Nat.mul 2 (C.cnt N 0))).add (Nat.mul 2 (C.cnt N 1))).add (Nat.mul 2 (C.cnt N 2))).add (Nat.mul 2 (C.cnt N 3))).add (Nat.mul 2 (C.cnt N 4))).blt 9223372036854775808) (KV.int IntKind.i64 (Int.ofNat ((((((Nat.mul 2 N).add (Nat.mul 2 (C.cnt N 0))).add (Nat.mul 2 (C.cnt N 1))).add (Nat.mul 2 (C.cnt N 2))).add (Nat.mul 2 (C.cnt N 3))).add (Nat.mul 2 (C.cnt N 4)))) = v))))))))))))) (cnd ((Nat.mul 2 N).blt 9223372036854775808) ((N ≤ 4294967296 ∧ C.no1 N 0) ∧ cnd ((Nat.mul 2 (C.cnt N 0)).blt 9223372036854775808) (cnd (((Nat.mul 2 N).add (Nat.mul 2 (C.cnt N 0))).blt 9223372036854775808) ((N ≤ 4294967296 ∧ C.no1 N (Nat.add 0 1)) ∧ cnd ((Nat.mul 2 (C.cnt N 1)).blt 9223372036854775808) (cnd ((((Nat.mul 2 N).add (Nat.mul 2 (C.cnt N 0))).add (Nat.mul 2 (C.cnt N 1))).blt 9223372036854775808) ((N ≤ 4294967296 ∧ C.no1 N ((Nat.add 0 1).add 1)) ∧ cnd ((Nat.mul 2 (C.cnt N 2)).blt 9223372036854775808) (cnd (((((Nat.mul 2 N).add (Nat.mul 2 (C.cnt N 0))).add (Nat.mul 2 (C.cnt N 1))).add (Nat.mul 2 (C.cnt N 2))).blt 9223372036854775808) ((N ≤ 4294967296 ∧ C.no1 N (((Nat.add 0 1).add 1).add 1)) ∧ cnd ((Nat.mul 2 (C.cnt N 3)).blt 9223372036854775808) (cnd ((((((Nat.mul 2 N).add (Nat.mul 2 (C.cnt N 0))).add (Nat.mul 2 (C.cnt N 1))).add (Nat.mul 2 (C.cnt N 2))).add (Nat.mul 2 (C.cnt N 3))).blt 9223372036854775808) (KV.int IntKind.i64 (Int.ofNat (((((Nat.mul 2 N).add (Nat.mul 2 (C.cnt N 0))).add (Nat.mul 2 (C.cnt N 1))).add (Nat.mul 2 (C.cnt N 2))).add (Nat.mul 2 (C.cnt N 3)))) = v))))))))))) (cnd ((Nat.mul 2 N).blt 9223372036854775808) ((N ≤ 4294967296 ∧ C.no1 N 0) ∧ cnd ((Nat.mul 2 (C.cnt N 0)).blt 9223372036854775808) (cnd (((Nat.mul 2 N).add (Nat.mul 2 (C.cnt N 0))).blt 9223372036854775808) ((N ≤ 4294967296 ∧ C.no1 N (Nat.add 0 1)) ∧ cnd ((Nat.mul 2 (C.cnt N 1)).blt 9223372036854775808) (cnd ((((Nat.mul 2 N).add (Nat.mul 2 (C.cnt N 0))).add (Nat.mul 2 (C.cnt N 1))).blt 9223372036854775808) ((N ≤ 4294967296 ∧ C.no1 N ((Nat.add 0 1).add 1)) ∧ cnd ((Nat.mul 2 (C.cnt N 2)).blt 9223372036854775808) (cnd (((((Nat.mul 2 N).add (Nat.mul 2 (C.cnt N 0))).add (Nat.mul 2 (C.cnt N 1))).add (Nat.mul 2 (C.cnt N 2))).blt 9223372036854775808) (KV.int IntKind.i64 (Int.ofNat ((((Nat.mul 2 N).add (Nat.mul 2 (C.cnt N 0))).add (Nat.mul 2 (C.cnt N 1))).add (Nat.mul 2 (C.cnt N 2)))) = v))))))))) (cnd ((Nat.mul 2 N).blt 9223372036854775808) ((N ≤ 4294967296 ∧ C.no1 N 0) ∧ cnd ((Nat.mul 2 (C.cnt N 0)).blt 9223372036854775808) (cnd (((Nat.mul 2 N).add (Nat.mul 2 (C.cnt N 0))).blt 9223372036854775808) ((N ≤ 4294967296 ∧ C.no1 N (Nat.add 0 1)) ∧ cnd ((Nat.mul 2 (C.cnt N 1)).blt 9223372036854775808) (cnd ((((Nat.mul 2 N).add (Nat.mul 2 (C.cnt N 0))).add (Nat.mul 2 (C.cnt N 1))).blt 9223372036854775808) (KV.int IntKind.i64 (Int.ofNat (((Nat.mul 2 N).add (Nat.mul 2 (C.cnt N 0))).add (Nat.mul 2 (C.cnt N 1)))) = v))))))) (cnd ((Nat.mul 2 N).blt 9223372036854775808) ((N ≤ 4294967296 ∧ C.no1 N 0) ∧ cnd ((Nat.mul 2 (C.cnt N 0)).blt 9223372036854775808) (cnd (((Nat.mul 2 N).add (Nat.mul 2 (C.cnt N 0))).blt 9223372036854775808) (KV.int IntKind.i64 (Int.ofNat ((Nat.mul 2 N).add (Nat.mul 2 (C.cnt N 0)))) = v))))) := by kernel_rfl
theorem no1_s {n l : Nat} (h : C.no1 n l) (h1 : C.cnt n l ≠ 1) : C.no1 n (l + 1) := fun j hj => by
  rcases Nat.lt_or_ge j l with h2 | h2
  · exact h j h2
  · obtain rfl : j = l := by omega
    exact h1
theorem no1_0 (N : Nat) : C.no1 N 0 := fun j hj => by omega
section
attribute [local irreducible] C.no1
set_option maxRecDepth 100000 in
theorem run37_g {N : Nat} (h1 : 1 ≤ N) (h2 : N ≤ 4096) : run37 N (.int .i64 (.ofNat (C.sec N))) := by
  rw [run37_eq]
  have hN : N ≤ 4294967296 := by omega
  have z0 : C.no1 N 0 := no1_0 N
  have z1 := fun h : ¬ C.cnt N 0 = 1 => no1_s z0 h
  have z2 := fun (g : ¬ C.cnt N 0 = 1) (h : ¬ C.cnt N 1 = 1) => no1_s (z1 g) h
  have z3 := fun (g : ¬ C.cnt N 0 = 1) (h : ¬ C.cnt N 1 = 1) (i : ¬ C.cnt N 2 = 1) => no1_s (z2 g h) i
  have z4 := fun (g : ¬ C.cnt N 0 = 1) (h : ¬ C.cnt N 1 = 1) (i : ¬ C.cnt N 2 = 1) (j : ¬ C.cnt N 3 = 1) => no1_s (z3 g h i) j
  have z5 := fun (g : ¬ C.cnt N 0 = 1) (h : ¬ C.cnt N 1 = 1) (i : ¬ C.cnt N 2 = 1) (j : ¬ C.cnt N 3 = 1) (k : ¬ C.cnt N 4 = 1) => no1_s (z4 g h i j) k
  have hs : C.sec N = 2 * N + C.sl 5 (C.cnt N 0) := rfl
  have a1 : 4 * C.cnt N 0 ≤ N + 3 ∧ N ≤ 4 * C.cnt N 0 := ab_s N
  have a2 : 4 * C.cnt N 1 ≤ C.cnt N 0 + 3 ∧ C.cnt N 0 ≤ 4 * C.cnt N 1 := ab_s _
  have a3 : 4 * C.cnt N 2 ≤ C.cnt N 1 + 3 ∧ C.cnt N 1 ≤ 4 * C.cnt N 2 := ab_s _
  have a4 : 4 * C.cnt N 3 ≤ C.cnt N 2 + 3 ∧ C.cnt N 2 ≤ 4 * C.cnt N 3 := ab_s _
  have a5 : 4 * C.cnt N 4 ≤ C.cnt N 3 + 3 ∧ C.cnt N 3 ≤ 4 * C.cnt N 4 := ab_s _
  have a6 : 4 * C.cnt N 5 ≤ C.cnt N 4 + 3 ∧ C.cnt N 4 ≤ 4 * C.cnt N 5 := ab_s _
  have p1 := sl_1' 4 (C.cnt N 0)
  have q1 : ¬ C.cnt N 0 = 1 → C.sl 5 (C.cnt N 0) = 2 * C.cnt N 0 + C.sl 4 (C.cnt N 1) := sl_n' 4 (C.cnt N 0)
  have p2 := sl_1' 3 (C.cnt N 1)
  have q2 : ¬ C.cnt N 1 = 1 → C.sl 4 (C.cnt N 1) = 2 * C.cnt N 1 + C.sl 3 (C.cnt N 2) := sl_n' 3 (C.cnt N 1)
  have p3 := sl_1' 2 (C.cnt N 2)
  have q3 : ¬ C.cnt N 2 = 1 → C.sl 3 (C.cnt N 2) = 2 * C.cnt N 2 + C.sl 2 (C.cnt N 3) := sl_n' 2 (C.cnt N 2)
  have p4 := sl_1' 1 (C.cnt N 3)
  have q4 : ¬ C.cnt N 3 = 1 → C.sl 2 (C.cnt N 3) = 2 * C.cnt N 3 + C.sl 1 (C.cnt N 4) := sl_n' 1 (C.cnt N 3)
  have p5 := sl_1' 0 (C.cnt N 4)
  have q5 : ¬ C.cnt N 4 = 1 → C.sl 1 (C.cnt N 4) = 2 * C.cnt N 4 + C.sl 0 (C.cnt N 5) := sl_n' 0 (C.cnt N 4)
  have p6 := sl_0 (C.cnt N 5)
  generalize C.sec N = sN at *
  simp only [alt_iff, cnd_iff, eqI_nat, ltI_nat, beqT, beqF, bltT, bltF, notT, notF, Nat.add_eq, Nat.mul_eq, Nat.zero_add, Nat.reduceAdd]
  generalize C.cnt N 0 = c1 at *
  generalize C.cnt N 1 = c2 at *
  generalize C.cnt N 2 = c3 at *
  generalize C.cnt N 3 = c4 at *
  generalize C.cnt N 4 = c5 at *
  generalize C.cnt N 5 = c6 at *
  generalize C.sl 5 c1 = s1 at *
  generalize C.sl 4 c2 = s2 at *
  generalize C.sl 3 c3 = s3 at *
  generalize C.sl 2 c4 = s34 at *
  generalize C.sl 1 c5 = s5 at *
  generalize C.sl 0 c6 = s6 at *
  repeat' first | apply And.intro | intro _
  all_goals first | trivial | omega | (exfalso; omega) | assumption | (exact z1 (by assumption)) | (exact z2 (by assumption) (by assumption)) | (exact z3 (by assumption) (by assumption) (by assumption)) | (exact z4 (by assumption) (by assumption) (by assumption) (by assumption)) | (exact z5 (by assumption) (by assumption) (by assumption) (by assumption) (by assumption)) | (apply int_eq; omega)
end
def s37 : KSpec := fun l K => la1 l fun x => natK x fun n => (1 ≤ n ∧ n ≤ 4096) ∧ K (.int .i64 (.ofNat (C.sec n)))
theorem P37 : ∃ fn, Tryz.prog.funcs[37]? = some fn ∧ (fn.name == "runtime.NumGoroutine") = false ∧ fn.body.isNone = false := ⟨Tryz.f37, Tryz.func37, (fnsL.get Tryz.func37).1, by kernel_rfl⟩
theorem kcs37 : @KCS gO Tryz.prog 37 s37 := by
  refine @kcsQ gO E37 ok37 37 s37 P37 fun l K hs => ?_
  obtain ⟨x, rfl, h1⟩ := la1_s hs
  obtain ⟨n, rfl, h2, h3⟩ := natK_s h1
  exact ⟨22, _, _, h3, rfl, fun _ _ h => h, run37_g h2.1 h2.2⟩
end
end Go.K
