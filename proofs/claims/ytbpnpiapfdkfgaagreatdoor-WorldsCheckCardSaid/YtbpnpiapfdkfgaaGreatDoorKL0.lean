/- The program of the seat in the run: what stands fast. No condition. Contracts over open numbers: the shape of a number of blocks. No condition. Contracts over open numbers: the height of a number of blocks. No condition. -/
import Derived.Test.YtbpnpiapfdkfgaaGreatDoorK19
import Derived.Test.YtbpnpiapfdkfgaaGreatDoorProg
set_option linter.unusedVariables false
namespace Go.K
open Go.Ab Go.RowKit Go.Y Go.Proofs
noncomputable section
def gSizes : KV := .pk .i64 2 608742554432415203373
def gInit : KV := .pk .u32 8 41557658498906279274860226408925318911382702236748615442085426012007055353447
def gConst : KV := .pk .u32 64 25051139735836467913601071899189108501681633092613316132753366958947502841281110980347811086624969305314199562795868290539880502533646505489797110349007385020507326982043050618112420254613810441709594605123090411975756494285771699200369901479195251226368983824020564277645963860728452821576845901498668417244438721537663670541944820957180957595559282976806173113161068298822071065329290006052849814285001949914564097058408480133985233335799884203712730341384999677089997083749077591931498939520449886954646413138343858395935213418018409268340744776361518554939863400075967197509182087778881547827184266701615699472280
noncomputable instance kgL : KGl := { g := fun g => @Nat.rec (fun _ => KV) (.ref true (.arr 2 .sc) gSizes) (fun g _ => @Nat.rec (fun _ => KV) (.ref true (.arr 8 .sc) gInit) (fun g _ => @Nat.rec (fun _ => KV) (.ref true (.arr 64 .sc) gConst) (fun _ _ => .unk) g) g) g, cl := true }
noncomputable def maskL : List Nat := [0, 0, 0, 7, 36028801313935423, 9671415780289207691378695, 356811923176652229541400705725765499544936319, 4157, 71, 141, 1, 75557863725914459803639, 759, 67541, 566684554537051124402941, 93, 1037, 285, 263283, 2061, 95, 247027, 5, 247027, 7, 8432381, 1527, 17179871487, 174224571864788144422381074488099730852349, 66483, 31, 7, 35184506430461, 2305843074711960669, 23058430092137494781, 713634057150146702511451489451902513120249837, 85070592047147417038629157748206716669, 18014399516180533, 8854437155380584775891, 499, 13283, 13194139594851, 1081127793485415075, 5091, 11, 11, 5, 5, 247027, 5, 247027, 7, 247027, 7, 247027, 7, 21, 247027, 7, 247027, 7, 247027, 7, 7, 5, 247027, 247027, 7, 247027, 7, 5, 261, 65597, 5, 19, 7, 19, 19, 1080109031, 8317, 4157, 2684358415, 7, 19, 525, 4326095, 264183, 16908431, 5, 5, 39, 67543, 15, 287, 67543, 15, 287, 1, 525, 19, 11, 8606713467, 4223, 19329976255, 144150372992811199, 1048583, 2251838468662267, 19, 1053, 19, 7, 19, 51, 7, 33556287, 33015, 3, 19, 11, 247027, 5, 5, 66483, 66483, 123315, 31, 125845229, 4159, 245943, 8796093022459, 137506063859, 8247, 3871, 21, 1048827, 255, 32775, 32775, 3699, 7, 66483, 31, 31, 23, 17592219664399, 59, 525255, 66483, 66483, 66483, 524353, 5, 4109, 1, 34359747191, 115187, 117456959, 1965, 4194679, 1011, 21, 70368744435647, 5, 66483, 15, 17389, 604275, 1075, 15, 87, 0, 5, 1901475900342344102245055741951, 77, 117457395, 115, 16371, 16885, 63, 31, 309486190419721203025453565, 15, 15, 179, 5, 66483, 536872959, 19, 61, 1099511760637, 2147516925, 19, 7881587, 4339, 8541, 51, 51, 13, 0, 0, 0, 0, 0, 0, 0, 0, 0, 0, 0, 0, 0, 0, 0, 0, 0, 0, 0, 0, 0, 0, 0, 0, 0, 0]
noncomputable def mdL : List Nat := [0, 0, 0, 1, 1, 1, 1, 1, 3, 1, 1, 0, 1, 1, 1, 0, 1, 0, 1, 1, 1, 0, 3, 0, 0, 0, 1, 0, 2, 0, 3, 1, 1, 1, 1, 1, 1, 1, 2, 3, 2, 2, 2, 2, 2, 2, 2, 3, 0, 1, 0, 1, 0, 1, 0, 3, 0, 0, 3, 0, 3, 0, 1, 3, 0, 0, 0, 1, 0, 1, 0, 1, 0, 3, 0, 3, 0, 1, 0, 1, 1, 1, 1, 1, 0, 0, 1, 1, 1, 0, 3, 0, 3, 0, 0, 3, 0, 1, 0, 0, 3, 1, 1, 1, 1, 1, 1, 1, 1, 0, 3, 1, 2, 1, 0, 0, 2, 2, 2, 0, 1, 1, 0, 0, 1, 0, 0, 1, 1, 0, 0, 0, 0, 0, 0, 1, 1, 1, 0, 0, 0, 0, 1, 1, 1, 1, 1, 1, 0, 1, 2, 0, 2, 1, 1, 0, 1, 1, 3, 1, 2, 1, 0, 0, 3, 1, 1, 0, 3, 1, 0, 0, 1, 1, 0, 1, 1, 0, 3, 3, 1, 3, 3, 1, 1, 0, 1, 1, 1, 1, 1, 1, 1, 0, 1, 1, 2, 1, 1, 0, 1, 0, 1, 0, 1, 0, 1, 0, 1, 0, 1, 1, 0, 1, 2, 1, 1, 0, 0, 0, 0, 0, 0, 0]
def exL : FuncId → Bool := fun f => Nat.beq f 170
theorem exL_s : ∀ f, exL f = true → NoEsc Tryz.prog f := fun f h => by
  rw [Nat.eq_of_beq_eq_true h]
  exact ⟨Tryz.f170, Tryz.func170, by kernel_rfl, by kernel_rfl, by kernel_rfl, by kernel_rfl⟩
noncomputable def E0 : KEnv := { P := Tryz.prog, ct := fun _ => none, md := fun f => mdL.getD f 0, km := fun f => maskL.getD f 0, ex := exL }
theorem fnsL : FnsOk Tryz.prog := by
  unfold FnsOk
  decide +kernel
theorem mixL : Tryz.prog.follows .mixedOrders = true := by decide +kernel
theorem gnL (g : Nat) : noId (Gl.G g) = true := by
  match g with
  | 0 => rfl
  | 1 => rfl
  | 2 => rfl
  | _ + 3 => rfl
theorem ok0 : KOk E0 where
  fns := fnsL
  ct := fun _ _ h => (by cases h)
  gn := gnL
  mixed := mixL
  ex := exL_s
end
end Go.K
set_option linter.unusedVariables false
set_option linter.unusedSimpArgs false
namespace Go.K
open Go.Ab Go.RowKit Go.Y Go.Proofs
noncomputable section
/-- A number that is handed on. -/
def natK (x : KV) (f : Nat → Prop) : Prop := onInt (fun k a => chk (ikEq k .i64) 300 (@Int.rec (fun _ => Prop) (fun n => f n) (fun _ => BadN 301) a)) (BadN 302) x
theorem natK_s {x : KV} {f : Nat → Prop} (h : natK x f) : ∃ n, x = .int .i64 (.ofNat n) ∧ f n := by
  rcases onInt_inv h with ⟨k, a, rfl, h1⟩ | ⟨_, h1⟩
  · obtain ⟨h2, h3⟩ := chk_inv h1
    obtain rfl := ikEq_eq h2
    cases a with
    | ofNat n => exact ⟨n, rfl, h3⟩
    | negSucc n => exact (show BadN 301 from h3).elim
  · exact h1.elim
/-- The count of the level above. -/
def C.ab (n : Nat) : Nat := (n + 3) / 4
def nI (n : Nat) : KV := .int .i64 (.ofNat n)
@[reducible] def gO : KGl := opnG kgL
def EO0 : KEnv := { P := Tryz.prog, ct := fun _ => none, md := fun f => mdL.getD f 0, km := fun f => maskL.getD f 0 }
theorem okO0 : @KOk gO EO0 := @KOk.mk gO EO0 fnsL (fun _ _ h => (by cases h)) gnL mixL (fun _ h => (by cases h))
def s121 : KSpec := fun l K => la1 l fun x => natK x fun n => n ≤ 4294967296 ∧ K (.int .i64 (.ofNat (C.ab n)))
def run121 (N : Nat) (v : KV) : Prop := @callR gO EO0 (@krun gO EO0 100) 0 121 [.int .i64 (.ofNat N)] .e 0 0 fun r _ _ _ => r = v
theorem run121_eq (N : Nat) (v : KV) : run121 N v = cnd ((N.add (nat_lit 4)).blt (nat_lit 9223372036854775808)) (cnd (((N.add (nat_lit 4)).sub (nat_lit 1)).blt (nat_lit 9223372036854775808)) (cnd ((((N.add (nat_lit 4)).sub (nat_lit 1)).div (nat_lit 4)).blt (nat_lit 9223372036854775808)) (KV.int IntKind.i64 (Int.ofNat (((N.add (nat_lit 4)).sub (nat_lit 1)).div (nat_lit 4))) = v))) := by kernel_rfl
theorem P121 : ∃ fn, Tryz.prog.funcs[121]? = some fn ∧ (fn.name == "runtime.NumGoroutine") = false ∧ fn.body.isNone = false := ⟨Tryz.f121, Tryz.func121, (fnsL.get Tryz.func121).1, by kernel_rfl⟩
theorem kcs121 : @KCS gO Tryz.prog 121 s121 := by
  refine @kcsQ gO EO0 okO0 121 s121 P121 fun l K hs => ?_
  obtain ⟨x, rfl, h1⟩ := la1_s hs
  obtain ⟨n, rfl, h2, h3⟩ := natK_s h1
  refine ⟨100, _, _, h3, rfl, fun _ _ h => h, ?_⟩
  show run121 n (.int .i64 (.ofNat (C.ab n)))
  rw [run121_eq]
  simp only [cnd_iff, Nat.blt_eq]
  refine ⟨by show n + 4 < _; omega, by show n + 4 - 1 < _; omega, by show (n + 4 - 1) / 4 < _; omega, ?_⟩
  show KV.int .i64 (Int.ofNat ((n + 4 - 1) / 4)) = KV.int .i64 (Int.ofNat ((n + 3) / 4))
  rw [show n + 4 - 1 = n + 3 by omega]
def ctO1 : FuncId → Option KSpec := fun f => @Bool.rec (fun _ => Option KSpec) none (some s121) (Nat.beq f 121)
theorem ctO1_s (f : FuncId) (s : KSpec) (h : ctO1 f = some s) : @KCS gO Tryz.prog f s := by
  unfold ctO1 at h
  cases h1 : Nat.beq f 121 with
  | true => rw [h1] at h; cases h; rw [beqE h1]; exact kcs121
  | false => rw [h1] at h; cases h
def EO1 : KEnv := { EO0 with ct := ctO1 }
theorem okO1 : @KOk gO EO1 := @KOk.mk gO EO1 fnsL ctO1_s gnL mixL (fun _ h => (by cases h))
def C.cnt (n : Nat) : Nat → Nat
  | 0 => C.ab n
  | l + 1 => C.ab (C.cnt n l)
def C.no1 (n l : Nat) : Prop := ∀ j, j < l → C.cnt n j ≠ 1
theorem imp_refl (v : V) : Imp v v := fun _ _ h => h
end
end Go.K
set_option linter.unusedVariables false
set_option linter.unusedSimpArgs false
namespace Go.K
open Go.Ab Go.RowKit Go.Y Go.Proofs
noncomputable section
attribute [local irreducible] krun callR
theorem eqI_nat (a b : Nat) : eqI (Int.ofNat a) (Int.ofNat b) = Nat.beq a b := rfl
theorem ltI_nat (a b : Nat) : ltI (Int.ofNat a) (Int.ofNat b) = Nat.blt a b := rfl
theorem beqT (a b : Nat) : (Nat.beq a b = true) ↔ a = b := by rw [Nat.beq_eq]
theorem beqF (a b : Nat) : (Nat.beq a b = false) ↔ ¬ a = b := by rw [← Bool.not_eq_true, Nat.beq_eq]
theorem bltT (a b : Nat) : (Nat.blt a b = true) ↔ a < b := by rw [Nat.blt_eq]
theorem bltF (a b : Nat) : (Nat.blt a b = false) ↔ ¬ a < b := by rw [← Bool.not_eq_true, Nat.blt_eq]
theorem notT (b : Bool) : ((!b) = true) ↔ b = false := by cases b <;> simp
theorem notF (b : Bool) : ((!b) = false) ↔ b = true := by cases b <;> simp
theorem ltI_neg (a b : Nat) : ltI (Int.negSucc a) (Int.ofNat b) = true := by
  rfl
theorem ab_s (n : Nat) : 4 * C.ab n ≤ n + 3 ∧ n ≤ 4 * C.ab n := by unfold C.ab; omega
/-- The level of the root. -/
def C.hg : Nat → Nat → Nat
  | 0, _ => 0
  | f + 1, c => if c = 1 then 0 else 1 + C.hg f (C.ab c)
def C.hgt (n : Nat) : Nat := C.hg 5 (C.ab n)
theorem hg_0 (c : Nat) : C.hg 0 c = 0 := rfl
theorem hg_1 (f c : Nat) : c = 1 → C.hg (f + 1) c = 0 := fun h => by show (if c = 1 then 0 else _) = _; rw [if_pos h]
theorem hg_n (f c : Nat) : ¬ c = 1 → C.hg (f + 1) c = 1 + C.hg f (C.ab c) := fun h => by show (if c = 1 then 0 else _) = _; rw [if_neg h]
theorem hg_le : ∀ f c, C.hg f c ≤ f
  | 0, _ => Nat.le_refl _
  | f + 1, c => by
    have := hg_le f (C.ab c)
    by_cases h : c = 1
    · rw [hg_1 f c h]; omega
    · rw [hg_n f c h]; omega
theorem hgt_le (n : Nat) : C.hgt n ≤ 5 := hg_le 5 _
theorem tup2_eq {a b : Nat} (h : a = b) (e : KV) : (KV.tup (.cons (.int .i64 (.ofNat a)) (.cons e .nl))) = .tup (.cons (.int .i64 (.ofNat b)) (.cons e .nl)) := by rw [h]
theorem int_eq {a b : Nat} (h : a = b) : KV.int .i64 (.ofNat a) = .int .i64 (.ofNat b) := by rw [h]
def run7 (N : Nat) (v : KV) : Prop := @callR gO EO1 (@krun gO EO1 28) 0 7 [.int .i64 (.ofNat N)] .e 0 0 fun r _ _ _ => r = v
def run7m (N : Nat) (v : KV) : Prop := @callR gO EO1 (@krun gO EO1 28) 0 7 [.int .i64 (.negSucc N)] .e 0 0 fun r _ _ _ => r = v
theorem run7_eq (N : Nat) (v : KV) : run7 N v = (alt (ltI (Int.ofNat N) (Int.ofNat 1)) (((KV.int IntKind.i64 (Int.ofNat 0)).cons ((KV.int IntKind.i64 (Int.ofNat 1)).cons KV.nl)).tup = v) (alt (ltI (Int.ofNat 4096) (Int.ofNat N)) (((KV.int IntKind.i64 (Int.ofNat 0)).cons ((KV.int IntKind.i64 (Int.ofNat 1)).cons KV.nl)).tup = v) (N ≤ 4294967296 ∧ alt (eqI (Int.ofNat (C.ab N)) (Int.ofNat 1)) (((KV.int IntKind.i64 (Int.ofNat 0)).cons ((KV.int IntKind.i64 (Int.ofNat 0)).cons KV.nl)).tup = v) (C.ab N ≤ 4294967296 ∧ alt (eqI (Int.ofNat (C.ab (C.ab N))) (Int.ofNat 1)) (((KV.int IntKind.i64 (Int.ofNat 1)).cons ((KV.int IntKind.i64 (Int.ofNat 0)).cons KV.nl)).tup = v) (C.ab (C.ab N) ≤ 4294967296 ∧ alt (eqI (Int.ofNat (C.ab (C.ab (C.ab N)))) (Int.ofNat 1)) (((KV.int IntKind.i64 (Int.ofNat 2)).cons ((KV.int IntKind.i64 (Int.ofNat 0)).cons KV.nl)).tup = v) (C.ab (C.ab (C.ab N)) ≤ 4294967296 ∧ alt (eqI (Int.ofNat (C.ab (C.ab (C.ab (C.ab N))))) (Int.ofNat 1)) (((KV.int IntKind.i64 (Int.ofNat 3)).cons ((KV.int IntKind.i64 (Int.ofNat 0)).cons KV.nl)).tup = v) (C.ab (C.ab (C.ab (C.ab N))) ≤ 4294967296 ∧ alt (eqI (Int.ofNat (C.ab (C.ab (C.ab (C.ab (C.ab N)))))) (Int.ofNat 1)) (((KV.int IntKind.i64 (Int.ofNat 4)).cons ((KV.int IntKind.i64 (Int.ofNat 0)).cons KV.nl)).tup = v) (C.ab (C.ab (C.ab (C.ab (C.ab N)))) ≤ 4294967296 ∧ alt (eqI (Int.ofNat (C.ab (C.ab (C.ab (C.ab (C.ab (C.ab N))))))) (Int.ofNat 1)) (((KV.int IntKind.i64 (Int.ofNat 5)).cons ((KV.int IntKind.i64 (Int.ofNat 0)).cons KV.nl)).tup = v) (C.ab (C.ab (C.ab (C.ab (C.ab (C.ab N))))) ≤ 4294967296 ∧ alt (eqI (Int.ofNat (C.ab (C.ab (C.ab (C.ab (C.ab (C.ab (C.ab N)))))))) (Int.ofNat 1)) (((KV.int IntKind.i64 (Int.ofNat 6)).cons ((KV.int IntKind.i64 (Int.ofNat 0)).cons KV.nl)).tup = v) (C.ab (C.ab (C.ab (C.ab (C.ab (C.ab (C.ab N)))))) ≤ 4294967296 ∧ alt (eqI (Int.ofNat (C.ab (C.ab (C.ab (C.ab (C.ab (C.ab (C.ab (C.ab N))))))))) (Int.ofNat 1)) (((KV.int IntKind.i64 (Int.ofNat 7)).cons ((KV.int IntKind.i64 (Int.ofNat 0)).cons KV.nl)).tup = v) (C.ab (C.ab (C.ab (C.ab (C.ab (C.ab (C.ab (C.ab N))))))) ≤ 4294967296 ∧ alt (eqI (Int.ofNat (C.ab (C.ab (C.ab (C.ab (C.ab (C.ab (C.ab (C.ab (C.ab N)))))))))) (Int.ofNat 1)) (((KV.int IntKind.i64 (Int.ofNat 8)).cons ((KV.int IntKind.i64 (Int.ofNat 0)).cons KV.nl)).tup = v) (C.ab (C.ab (C.ab (C.ab (C.ab (C.ab (C.ab (C.ab (C.ab N)))))))) ≤ 4294967296 ∧ alt (eqI (Int.ofNat (C.ab (C.ab (C.ab (C.ab (C.ab (C.ab (C.ab (C.ab (C.ab (C.ab N))))))))))) (Int.ofNat 1)) (BadN (15 : Nat)) (C.ab (C.ab (C.ab (C.ab (C.ab (C.ab (C.ab (C.ab (C.ab (C.ab N))))))))) ≤ 4294967296 ∧ alt (eqI (Int.ofNat (C.ab (C.ab (C.ab (C.ab (C.ab (C.ab (C.ab (C.ab (C.ab (C.ab (C.ab N)))))))))))) (Int.ofNat 1)) (BadN (15 : Nat)) (BadN (15 : Nat))))))))))))))) := by kernel_rfl
theorem run7m_eq (N : Nat) (v : KV) : run7m N v = (((KV.int IntKind.i64 (Int.ofNat 0)).cons ((KV.int IntKind.i64 (Int.ofNat 1)).cons KV.nl)).tup = v) := by kernel_rfl
set_option maxRecDepth 100000 in
theorem run7_g {N : Nat} (h1 : 1 ≤ N) (h2 : N ≤ 4096) : run7 N (.tup (.cons (.int .i64 (.ofNat (C.hgt N))) (.cons (.int .i64 (.ofNat 0)) .nl))) := by
  rw [run7_eq]
  have hs : C.hgt N = C.hg 5 (C.ab N) := rfl
  have a1 := ab_s N
  have p1 := hg_1 4 (C.ab N)
  have q1 := hg_n 4 (C.ab N)
  generalize C.ab N = c1 at *
  have a2 := ab_s c1
  have p2 := hg_1 3 (C.ab c1)
  have q2 := hg_n 3 (C.ab c1)
  generalize C.ab c1 = c2 at *
  have a3 := ab_s c2
  have p3 := hg_1 2 (C.ab c2)
  have q3 := hg_n 2 (C.ab c2)
  generalize C.ab c2 = c3 at *
  have a4 := ab_s c3
  have p4 := hg_1 1 (C.ab c3)
  have q4 := hg_n 1 (C.ab c3)
  generalize C.ab c3 = c4 at *
  have a5 := ab_s c4
  have p5 := hg_1 0 (C.ab c4)
  have q5 := hg_n 0 (C.ab c4)
  generalize C.ab c4 = c5 at *
  have a6 := ab_s c5
  have p6 := hg_0 (C.ab c5)
  generalize C.ab c5 = c6 at *
  generalize C.hgt N = sN at *
  simp only [Nat.zero_add] at p1 q1 p2 q2 p3 q3 p4 q4 p5 q5
  generalize C.hg 5 c1 = s1 at *
  generalize C.hg 4 c2 = s2 at *
  generalize C.hg 3 c3 = s3 at *
  generalize C.hg 2 c4 = s4 at *
  generalize C.hg 1 c5 = s5 at *
  generalize C.hg 0 c6 = s6 at *
  simp only [alt_iff, cnd_iff, eqI_nat, ltI_nat, beqT, beqF, bltT, bltF, notT, notF, Nat.add_eq, Nat.mul_eq]
  repeat' first | apply And.intro | intro _
  all_goals first | trivial | omega | (exfalso; omega) | (apply tup2_eq; omega)
theorem run7_b {N : Nat} (h1 : N < 1 ∨ 4096 < N) : run7 N (.tup (.cons (.int .i64 (.ofNat 0)) (.cons (.int .i64 (.ofNat 1)) .nl))) := by
  rw [run7_eq]
  refine alt_iff.2 ⟨fun _ => rfl, fun h3 => alt_iff.2 ⟨fun _ => rfl, fun h4 => ?_⟩⟩
  rw [ltI_nat, bltF] at h3 h4
  omega
theorem run7_m (N : Nat) : run7m N (.tup (.cons (.int .i64 (.ofNat 0)) (.cons (.int .i64 (.ofNat 1)) .nl))) := by
  rw [run7m_eq]
theorem P7 : ∃ fn, Tryz.prog.funcs[7]? = some fn ∧ (fn.name == "runtime.NumGoroutine") = false ∧ fn.body.isNone = false := ⟨Tryz.f7, Tryz.func7, (fnsL.get Tryz.func7).1, by kernel_rfl⟩
def s7b : KSpec := fun l K => la1 l fun x => onInt (fun kk z => chk (ikEq kk .i64) 311 ((z < 1 ∨ 4096 < z) ∧ K (.tup (.cons (.int .i64 (.ofNat 0)) (.cons (.int .i64 (.ofNat 1)) .nl))))) (BadN 312) x
def s7g : KSpec := fun l K => la1 l fun x => natK x fun n => (1 ≤ n ∧ n ≤ 4096) ∧ K (.tup (.cons (.int .i64 (.ofNat (C.hgt n))) (.cons (.int .i64 (.ofNat 0)) .nl)))
theorem kcs7b : @KCS gO Tryz.prog 7 s7b := by
  refine @kcsQ gO EO1 okO1 7 s7b P7 fun l K hs => ?_
  obtain ⟨x, rfl, h1⟩ := la1_s hs
  rcases onInt_inv h1 with ⟨kk, z, rfl, h2⟩ | ⟨_, h2⟩
  · obtain ⟨h3, h4, h5⟩ := chk_inv h2
    obtain rfl := ikEq_eq h3
    refine ⟨28, _, _, h5, rfl, fun _ _ h => h, ?_⟩
    cases z with
    | ofNat n => exact run7_b (by have : Int.ofNat n = (n : Int) := rfl; omega)
    | negSucc n => exact run7_m n
  · exact h2.elim
theorem kcs7g : @KCS gO Tryz.prog 7 s7g := by
  refine @kcsQ gO EO1 okO1 7 s7g P7 fun l K hs => ?_
  obtain ⟨x, rfl, h1⟩ := la1_s hs
  obtain ⟨n, rfl, h2, h3⟩ := natK_s h1
  exact ⟨28, _, _, h3, rfl, fun _ _ h => h, run7_g h2.1 h2.2⟩
/-! ### The definition's -/
theorem div_e (a b : Nat) : Nat.div a b = a / b := rfl
def run18 (l N : Nat) (v : KV) : Prop := @callR gO EO0 (@krun gO EO0 40) 0 18 [.int .i64 (.ofNat N), .int .i64 (.ofNat l)] .e 0 0 fun r _ _ _ => r = v
theorem run18_0_eq (N : Nat) (v : KV) : run18 0 N v = (cnd ((N.add 3).blt 9223372036854775808) (cnd (((N.add 3).div 4).blt 9223372036854775808) (KV.int IntKind.i64 (Int.ofNat ((N.add 3).div 4)) = v))) := by kernel_rfl
theorem run18_1_eq (N : Nat) (v : KV) : run18 1 N v = (cnd ((N.add 3).blt 9223372036854775808) (cnd (((N.add 3).div 4).blt 9223372036854775808) (alt (eqI (Int.ofNat ((N.add 3).div 4)) (Int.ofNat 1)) (KV.int IntKind.i64 (Int.ofNat 0) = v) (cnd ((((N.add 3).div 4).add 3).blt 9223372036854775808) (cnd (((((N.add 3).div 4).add 3).div 4).blt 9223372036854775808) (KV.int IntKind.i64 (Int.ofNat ((((N.add 3).div 4).add 3).div 4)) = v)))))) := by kernel_rfl
theorem run18_2_eq (N : Nat) (v : KV) : run18 2 N v = (cnd ((N.add 3).blt 9223372036854775808) (cnd (((N.add 3).div 4).blt 9223372036854775808) (alt (eqI (Int.ofNat ((N.add 3).div 4)) (Int.ofNat 1)) (KV.int IntKind.i64 (Int.ofNat 0) = v) (cnd ((((N.add 3).div 4).add 3).blt 9223372036854775808) (cnd (((((N.add 3).div 4).add 3).div 4).blt 9223372036854775808) (alt (eqI (Int.ofNat ((((N.add 3).div 4).add 3).div 4)) (Int.ofNat 1)) (KV.int IntKind.i64 (Int.ofNat 0) = v) (cnd ((((((N.add 3).div 4).add 3).div 4).add 3).blt 9223372036854775808) (cnd (((((((N.add 3).div 4).add 3).div 4).add 3).div 4).blt 9223372036854775808) (KV.int IntKind.i64 (Int.ofNat ((((((N.add 3).div 4).add 3).div 4).add 3).div 4)) = v))))))))) := by kernel_rfl
theorem run18_3_eq (N : Nat) (v : KV) : run18 3 N v = (cnd ((N.add 3).blt 9223372036854775808) (cnd (((N.add 3).div 4).blt 9223372036854775808) (alt (eqI (Int.ofNat ((N.add 3).div 4)) (Int.ofNat 1)) (KV.int IntKind.i64 (Int.ofNat 0) = v) (cnd ((((N.add 3).div 4).add 3).blt 9223372036854775808) (cnd (((((N.add 3).div 4).add 3).div 4).blt 9223372036854775808) (alt (eqI (Int.ofNat ((((N.add 3).div 4).add 3).div 4)) (Int.ofNat 1)) (KV.int IntKind.i64 (Int.ofNat 0) = v) (cnd ((((((N.add 3).div 4).add 3).div 4).add 3).blt 9223372036854775808) (cnd (((((((N.add 3).div 4).add 3).div 4).add 3).div 4).blt 9223372036854775808) (alt (eqI (Int.ofNat ((((((N.add 3).div 4).add 3).div 4).add 3).div 4)) (Int.ofNat 1)) (KV.int IntKind.i64 (Int.ofNat 0) = v) (cnd ((((((((N.add 3).div 4).add 3).div 4).add 3).div 4).add 3).blt 9223372036854775808) (cnd (((((((((N.add 3).div 4).add 3).div 4).add 3).div 4).add 3).div 4).blt 9223372036854775808) (KV.int IntKind.i64 (Int.ofNat ((((((((N.add 3).div 4).add 3).div 4).add 3).div 4).add 3).div 4)) = v)))))))))))) := by kernel_rfl
theorem run18_4_eq (N : Nat) (v : KV) : run18 4 N v = (cnd ((N.add 3).blt 9223372036854775808) (cnd (((N.add 3).div 4).blt 9223372036854775808) (alt (eqI (Int.ofNat ((N.add 3).div 4)) (Int.ofNat 1)) (KV.int IntKind.i64 (Int.ofNat 0) = v) (cnd ((((N.add 3).div 4).add 3).blt 9223372036854775808) (cnd (((((N.add 3).div 4).add 3).div 4).blt 9223372036854775808) (alt (eqI (Int.ofNat ((((N.add 3).div 4).add 3).div 4)) (Int.ofNat 1)) (KV.int IntKind.i64 (Int.ofNat 0) = v) (cnd ((((((N.add 3).div 4).add 3).div 4).add 3).blt 9223372036854775808) (cnd (((((((N.add 3).div 4).add 3).div 4).add 3).div 4).blt 9223372036854775808) (alt (eqI (Int.ofNat ((((((N.add 3).div 4).add 3).div 4).add 3).div 4)) (Int.ofNat 1)) (KV.int IntKind.i64 (Int.ofNat 0) = v) (cnd ((((((((N.add 3).div 4).add 3).div 4).add 3).div 4).add 3).blt 9223372036854775808) (cnd (((((((((N.add 3).div 4).add 3).div 4).add 3).div 4).add 3).div 4).blt 9223372036854775808) (alt (eqI (Int.ofNat ((((((((N.add 3).div 4).add 3).div 4).add 3).div 4).add 3).div 4)) (Int.ofNat 1)) (KV.int IntKind.i64 (Int.ofNat 0) = v) (cnd ((((((((((N.add 3).div 4).add 3).div 4).add 3).div 4).add 3).div 4).add 3).blt 9223372036854775808) (cnd (((((((((((N.add 3).div 4).add 3).div 4).add 3).div 4).add 3).div 4).add 3).div 4).blt 9223372036854775808) (KV.int IntKind.i64 (Int.ofNat ((((((((((N.add 3).div 4).add 3).div 4).add 3).div 4).add 3).div 4).add 3).div 4)) = v))))))))))))))) := by kernel_rfl
theorem run18_5_eq (N : Nat) (v : KV) : run18 5 N v = (cnd ((N.add 3).blt 9223372036854775808) (cnd (((N.add 3).div 4).blt 9223372036854775808) (alt (eqI (Int.ofNat ((N.add 3).div 4)) (Int.ofNat 1)) (KV.int IntKind.i64 (Int.ofNat 0) = v) (cnd ((((N.add 3).div 4).add 3).blt 9223372036854775808) (cnd (((((N.add 3).div 4).add 3).div 4).blt 9223372036854775808) (alt (eqI (Int.ofNat ((((N.add 3).div 4).add 3).div 4)) (Int.ofNat 1)) (KV.int IntKind.i64 (Int.ofNat 0) = v) (cnd ((((((N.add 3).div 4).add 3).div 4).add 3).blt 9223372036854775808) (cnd (((((((N.add 3).div 4).add 3).div 4).add 3).div 4).blt 9223372036854775808) (alt (eqI (Int.ofNat ((((((N.add 3).div 4).add 3).div 4).add 3).div 4)) (Int.ofNat 1)) (KV.int IntKind.i64 (Int.ofNat 0) = v) (cnd ((((((((N.add 3).div 4).add 3).div 4).add 3).div 4).add 3).blt 9223372036854775808) (cnd (((((((((N.add 3).div 4).add 3).div 4).add 3).div 4).add 3).div 4).blt 9223372036854775808) (alt (eqI (Int.ofNat ((((((((N.add 3).div 4).add 3).div 4).add 3).div 4).add 3).div 4)) (Int.ofNat 1)) (KV.int IntKind.i64 (Int.ofNat 0) = v) (cnd ((((((((((N.add 3).div 4).add 3).div 4).add 3).div 4).add 3).div 4).add 3).blt 9223372036854775808) (cnd (((((((((((N.add 3).div 4).add 3).div 4).add 3).div 4).add 3).div 4).add 3).div 4).blt 9223372036854775808) (alt (eqI (Int.ofNat ((((((((((N.add 3).div 4).add 3).div 4).add 3).div 4).add 3).div 4).add 3).div 4)) (Int.ofNat 1)) (KV.int IntKind.i64 (Int.ofNat 0) = v) (cnd ((((((((((((N.add 3).div 4).add 3).div 4).add 3).div 4).add 3).div 4).add 3).div 4).add 3).blt 9223372036854775808) (cnd (((((((((((((N.add 3).div 4).add 3).div 4).add 3).div 4).add 3).div 4).add 3).div 4).add 3).div 4).blt 9223372036854775808) (KV.int IntKind.i64 (Int.ofNat ((((((((((((N.add 3).div 4).add 3).div 4).add 3).div 4).add 3).div 4).add 3).div 4).add 3).div 4)) = v)))))))))))))))))) := by kernel_rfl
theorem run18_6_eq (N : Nat) (v : KV) : run18 6 N v = (cnd ((N.add 3).blt 9223372036854775808) (cnd (((N.add 3).div 4).blt 9223372036854775808) (alt (eqI (Int.ofNat ((N.add 3).div 4)) (Int.ofNat 1)) (KV.int IntKind.i64 (Int.ofNat 0) = v) (cnd ((((N.add 3).div 4).add 3).blt 9223372036854775808) (cnd (((((N.add 3).div 4).add 3).div 4).blt 9223372036854775808) (alt (eqI (Int.ofNat ((((N.add 3).div 4).add 3).div 4)) (Int.ofNat 1)) (KV.int IntKind.i64 (Int.ofNat 0) = v) (cnd ((((((N.add 3).div 4).add 3).div 4).add 3).blt 9223372036854775808) (cnd (((((((N.add 3).div 4).add 3).div 4).add 3).div 4).blt 9223372036854775808) (alt (eqI (Int.ofNat ((((((N.add 3).div 4).add 3).div 4).add 3).div 4)) (Int.ofNat 1)) (KV.int IntKind.i64 (Int.ofNat 0) = v) (cnd ((((((((N.add 3).div 4).add 3).div 4).add 3).div 4).add 3).blt 9223372036854775808) (cnd (((((((((N.add 3).div 4).add 3).div 4).add 3).div 4).add 3).div 4).blt 9223372036854775808) (alt (eqI (Int.ofNat ((((((((N.add 3).div 4).add 3).div 4).add 3).div 4).add 3).div 4)) (Int.ofNat 1)) (KV.int IntKind.i64 (Int.ofNat 0) = v) (cnd ((((((((((N.add 3).div 4).add 3).div 4).add 3).div 4).add 3).div 4).add 3).blt 9223372036854775808) (cnd (((((((((((N.add 3).div 4).add 3).div 4).add 3).div 4).add 3).div 4).add 3).div 4).blt 9223372036854775808) (alt (eqI (Int.ofNat ((((((((((N.add 3).div 4).add 3).div 4).add 3).div 4).add 3).div 4).add 3).div 4)) (Int.ofNat 1)) (KV.int IntKind.i64 (Int.ofNat 0) = v) (cnd ((((((((((((N.add 3).div 4).add 3).div 4).add 3).div 4).add 3).div 4).add 3).div 4).add 3).blt 9223372036854775808) (cnd (((((((((((((N.add 3).div 4).add 3).div 4).add 3).div 4).add 3).div 4).add 3).div 4).add 3).div 4).blt 9223372036854775808) (alt (eqI (Int.ofNat ((((((((((((N.add 3).div 4).add 3).div 4).add 3).div 4).add 3).div 4).add 3).div 4).add 3).div 4)) (Int.ofNat 1)) (KV.int IntKind.i64 (Int.ofNat 0) = v) (cnd ((((((((((((((N.add 3).div 4).add 3).div 4).add 3).div 4).add 3).div 4).add 3).div 4).add 3).div 4).add 3).blt 9223372036854775808) (cnd (((((((((((((((N.add 3).div 4).add 3).div 4).add 3).div 4).add 3).div 4).add 3).div 4).add 3).div 4).add 3).div 4).blt 9223372036854775808) (KV.int IntKind.i64 (Int.ofNat ((((((((((((((N.add 3).div 4).add 3).div 4).add 3).div 4).add 3).div 4).add 3).div 4).add 3).div 4).add 3).div 4)) = v))))))))))))))))))))) := by kernel_rfl
theorem run18_0 {N : Nat} (h : N ≤ 4294967296) (hn : C.no1 N 0) : run18 0 N (.int .i64 (.ofNat (C.cnt N 0))) := by
  rw [run18_0_eq]
  have e0 : C.cnt N 0 = (N + 3) / 4 := rfl
  generalize C.cnt N 0 = c0 at *
  simp only [alt_iff, cnd_iff, eqI_nat, ltI_nat, beqT, beqF, bltT, bltF, notT, notF, Nat.add_eq, Nat.mul_eq, div_e, ← e0]
  repeat' first | apply And.intro | intro _
  all_goals first | trivial | omega | (exfalso; omega) | (apply int_eq; omega)
theorem run18_1 {N : Nat} (h : N ≤ 4294967296) (hn : C.no1 N 1) : run18 1 N (.int .i64 (.ofNat (C.cnt N 1))) := by
  rw [run18_1_eq]
  have n0 := hn 0 (by omega)
  have e0 : C.cnt N 0 = (N + 3) / 4 := rfl
  have e1 : C.cnt N 1 = (C.cnt N 0 + 3) / 4 := rfl
  generalize C.cnt N 0 = c0 at *
  generalize C.cnt N 1 = c1 at *
  simp only [alt_iff, cnd_iff, eqI_nat, ltI_nat, beqT, beqF, bltT, bltF, notT, notF, Nat.add_eq, Nat.mul_eq, div_e, ← e0, ← e1]
  repeat' first | apply And.intro | intro _
  all_goals first | trivial | omega | (exfalso; omega) | (apply int_eq; omega)
theorem run18_2 {N : Nat} (h : N ≤ 4294967296) (hn : C.no1 N 2) : run18 2 N (.int .i64 (.ofNat (C.cnt N 2))) := by
  rw [run18_2_eq]
  have n0 := hn 0 (by omega)
  have n1 := hn 1 (by omega)
  have e0 : C.cnt N 0 = (N + 3) / 4 := rfl
  have e1 : C.cnt N 1 = (C.cnt N 0 + 3) / 4 := rfl
  have e2 : C.cnt N 2 = (C.cnt N 1 + 3) / 4 := rfl
  generalize C.cnt N 0 = c0 at *
  generalize C.cnt N 1 = c1 at *
  generalize C.cnt N 2 = c2 at *
  simp only [alt_iff, cnd_iff, eqI_nat, ltI_nat, beqT, beqF, bltT, bltF, notT, notF, Nat.add_eq, Nat.mul_eq, div_e, ← e0, ← e1, ← e2]
  repeat' first | apply And.intro | intro _
  all_goals first | trivial | omega | (exfalso; omega) | (apply int_eq; omega)
theorem run18_3 {N : Nat} (h : N ≤ 4294967296) (hn : C.no1 N 3) : run18 3 N (.int .i64 (.ofNat (C.cnt N 3))) := by
  rw [run18_3_eq]
  have n0 := hn 0 (by omega)
  have n1 := hn 1 (by omega)
  have n2 := hn 2 (by omega)
  have e0 : C.cnt N 0 = (N + 3) / 4 := rfl
  have e1 : C.cnt N 1 = (C.cnt N 0 + 3) / 4 := rfl
  have e2 : C.cnt N 2 = (C.cnt N 1 + 3) / 4 := rfl
  have e3 : C.cnt N 3 = (C.cnt N 2 + 3) / 4 := rfl
  generalize C.cnt N 0 = c0 at *
  generalize C.cnt N 1 = c1 at *
  generalize C.cnt N 2 = c2 at *
  generalize C.cnt N 3 = c3 at *
  simp only [alt_iff, cnd_iff, eqI_nat, ltI_nat, beqT, beqF, bltT, bltF, notT, notF, Nat.add_eq, Nat.mul_eq, div_e, ← e0, ← e1, ← e2, ← e3]
  repeat' first | apply And.intro | intro _
  all_goals first | trivial | omega | (exfalso; omega) | (apply int_eq; omega)
theorem run18_4 {N : Nat} (h : N ≤ 4294967296) (hn : C.no1 N 4) : run18 4 N (.int .i64 (.ofNat (C.cnt N 4))) := by
  rw [run18_4_eq]
  have n0 := hn 0 (by omega)
  have n1 := hn 1 (by omega)
  have n2 := hn 2 (by omega)
  have n3 := hn 3 (by omega)
  have e0 : C.cnt N 0 = (N + 3) / 4 := rfl
  have e1 : C.cnt N 1 = (C.cnt N 0 + 3) / 4 := rfl
  have e2 : C.cnt N 2 = (C.cnt N 1 + 3) / 4 := rfl
  have e3 : C.cnt N 3 = (C.cnt N 2 + 3) / 4 := rfl
  have e4 : C.cnt N 4 = (C.cnt N 3 + 3) / 4 := rfl
  generalize C.cnt N 0 = c0 at *
  generalize C.cnt N 1 = c1 at *
  generalize C.cnt N 2 = c2 at *
  generalize C.cnt N 3 = c3 at *
  generalize C.cnt N 4 = c4 at *
  simp only [alt_iff, cnd_iff, eqI_nat, ltI_nat, beqT, beqF, bltT, bltF, notT, notF, Nat.add_eq, Nat.mul_eq, div_e, ← e0, ← e1, ← e2, ← e3, ← e4]
  repeat' first | apply And.intro | intro _
  all_goals first | trivial | omega | (exfalso; omega) | (apply int_eq; omega)
theorem run18_5 {N : Nat} (h : N ≤ 4294967296) (hn : C.no1 N 5) : run18 5 N (.int .i64 (.ofNat (C.cnt N 5))) := by
  rw [run18_5_eq]
  have n0 := hn 0 (by omega)
  have n1 := hn 1 (by omega)
  have n2 := hn 2 (by omega)
  have n3 := hn 3 (by omega)
  have n4 := hn 4 (by omega)
  have e0 : C.cnt N 0 = (N + 3) / 4 := rfl
  have e1 : C.cnt N 1 = (C.cnt N 0 + 3) / 4 := rfl
  have e2 : C.cnt N 2 = (C.cnt N 1 + 3) / 4 := rfl
  have e3 : C.cnt N 3 = (C.cnt N 2 + 3) / 4 := rfl
  have e4 : C.cnt N 4 = (C.cnt N 3 + 3) / 4 := rfl
  have e5 : C.cnt N 5 = (C.cnt N 4 + 3) / 4 := rfl
  generalize C.cnt N 0 = c0 at *
  generalize C.cnt N 1 = c1 at *
  generalize C.cnt N 2 = c2 at *
  generalize C.cnt N 3 = c3 at *
  generalize C.cnt N 4 = c4 at *
  generalize C.cnt N 5 = c5 at *
  simp only [alt_iff, cnd_iff, eqI_nat, ltI_nat, beqT, beqF, bltT, bltF, notT, notF, Nat.add_eq, Nat.mul_eq, div_e, ← e0, ← e1, ← e2, ← e3, ← e4, ← e5]
  repeat' first | apply And.intro | intro _
  all_goals first | trivial | omega | (exfalso; omega) | (apply int_eq; omega)
theorem run18_6 {N : Nat} (h : N ≤ 4294967296) (hn : C.no1 N 6) : run18 6 N (.int .i64 (.ofNat (C.cnt N 6))) := by
  rw [run18_6_eq]
  have n0 := hn 0 (by omega)
  have n1 := hn 1 (by omega)
  have n2 := hn 2 (by omega)
  have n3 := hn 3 (by omega)
  have n4 := hn 4 (by omega)
  have n5 := hn 5 (by omega)
  have e0 : C.cnt N 0 = (N + 3) / 4 := rfl
  have e1 : C.cnt N 1 = (C.cnt N 0 + 3) / 4 := rfl
  have e2 : C.cnt N 2 = (C.cnt N 1 + 3) / 4 := rfl
  have e3 : C.cnt N 3 = (C.cnt N 2 + 3) / 4 := rfl
  have e4 : C.cnt N 4 = (C.cnt N 3 + 3) / 4 := rfl
  have e5 : C.cnt N 5 = (C.cnt N 4 + 3) / 4 := rfl
  have e6 : C.cnt N 6 = (C.cnt N 5 + 3) / 4 := rfl
  generalize C.cnt N 0 = c0 at *
  generalize C.cnt N 1 = c1 at *
  generalize C.cnt N 2 = c2 at *
  generalize C.cnt N 3 = c3 at *
  generalize C.cnt N 4 = c4 at *
  generalize C.cnt N 5 = c5 at *
  generalize C.cnt N 6 = c6 at *
  simp only [alt_iff, cnd_iff, eqI_nat, ltI_nat, beqT, beqF, bltT, bltF, notT, notF, Nat.add_eq, Nat.mul_eq, div_e, ← e0, ← e1, ← e2, ← e3, ← e4, ← e5, ← e6]
  repeat' first | apply And.intro | intro _
  all_goals first | trivial | omega | (exfalso; omega) | (apply int_eq; omega)
def s18 : KSpec := fun l K => lb2 l fun x y => natK x fun n => natK y fun l => chk (Nat.blt l 7) 310 ((n ≤ 4294967296 ∧ C.no1 n l) ∧ K (.int .i64 (.ofNat (C.cnt n l))))
theorem P18 : ∃ fn, Tryz.prog.funcs[18]? = some fn ∧ (fn.name == "runtime.NumGoroutine") = false ∧ fn.body.isNone = false := ⟨Tryz.f18, Tryz.func18, (fnsL.get Tryz.func18).1, by kernel_rfl⟩
theorem kcs18 : @KCS gO Tryz.prog 18 s18 := by
  refine @kcsQ gO EO0 okO0 18 s18 P18 fun l K hs => ?_
  obtain ⟨x, y, rfl, h1⟩ := lb2_s hs
  obtain ⟨n, rfl, h2⟩ := natK_s h1
  obtain ⟨l, rfl, h3⟩ := natK_s h2
  obtain ⟨h4, ⟨h5, h6⟩, h7⟩ := chk_inv h3
  rw [Nat.blt_eq] at h4
  refine ⟨40, _, _, h7, rfl, fun _ _ h => h, ?_⟩
  show run18 l n _
  match l, h4 with
  | 0, _ => exact run18_0 h5 h6
  | 1, _ => exact run18_1 h5 h6
  | 2, _ => exact run18_2 h5 h6
  | 3, _ => exact run18_3 h5 h6
  | 4, _ => exact run18_4 h5 h6
  | 5, _ => exact run18_5 h5 h6
  | 6, _ => exact run18_6 h5 h6
  | l + 7, h => omega
def E9 : KEnv := EO0.tab [(18, s18)]
theorem ok9 : @KOk gO E9 := @KOk.tab gO EO0 okO0 _ ⟨kcs18, trivial⟩
def run9 (N : Nat) (v : KV) : Prop := @callR gO E9 (@krun gO E9 22) 0 9 [.int .i64 (.ofNat N)] .e 0 0 fun r _ _ _ => r = v
theorem run9_eq (N : Nat) (v : KV) : run9 N v = ((N ≤ 4294967296 ∧ C.no1 N 0) ∧ alt (!eqI (Int.ofNat (C.cnt N 0)) (Int.ofNat 1)) ((N ≤ 4294967296 ∧ C.no1 N (Nat.add 0 1)) ∧ alt (!eqI (Int.ofNat (C.cnt N 1)) (Int.ofNat 1)) ((N ≤ 4294967296 ∧ C.no1 N ((Nat.add 0 1).add 1)) ∧ alt (!eqI (Int.ofNat (C.cnt N 2)) (Int.ofNat 1)) ((N ≤ 4294967296 ∧ C.no1 N (((Nat.add 0 1).add 1).add 1)) ∧ alt (!eqI (Int.ofNat (C.cnt N 3)) (Int.ofNat 1)) ((N ≤ 4294967296 ∧ C.no1 N ((((Nat.add 0 1).add 1).add 1).add 1)) ∧ alt (!eqI (Int.ofNat (C.cnt N 4)) (Int.ofNat 1)) ((N ≤ 4294967296 ∧ C.no1 N (((((Nat.add 0 1).add 1).add 1).add 1).add 1)) ∧ alt (!eqI (Int.ofNat (C.cnt N 5)) (Int.ofNat 1)) ((N ≤ 4294967296 ∧ C.no1 N ((((((Nat.add 0 1).add 1).add 1).add 1).add 1).add 1)) ∧ alt (!eqI (Int.ofNat (C.cnt N 6)) (Int.ofNat 1)) (BadN (310 : Nat)) (KV.int IntKind.i64 (Int.ofNat 6) = v)) (KV.int IntKind.i64 (Int.ofNat 5) = v)) (KV.int IntKind.i64 (Int.ofNat 4) = v)) (KV.int IntKind.i64 (Int.ofNat 3) = v)) (KV.int IntKind.i64 (Int.ofNat 2) = v)) (KV.int IntKind.i64 (Int.ofNat 1) = v)) (KV.int IntKind.i64 (Int.ofNat 0) = v)) := by kernel_rfl
theorem no1_s {n l : Nat} (h : C.no1 n l) (h1 : C.cnt n l ≠ 1) : C.no1 n (l + 1) := fun j hj => by
  rcases Nat.lt_or_ge j l with h2 | h2
  · exact h j h2
  · obtain rfl : j = l := by omega
    exact h1
theorem no1_0 (N : Nat) : C.no1 N 0 := fun j hj => by omega
section
attribute [local irreducible] C.no1
set_option maxRecDepth 100000 in
theorem run9_g {N : Nat} (h1 : 1 ≤ N) (h2 : N ≤ 4096) : run9 N (.int .i64 (.ofNat (C.hgt N))) := by
  rw [run9_eq]
  have hN : N ≤ 4294967296 := by omega
  have z0 : C.no1 N 0 := no1_0 N
  have z1 := fun h : ¬ C.cnt N 0 = 1 => no1_s z0 h
  have z2 := fun (g : ¬ C.cnt N 0 = 1) (h : ¬ C.cnt N 1 = 1) => no1_s (z1 g) h
  have z3 := fun (g : ¬ C.cnt N 0 = 1) (h : ¬ C.cnt N 1 = 1) (i : ¬ C.cnt N 2 = 1) => no1_s (z2 g h) i
  have z4 := fun (g : ¬ C.cnt N 0 = 1) (h : ¬ C.cnt N 1 = 1) (i : ¬ C.cnt N 2 = 1) (j : ¬ C.cnt N 3 = 1) => no1_s (z3 g h i) j
  have z5 := fun (g : ¬ C.cnt N 0 = 1) (h : ¬ C.cnt N 1 = 1) (i : ¬ C.cnt N 2 = 1) (j : ¬ C.cnt N 3 = 1) (k : ¬ C.cnt N 4 = 1) => no1_s (z4 g h i j) k
  have hs : C.hgt N = C.hg 5 (C.cnt N 0) := rfl
  have a1 : 4 * C.cnt N 0 ≤ N + 3 ∧ N ≤ 4 * C.cnt N 0 := ab_s N
  have a2 : 4 * C.cnt N 1 ≤ C.cnt N 0 + 3 ∧ C.cnt N 0 ≤ 4 * C.cnt N 1 := ab_s _
  have a3 : 4 * C.cnt N 2 ≤ C.cnt N 1 + 3 ∧ C.cnt N 1 ≤ 4 * C.cnt N 2 := ab_s _
  have a4 : 4 * C.cnt N 3 ≤ C.cnt N 2 + 3 ∧ C.cnt N 2 ≤ 4 * C.cnt N 3 := ab_s _
  have a5 : 4 * C.cnt N 4 ≤ C.cnt N 3 + 3 ∧ C.cnt N 3 ≤ 4 * C.cnt N 4 := ab_s _
  have a6 : 4 * C.cnt N 5 ≤ C.cnt N 4 + 3 ∧ C.cnt N 4 ≤ 4 * C.cnt N 5 := ab_s _
  have p1 := hg_1 4 (C.cnt N 0)
  have q1 : ¬ C.cnt N 0 = 1 → C.hg 5 (C.cnt N 0) = 1 + C.hg 4 (C.cnt N 1) := hg_n 4 (C.cnt N 0)
  have p2 := hg_1 3 (C.cnt N 1)
  have q2 : ¬ C.cnt N 1 = 1 → C.hg 4 (C.cnt N 1) = 1 + C.hg 3 (C.cnt N 2) := hg_n 3 (C.cnt N 1)
  have p3 := hg_1 2 (C.cnt N 2)
  have q3 : ¬ C.cnt N 2 = 1 → C.hg 3 (C.cnt N 2) = 1 + C.hg 2 (C.cnt N 3) := hg_n 2 (C.cnt N 2)
  have p4 := hg_1 1 (C.cnt N 3)
  have q4 : ¬ C.cnt N 3 = 1 → C.hg 2 (C.cnt N 3) = 1 + C.hg 1 (C.cnt N 4) := hg_n 1 (C.cnt N 3)
  have p5 := hg_1 0 (C.cnt N 4)
  have q5 : ¬ C.cnt N 4 = 1 → C.hg 1 (C.cnt N 4) = 1 + C.hg 0 (C.cnt N 5) := hg_n 0 (C.cnt N 4)
  have p6 := hg_0 (C.cnt N 5)
  generalize C.hgt N = sN at *
  simp only [alt_iff, cnd_iff, eqI_nat, ltI_nat, beqT, beqF, bltT, bltF, notT, notF, Nat.add_eq, Nat.mul_eq, Nat.zero_add, Nat.reduceAdd]
  generalize C.cnt N 0 = c1 at *
  generalize C.cnt N 1 = c2 at *
  generalize C.cnt N 2 = c3 at *
  generalize C.cnt N 3 = c4 at *
  generalize C.cnt N 4 = c5 at *
  generalize C.cnt N 5 = c6 at *
  generalize C.hg 5 c1 = s1 at *
  generalize C.hg 4 c2 = s2 at *
  generalize C.hg 3 c3 = s3 at *
  generalize C.hg 2 c4 = s4 at *
  generalize C.hg 1 c5 = s5 at *
  generalize C.hg 0 c6 = s6 at *
  repeat' first | apply And.intro | intro _
  all_goals first | trivial | omega | (exfalso; omega) | assumption | (exact z1 (by assumption)) | (exact z2 (by assumption) (by assumption)) | (exact z3 (by assumption) (by assumption) (by assumption)) | (exact z4 (by assumption) (by assumption) (by assumption) (by assumption)) | (exact z5 (by assumption) (by assumption) (by assumption) (by assumption) (by assumption)) | (apply int_eq; omega)
end
def s9 : KSpec := fun l K => la1 l fun x => natK x fun n => (1 ≤ n ∧ n ≤ 4096) ∧ K (.int .i64 (.ofNat (C.hgt n)))
theorem P9 : ∃ fn, Tryz.prog.funcs[9]? = some fn ∧ (fn.name == "runtime.NumGoroutine") = false ∧ fn.body.isNone = false := ⟨Tryz.f9, Tryz.func9, (fnsL.get Tryz.func9).1, by kernel_rfl⟩
theorem kcs9 : @KCS gO Tryz.prog 9 s9 := by
  refine @kcsQ gO E9 ok9 9 s9 P9 fun l K hs => ?_
  obtain ⟨x, rfl, h1⟩ := la1_s hs
  obtain ⟨n, rfl, h2, h3⟩ := natK_s h1
  exact ⟨22, _, _, h3, rfl, fun _ _ h => h, run9_g h2.1 h2.2⟩
end
end Go.K
