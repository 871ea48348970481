/- The program of the seat in the run: what stands fast. No condition. The open mode of the run. No condition. Contracts over open numbers: the shape of a number of blocks. No condition. Contracts over open numbers: sectors. No condition. -/
import Derived.Test.YthnhbdidiglcgaaGreatDoorK19
import Derived.Test.YthnhbdidiglcgaaGreatDoorProg
set_option linter.unusedVariables false
namespace Go.K
open Go.Ab Go.RowKit Go.Y Go.Proofs
noncomputable section
def gSizes : KV := .pk .i64 2 608742554432415203373
def gInit : KV := .pk .u32 8 41557658498906279274860226408925318911382702236748615442085426012007055353447
def gConst : KV := .pk .u32 64 25051139735836467913601071899189108501681633092613316132753366958947502841281110980347811086624969305314199562795868290539880502533646505489797110349007385020507326982043050618112420254613810441709594605123090411975756494285771699200369901479195251226368983824020564277645963860728452821576845901498668417244438721537663670541944820957180957595559282976806173113161068298822071065329290006052849814285001949914564097058408480133985233335799884203712730341384999677089997083749077591931498939520449886954646413138343858395935213418018409268340744776361518554939863400075967197509182087778881547827184266701615699472280
noncomputable instance kgL : KGl := { g := fun g => @Nat.rec (fun _ => KV) .unk (fun g _ => @Nat.rec (fun _ => KV) (.ref true (.arr 2 .sc) gSizes) (fun g _ => @Nat.rec (fun _ => KV) .unk (fun g _ => @Nat.rec (fun _ => KV) (.ref true (.arr 8 .sc) gInit) (fun g _ => @Nat.rec (fun _ => KV) (.ref true (.arr 64 .sc) gConst) (fun _ _ => .unk) g) g) g) g) g, cl := true }
noncomputable def maskL : List Nat := [0, 0, 0, 1427247692705959881135657221904831403565742079, 2305843014850969495, 1180591620717418110719, 316912650057057350391388325363, 275213826015, 680564733921105089441013552459239042559, 95792708989142910329061376604243977789965036834275327, 19, 2305843009348961279, 72061992354963327, 7, 93, 276220084479, 549882171087, 2200101192175, 67173855, 41538374868278621028243970640379903, 8432381, 7, 125, 4398047052287, 1527, 270536687, 141, 4297195571, 309485009821345068724871167, 33556287, 32951, 2101231, 348449476196299211760334265167230810386423, 4297195571, 525, 16793591, 2101231, 5, 34363933439, 1023, 63, 607, 1023, 39, 7, 784637716923335095479473678059414627041323105745102561279, 7, 5, 7, 7, 207, 55, 207, 7, 7, 17196648447, 93, 157, 8063, 33571823, 19, 5, 263283, 67111111, 553648159, 70377367674639, 271, 4551, 19, 8592048383, 67113167, 32951, 2047, 55610587702272942577287135, 167772871, 287, 7, 319, 5, 5, 7, 4326095, 23, 137472540527, 154742504910954561258848223, 8317, 263882794406655, 9223372036857004083, 4297195571, 4157, 4157, 2684358415, 17179871487, 19, 33015, 264183, 16781295, 10995116400119, 502, 8247, 5, 3871, 10995116400119, 487, 3965309, 65779, 189, 281509341175663, 23, 137506063859, 144116218935134199, 10995116400119, 486, 2163, 261, 33588167, 95, 33781, 271, 7, 4119, 19, 21, 67, 2097407, 281483567695863, 4503668481081311, 4575, 1073807423, 31, 4298904063, 3671167, 7, 536887359, 32951, 5, 21, 7, 5, 21, 2527, 34395456463, 9203, 18375, 33791, 119, 2163, 7, 7, 67376071, 16777463, 1179767, 1043, 127, 255, 123315, 119, 15, 525, 127, 1071, 8388851, 23, 4159, 247, 137438984251, 727, 21, 302526873306426839531375, 1048827, 32775, 16885, 3, 7, 127, 4095, 179, 285, 245943, 8796093022459, 16908431, 5, 5, 39, 67543, 15, 287, 67543, 15, 287, 4109, 255, 5, 21, 2251838468662267, 2015, 2105407, 1011, 19, 5, 5, 579442627903543, 19, 1080109031, 67126263, 524863, 4559, 139727, 33919, 34368129779, 2099, 23, 15, 72339206454118381, 83, 263197, 268508991, 5, 7, 593349495719726591, 18555358364663615, 1, 34359747191, 115187, 117456959, 1965, 125845229, 7, 16777743, 2147483775, 100795379, 5, 32895, 50151, 65597, 32775, 3699, 5, 70368744435647, 525255, 58852349, 7, 77, 166153499473265609352030125143638015, 115, 16371, 66483, 31, 524855, 4147, 277783, 7, 4151, 0, 0, 0, 1193287703199244111, 0, 4639143427053511, 5, 3, 40564819207303340847931076901815, 2098143, 4211, 3703037, 7, 19, 7, 7, 70368744177677, 306244776809628157, 550007474301, 127, 1901475900342344102245055741951, 77, 117457395, 5, 31, 525, 5, 63, 31, 309486190419721203025453565, 15, 15, 87, 63, 79, 4194679, 504373101, 0, 0, 297203, 19, 31, 66483, 268552123, 5, 13, 7, 16431, 824633723135, 1077938175, 23, 536872959, 19, 263063, 61, 1099511760637, 2147516925, 275951650207, 65619, 748289016719383882365272385607093028152559065366527, 1152921642046133247, 1085, 1197427, 123, 3635, 55411, 7783419, 19, 7881587, 4339, 8541, 2147746111, 21, 316912650057129970918176071667, 5, 51, 67319, 51, 51, 13, 16765, 93, 3, 0, 0, 0, 0, 0, 0, 0, 0, 0, 0, 0, 0, 0, 0, 0, 0, 0, 0, 0, 0, 7, 0, 0, 0, 0, 0, 0, 0, 0, 0, 0, 0, 0, 0, 0, 0, 0, 0, 0, 5, 0, 0, 0, 0, 0, 0, 0, 0, 0]
noncomputable def mdL : List Nat := [0, 0, 0, 1, 1, 1, 1, 1, 1, 0, 0, 0, 0, 1, 1, 0, 0, 0, 1, 1, 0, 1, 0, 1, 1, 0, 1, 1, 1, 0, 0, 0, 0, 1, 0, 0, 0, 1, 0, 0, 0, 0, 0, 1, 0, 1, 1, 1, 0, 1, 0, 0, 0, 0, 1, 1, 1, 0, 1, 0, 1, 1, 1, 1, 0, 1, 1, 1, 1, 0, 1, 1, 1, 0, 1, 1, 1, 1, 0, 0, 0, 0, 1, 1, 1, 1, 0, 1, 1, 1, 1, 1, 0, 1, 0, 1, 0, 0, 3, 0, 0, 0, 0, 3, 1, 1, 1, 1, 1, 0, 0, 0, 3, 1, 1, 0, 1, 0, 0, 3, 0, 3, 0, 3, 3, 0, 0, 0, 3, 0, 0, 0, 3, 3, 1, 0, 0, 1, 0, 0, 0, 0, 1, 0, 1, 0, 1, 0, 0, 1, 0, 1, 0, 3, 1, 1, 0, 0, 1, 0, 1, 0, 1, 1, 0, 3, 0, 0, 0, 0, 1, 0, 3, 3, 3, 1, 1, 0, 1, 0, 1, 1, 0, 3, 0, 3, 0, 0, 3, 0, 2, 1, 0, 2, 1, 1, 0, 1, 0, 3, 0, 1, 1, 0, 0, 0, 1, 1, 0, 0, 0, 1, 0, 1, 2, 0, 0, 0, 0, 0, 0, 1, 1, 0, 1, 1, 0, 0, 3, 1, 0, 0, 3, 1, 0, 1, 0, 0, 1, 1, 0, 1, 0, 0, 1, 1, 0, 0, 1, 1, 1, 1, 0, 0, 0, 0, 0, 0, 0, 0, 1, 1, 1, 0, 0, 1, 0, 3, 0, 2, 2, 2, 0, 1, 1, 0, 0, 0, 0, 1, 3, 3, 1, 3, 3, 1, 0, 1, 3, 0, 0, 0, 1, 1, 1, 0, 3, 2, 2, 3, 3, 1, 1, 1, 1, 1, 3, 1, 1, 1, 3, 0, 1, 1, 1, 1, 2, 2, 2, 2, 1, 1, 0, 1, 1, 1, 1, 1, 1, 1, 1, 2, 1, 1, 0, 3, 1, 0, 1, 0, 1, 0, 1, 0, 1, 0, 1, 0, 1, 0, 1, 1, 0, 1, 1, 0, 0, 0, 0, 1, 1, 1, 0, 1, 0, 0, 1, 1, 1, 0, 0, 1, 1, 1, 0, 0, 0, 0, 0, 0, 0, 0, 0, 0, 0]
noncomputable def E0 : KEnv := { P := Tryz.prog, ct := fun _ => none, md := fun f => mdL.getD f 0, km := fun f => maskL.getD f 0 }
theorem fnsL : FnsOk Tryz.prog := by
  unfold FnsOk
  decide +kernel
theorem mixL : Tryz.prog.follows .mixedOrders = true := by decide +kernel
theorem gnL (g : Nat) : noId (Gl.G g) = true := by
  match g with
  | 0 => rfl
  | 1 => rfl
  | 2 => rfl
  | 3 => rfl
  | 4 => rfl
  | _ + 5 => rfl
theorem ok0 : KOk E0 where
  fns := fnsL
  ct := fun _ _ h => (by cases h)
  gn := gnL
  mixed := mixL
  ex := fun _ h => (by cases h)
end
end Go.K
set_option linter.unusedVariables false
set_option linter.unusedSimpArgs false
namespace Go.K
open Go.Ab Go.RowKit Go.Y Go.Proofs
noncomputable section
/-- A number that is handed on. -/
def natK (x : KV) (f : Nat → Prop) : Prop := onInt (fun k a => chk (ikEq k .i64) 300 (@Int.rec (fun _ => Prop) (fun n => f n) (fun _ => BadN 301) a)) (BadN 302) x
theorem natK_s {x : KV} {f : Nat → Prop} (h : natK x f) : ∃ n, x = .int .i64 (.ofNat n) ∧ f n := by
  rcases onInt_inv h with ⟨k, a, rfl, h1⟩ | ⟨_, h1⟩
  · obtain ⟨h2, h3⟩ := chk_inv h1
    obtain rfl := ikEq_eq h2
    cases a with
    | ofNat n => exact ⟨n, rfl, h3⟩
    | negSucc n => exact (show BadN 301 from h3).elim
  · exact h1.elim
def nI (n : Nat) : KV := .int .i64 (.ofNat n)
@[reducible] def gO : KGl := opnG kgL
def EO0 : KEnv := { P := Tryz.prog, ct := fun _ => none, md := fun f => mdL.getD f 0, km := fun f => maskL.getD f 0 }
theorem okO0 : @KOk gO EO0 := @KOk.mk gO EO0 fnsL (fun _ _ h => (by cases h)) gnL mixL (fun _ h => (by cases h))
theorem imp_refl (v : V) : Imp v v := fun _ _ h => h
end
end Go.K
set_option linter.unusedVariables false
set_option linter.unusedSimpArgs false
namespace Go.K
open Go.Ab Go.RowKit Go.Y Go.Proofs
noncomputable section
/-- The count of the level above. -/
def C.ab (n : Nat) : Nat := (n + 3) / 4
def s279 : KSpec := fun l K => la1 l fun x => natK x fun n => n ≤ 4294967296 ∧ K (.int .i64 (.ofNat (C.ab n)))
def run279 (N : Nat) (v : KV) : Prop := @callR gO EO0 (@krun gO EO0 100) 0 279 [.int .i64 (.ofNat N)] .e 0 0 fun r _ _ _ => r = v
theorem run279_eq (N : Nat) (v : KV) : run279 N v = cnd ((N.add (nat_lit 4)).blt (nat_lit 9223372036854775808)) (cnd (((N.add (nat_lit 4)).sub (nat_lit 1)).blt (nat_lit 9223372036854775808)) (cnd ((((N.add (nat_lit 4)).sub (nat_lit 1)).div (nat_lit 4)).blt (nat_lit 9223372036854775808)) (KV.int IntKind.i64 (Int.ofNat (((N.add (nat_lit 4)).sub (nat_lit 1)).div (nat_lit 4))) = v))) := by kernel_rfl
theorem P279 : ∃ fn, Tryz.prog.funcs[279]? = some fn ∧ (fn.name == "runtime.NumGoroutine") = false ∧ fn.body.isNone = false := ⟨Tryz.f279, Tryz.func279, (fnsL.get Tryz.func279).1, by kernel_rfl⟩
theorem kcs279 : @KCS gO Tryz.prog 279 s279 := by
  refine @kcsQ gO EO0 okO0 279 s279 P279 fun l K hs => ?_
  obtain ⟨x, rfl, h1⟩ := la1_s hs
  obtain ⟨n, rfl, h2, h3⟩ := natK_s h1
  refine ⟨100, _, _, h3, rfl, fun _ _ h => h, ?_⟩
  show run279 n (.int .i64 (.ofNat (C.ab n)))
  rw [run279_eq]
  simp only [cnd_iff, Nat.blt_eq]
  refine ⟨by show n + 4 < _; omega, by show n + 4 - 1 < _; omega, by show (n + 4 - 1) / 4 < _; omega, ?_⟩
  show KV.int .i64 (Int.ofNat ((n + 4 - 1) / 4)) = KV.int .i64 (Int.ofNat ((n + 3) / 4))
  rw [show n + 4 - 1 = n + 3 by omega]
def ctO1 : FuncId → Option KSpec := fun f => @Bool.rec (fun _ => Option KSpec) none (some s279) (Nat.beq f 279)
theorem ctO1_s (f : FuncId) (s : KSpec) (h : ctO1 f = some s) : @KCS gO Tryz.prog f s := by
  unfold ctO1 at h
  cases h1 : Nat.beq f 279 with
  | true => rw [h1] at h; cases h; rw [beqE h1]; exact kcs279
  | false => rw [h1] at h; cases h
def EO1 : KEnv := { EO0 with ct := ctO1 }
theorem okO1 : @KOk gO EO1 := @KOk.mk gO EO1 fnsL ctO1_s gnL mixL (fun _ h => (by cases h))
/-- A disk on which nothing was written. -/
def dkR : KV := .cons (.int .i64 (.ofNat 0)) (.cons (.ro true true .sc 0 1 (.ar 1 .nilp (.tn (.ref true (.arr 64 .sc) (.ar 64 .nilp .te)) .te .te .te .te))) .nl)
def dk (k : Nat) : KV := .cons (.int .i64 (.ofNat k)) dkR
def C.cnt (n : Nat) : Nat → Nat
  | 0 => C.ab n
  | l + 1 => C.ab (C.cnt n l)
def C.no1 (n l : Nat) : Prop := ∀ j, j < l → C.cnt n j ≠ 1
end
end Go.K
set_option linter.unusedVariables false
set_option linter.unusedSimpArgs false
namespace Go.K
open Go.Ab Go.RowKit Go.Y Go.Proofs
noncomputable section
attribute [local irreducible] krun callR
theorem eqI_nat (a b : Nat) : eqI (Int.ofNat a) (Int.ofNat b) = Nat.beq a b := rfl
theorem ltI_nat (a b : Nat) : ltI (Int.ofNat a) (Int.ofNat b) = Nat.blt a b := rfl
theorem beqT (a b : Nat) : (Nat.beq a b = true) ↔ a = b := by rw [Nat.beq_eq]
theorem beqF (a b : Nat) : (Nat.beq a b = false) ↔ ¬ a = b := by rw [← Bool.not_eq_true, Nat.beq_eq]
theorem bltT (a b : Nat) : (Nat.blt a b = true) ↔ a < b := by rw [Nat.blt_eq]
theorem bltF (a b : Nat) : (Nat.blt a b = false) ↔ ¬ a < b := by rw [← Bool.not_eq_true, Nat.blt_eq]
theorem notT (b : Bool) : ((!b) = true) ↔ b = false := by cases b <;> simp
theorem notF (b : Bool) : ((!b) = false) ↔ b = true := by cases b <;> simp
theorem ltI_neg (a b : Nat) : ltI (Int.negSucc a) (Int.ofNat b) = true := by
  rfl
theorem ab_s (n : Nat) : 4 * C.ab n ≤ n + 3 ∧ n ≤ 4 * C.ab n := by unfold C.ab; omega
/-- The sectors of a number of blocks. -/
def C.sl : Nat → Nat → Nat
  | 0, c => 2 * c
  | f + 1, c => 2 * c + if c = 1 then 0 else C.sl f (C.ab c)
def C.sec (n : Nat) : Nat := 2 * n + C.sl 5 (C.ab n)
theorem sl_0 (c : Nat) : C.sl 0 c = 2 * c := rfl
theorem sl_1 {f c : Nat} (h : c = 1) : C.sl (f + 1) c = 2 * c := by show 2 * c + (if c = 1 then 0 else _) = _; rw [if_pos h]; rfl
theorem sl_n {f c : Nat} (h : ¬ c = 1) : C.sl (f + 1) c = 2 * c + C.sl f (C.ab c) := by show 2 * c + (if c = 1 then 0 else _) = _; rw [if_neg h]
theorem sl_1' (f c : Nat) : c = 1 → C.sl (f + 1) c = 2 * c := sl_1
theorem sl_n' (f c : Nat) : ¬ c = 1 → C.sl (f + 1) c = 2 * c + C.sl f (C.ab c) := sl_n
theorem tup2_eq {a b : Nat} (h : a = b) (e : KV) : (KV.tup (.cons (.int .i64 (.ofNat a)) (.cons e .nl))) = .tup (.cons (.int .i64 (.ofNat b)) (.cons e .nl)) := by rw [h]
theorem int_eq {a b : Nat} (h : a = b) : KV.int .i64 (.ofNat a) = .int .i64 (.ofNat b) := by rw [h]
def run89 (N : Nat) (v : KV) : Prop := @callR gO EO1 (@krun gO EO1 28) 0 89 [.int .i64 (.ofNat N)] .e 0 0 fun r _ _ _ => r = v
def run89m (N : Nat) (v : KV) : Prop := @callR gO EO1 (@krun gO EO1 28) 0 89 [.int .i64 (.negSucc N)] .e 0 0 fun r _ _ _ => r = v
set_option maxRecDepth 100000 in
theorem run89_eq (N : Nat) (v : KV) : run89 N v = (alt (ltI (Int.ofNat N) (Int.ofNat 1)) (((KV.int IntKind.i64 (Int.ofNat 0)).cons ((KV.int IntKind.i64 (Int.ofNat 1)).cons KV.nl)).tup = v) (alt (ltI (Int.ofNat 4096) (Int.ofNat N)) (((KV.int IntKind.i64 (Int.ofNat 0)).cons ((KV.int IntKind.i64 (Int.ofNat 1)).cons KV.nl)).tup = v) (N ≤ 4294967296 ∧ alt (eqI (Int.ofNat (C.ab N)) (Int.ofNat 1)) (cnd ((Nat.mul 2 N).blt 9223372036854775808) (cnd ((Nat.mul 2 (C.ab N)).blt 9223372036854775808) (cnd (((Nat.mul 2 N).add (Nat.mul 2 (C.ab N))).blt 9223372036854775808) (((KV.int IntKind.i64 (Int.ofNat ((Nat.mul 2 N).add (Nat.mul 2 (C.ab N))))).cons ((KV.int IntKind.i64 (Int.ofNat 0)).cons KV.nl)).tup = v)))) (C.ab N ≤ 4294967296 ∧ alt (eqI (Int.ofNat (C.ab (C.ab N))) (Int.ofNat 1)) (cnd ((Nat.mul 2 N).blt 9223372036854775808) (cnd ((Nat.mul 2 (C.ab N)).blt 9223372036854775808) (cnd (((Nat.mul 2 N).add (Nat.mul 2 (C.ab N))).blt 9223372036854775808) (cnd ((Nat.mul 2 (C.ab (C.ab N))).blt 9223372036854775808) (cnd ((((Nat.mul 2 N).add (Nat.mul 2 (C.ab N))).add (Nat.mul 2 (C.ab (C.ab N)))).blt 9223372036854775808) (((KV.int IntKind.i64 (Int.ofNat (((Nat.mul 2 N).add (Nat.mul 2 (C.ab N))).add (Nat.mul 2 (C.ab (C.ab N)))))).cons ((KV.int IntKind.i64 (Int.ofNat 0)).cons KV.nl)).tup = v)))))) (C.ab (C.ab N) ≤ 4294967296 ∧ alt (eqI (Int.ofNat (C.ab (C.ab (C.ab N)))) (Int.ofNat 1)) (cnd ((Nat.mul 2 N).blt 9223372036854775808) (cnd ((Nat.mul 2 (C.ab N)).blt 9223372036854775808) (cnd (((Nat.mul 2 N).add (Nat.mul 2 (C.ab N))).blt 9223372036854775808) (cnd ((Nat.mul 2 (C.ab (C.ab N))).blt 9223372036854775808) (cnd ((((Nat.mul 2 N).add (Nat.mul 2 (C.ab N))).add (Nat.mul 2 (C.ab (C.ab N)))).blt 9223372036854775808) (cnd ((Nat.mul 2 (C.ab (C.ab (C.ab N)))).blt 9223372036854775808) (cnd (((((Nat.mul 2 N).add (Nat.mul 2 (C.ab N))).add (Nat.mul 2 (C.ab (C.ab N)))).add (Nat.mul 2 (C.ab (C.ab (C.ab N))))).blt 9223372036854775808) (((KV.int IntKind.i64 (Int.ofNat ((((Nat.mul 2 N).add (Nat.mul 2 (C.ab N))).add (Nat.mul 2 (C.ab (C.ab N)))).add (Nat.mul 2 (C.ab (C.ab (C.ab N))))))).cons ((KV.int IntKind.i64 (Int.ofNat 0)).cons KV.nl)).tup = v)))))))) (C.ab (C.ab (C.ab N)) ≤ 4294967296 ∧ alt (eqI (Int.ofNat (C.ab (C.ab (C.ab (C.ab N))))) (Int.ofNat 1)) (cnd ((Nat.mul 2 N).blt 9223372036854775808) (cnd ((Nat.mul 2 (C.ab N)).blt 9223372036854775808) (cnd (((Nat.mul 2 N).add (Nat.mul 2 (C.ab N))).blt 9223372036854775808) (cnd ((Nat.mul 2 (C.ab (C.ab N))).blt 9223372036854775808) (cnd ((((Nat.mul 2 N).add (Nat.mul 2 (C.ab N))).add (Nat.mul 2 (C.ab (C.ab N)))).blt 9223372036854775808) (cnd ((Nat.mul 2 (C.ab (C.ab (C.ab N)))).blt 9223372036854775808) (cnd (((((Nat.mul 2 N).add (Nat.mul 2 (C.ab N))).add (Nat.mul 2 (C.ab (C.ab N)))).add (Nat.mul 2 (C.ab (C.ab (C.ab N))))).blt 9223372036854775808) (cnd ((Nat.mul 2 (C.ab (C.ab (C.ab (C.ab N))))).blt 9223372036854775808) (cnd ((((((Nat.mul 2 N).add (Nat.mul 2 (C.ab N))).add (Nat.mul 2 (C.ab (C.ab N)))).add (Nat.mul 2 (C.ab (C.ab (C.ab N))))).add (Nat.mul 2 (C.ab (C.ab (C.ab (C.ab N)))))).blt 9223372036854775808) (((KV.int IntKind.i64 (Int.ofNat (((((Nat.mul 2 N).add (Nat.mul 2 (C.ab N))).add (Nat.mul 2 (C.ab (C.ab N)))).add (Nat.mul 2 (C.ab (C.ab (C.ab N))))).add (Nat.mul 2 (C.ab (C.ab (C.ab (C.ab N)))))))).cons ((KV.int IntKind.i64 (Int.ofNat 0)).cons KV.nl)).tup = v)))))))))) (C.ab (C.ab (C.ab (C.ab N))) ≤ 4294967296 ∧ alt (eqI (Int.ofNat (C.ab (C.ab (C.ab (C.ab (C.ab N)))))) (Int.ofNat 1)) (cnd ((Nat.mul 2 N).blt 9223372036854775808) (cnd ((Nat.mul 2 (C.ab N)).blt 9223372036854775808) (cnd (((Nat.mul 2 N).add (Nat.mul 2 (C.ab N))).blt 9223372036854775808) (cnd ((Nat.mul 2 (C.ab (C.ab N))).blt 9223372036854775808) (cnd ((((Nat.mul 2 N).add (Nat.mul 2 (C.ab N))).add (Nat.mul 2 (C.ab (C.ab N)))).blt 9223372036854775808) (cnd ((Nat.mul 2 (C.ab (C.ab (C.ab N)))).blt 9223372036854775808) (cnd (((((Nat.mul 2 N).add (Nat.mul 2 (C.ab N))).add (Nat.mul 2 (C.ab (C.ab N)))).add (Nat.mul 2 (C.ab (C.ab (C.ab N))))).blt 9223372036854775808) (cnd ((Nat.mul 2 (C.ab (C.ab (C.ab (C.ab N))))).blt 9223372036854775808) (cnd ((((((Nat.mul 2 N).add (Nat.mul 2 (C.ab N))).add (Nat.mul 2 (C.ab (C.ab N)))).add (Nat.mul 2 (C.ab (C.ab (C.ab N))))).add (Nat.mul 2 (C.ab (C.ab (C.ab (C.ab N)))))).blt 9223372036854775808) (cnd ((Nat.mul 2 (C.ab (C.ab (C.ab (C.ab (C.ab N)))))).blt 9223372036854775808) (cnd (((((((Nat.mul 2 N).add (Nat.mul 2 (C.ab N))).add (Nat.mul 2 (C.ab (C.ab N)))).add (Nat.mul 2 (C.ab (C.ab (C.ab N))))).add (Nat.mul 2 (C.ab (C.ab (C.ab (C.ab N)))))).add (Nat.mul 2 (C.ab (C.ab (C.ab (C.ab (C.ab N))))))).blt 9223372036854775808) (((KV.int IntKind.i64 (Int.ofNat ((((((Nat.mul 2 N).add (Nat.mul 2 (C.ab N))).add (Nat.mul 2 (C.ab (C.ab N)))).add (Nat.mul 2 (C.ab (C.ab (C.ab N))))).add (Nat.mul 2 (C.ab (C.ab (C.ab (C.ab N)))))).add (Nat.mul 2 (C.ab (C.ab (C.ab (C.ab (C.ab N))))))))).cons ((KV.int IntKind.i64 (Int.ofNat 0)).cons KV.nl)).tup = v)))))))))))) (C.ab (C.ab (C.ab (C.ab (C.ab N)))) ≤ 4294967296 ∧ alt (eqI (Int.ofNat (C.ab (C.ab (C.ab (C.ab (C.ab (C.ab N))))))) (Int.ofNat 1)) (cnd ((Nat.mul 2 N).blt 9223372036854775808) (cnd ((Nat.mul 2 (C.ab N)).blt 9223372036854775808) (cnd (((Nat.mul 2 N).add (Nat.mul 2 (C.ab N))).blt 9223372036854775808) (cnd ((Nat.mul 2 (C.ab (C.ab N))).blt 9223372036854775808) (cnd ((((Nat.mul 2 N).add (Nat.mul 2 (C.ab N))).add (Nat.mul 2 (C.ab (C.ab N)))).blt 9223372036854775808) (cnd ((Nat.mul 2 (C.ab (C.ab (C.ab N)))).blt 9223372036854775808) (cnd (((((Nat.mul 2 N).add (Nat.mul 2 (C.ab N))).add (Nat.mul 2 (C.ab (C.ab N)))).add (Nat.mul 2 (C.ab (C.ab (C.ab N))))).blt 9223372036854775808) (cnd ((Nat.mul 2 (C.ab (C.ab (C.ab (C.ab N))))).blt 9223372036854775808) (cnd ((((((Nat.mul 2 N).add (Nat.mul 2 (C.ab N))).add (Nat.mul 2 (C.ab (C.ab N)))).add (Nat.mul 2 (C.ab (C.ab (C.ab N))))).add (Nat.mul 2 (C.ab (C.ab (C.ab (C.ab N)))))).blt 9223372036854775808) (cnd ((Nat.mul 2 (C.ab (C.ab (C.ab (C.ab (C.ab N)))))).blt 9223372036854775808) (cnd (((((((Nat.mul 2 N).add (Nat.mul 2 (C.ab N))).add (Nat.mul 2 (C.ab (C.ab N)))).add (Nat.mul 2 (C.ab (C.ab (C.ab N))))).add (Nat.mul 2 (C.ab (C.ab (C.ab (C.ab N)))))).add (Nat.mul 2 (C.ab (C.ab (C.ab (C.ab (C.ab N))))))).blt 9223372036854775808) (cnd ((Nat.mul 2 (C.ab (C.ab (C.ab (C.ab (C.ab (C.ab N))))))).blt 9223372036854775808) (cnd ((((((((Nat.mul 2 N).add (Nat.mul 2 (C.ab N))).add (Nat.mul 2 (C.ab (C.ab N)))).add (Nat.mul 2 (C.ab (C.ab (C.ab N))))).add (Nat.mul 2 (C.ab (C.ab (C.ab (C.ab N)))))).add (Nat.mul 2 (C.ab (C.ab (C.ab (C.ab (C.ab N))))))).add (Nat.mul 2 (C.ab (C.ab (C.ab (C.ab (C.ab (C.ab N)))))))).blt 9223372036854775808) (((KV.int IntKind.i64 (Int.ofNat (((((((Nat.mul 2 N).add (Nat.mul 2 (C.ab N))).add (Nat.mul 2 (C.ab (C.ab N)))).add (Nat.mul 2 (C.ab (C.ab (C.ab N))))).add (Nat.mul 2 (C.ab (C.ab (C.ab (C.ab N)))))).add (Nat.mul 2 (C.ab (C.ab (C.ab (C.ab (C.ab N))))))).add (Nat.mul 2 (C.ab (C.ab (C.ab (C.ab (C.ab (C.ab N)))))))))).cons ((KV.int IntKind.i64 (Int.ofNat 0)).cons KV.nl)).tup = v)))))))))))))) (C.ab (C.ab (C.ab (C.ab (C.ab (C.ab N))))) ≤ 4294967296 ∧ alt (eqI (Int.ofNat (C.ab (C.ab (C.ab (C.ab (C.ab (C.ab (C.ab N)))))))) (Int.ofNat 1)) (cnd ((Nat.mul 2 N).blt 9223372036854775808) (cnd ((Nat.mul 2 (C.ab N)).blt 9223372036854775808) (cnd (((Nat.mul 2 N).add (Nat.mul 2 (C.ab N))).blt 9223372036854775808) (cnd ((Nat.mul 2 (C.ab (C.ab N))).blt 9223372036854775808) (cnd ((((Nat.mul 2 N).add (Nat.mul 2 (C.ab N))).add (Nat.mul 2 (C.ab (C.ab N)))).blt 9223372036854775808) (cnd ((Nat.mul 2 (C.ab (C.ab (C.ab N)))).blt 9223372036854775808) (cnd (((((Nat.mul 2 N).add (Nat.mul 2 (C.ab N))).add (Nat.mul 2 (C.ab (C.ab N)))).add (Nat.mul 2 (C.ab (C.ab (C.ab N))))).blt 9223372036854775808) (cnd ((Nat.mul 2 (C.ab (C.ab (C.ab (C.ab N))))).blt 9223372036854775808) (cnd ((((((Nat.mul 2 N).add (Nat.mul 2 (C.ab N))).add (Nat.mul 2 (C.ab (C.ab N)))).add (Nat.mul 2 (C.ab (C.ab (C.ab N))))).add (Nat.mul 2 (C.ab (C.ab (C.ab (C.ab N)))))).blt 9223372036854775808) (cnd ((Nat.mul 2 (C.ab (C.ab (C.ab (C.ab (C.ab N)))))).blt 9223372036854775808) (cnd (((((((Nat.mul 2 N).add (Nat.mul 2 (C.ab N))).add (Nat.mul 2 (C.ab (C.ab N)))).add (Nat.mul 2 (C.ab (C.ab (C.ab N))))).add (Nat.mul 2 (C.ab (C.ab (C.ab (C.ab N)))))).add (Nat.mul 2 (C.ab (C.ab (C.ab (C.ab (C.ab N))))))).blt 9223372036854775808) (cnd ((Nat.mul 2 (C.ab (C.ab (C.ab (C.ab (C.ab (C.ab N))))))).blt 9223372036854775808) (cnd ((((((((Nat.mul 2 N).add (Nat.mul 2 (C.ab N))).add (Nat.mul 2 (C.ab (C.ab N)))).add (Nat.mul 2 (C.ab (C.ab (C.ab N))))).add (Nat.mul 2 (C.ab (C.ab (C.ab (C.ab N)))))).add (Nat.mul 2 (C.ab (C.ab (C.ab (C.ab (C.ab N))))))).add (Nat.mul 2 (C.ab (C.ab (C.ab (C.ab (C.ab (C.ab N)))))))).blt 9223372036854775808) (cnd ((Nat.mul 2 (C.ab (C.ab (C.ab (C.ab (C.ab (C.ab (C.ab N)))))))).blt 9223372036854775808) (cnd (((((((((Nat.mul 2 N).add (Nat.mul 2 (C.ab N))).add (Nat.mul 2 (C.ab (C.ab N)))).add (Nat.mul 2 (C.ab (C.ab (C.ab N))))).add (Nat.mul 2 (C.ab (C.ab (C.ab (C.ab N)))))).add (Nat.mul 2 (C.ab (C.ab (C.ab (C.ab (C.ab N))))))).add (Nat.mul 2 (C.ab (C.ab (C.ab (C.ab (C.ab (C.ab N)))))))).add (Nat.mul 2 (C.ab (C.ab (C.ab (C.ab (C.ab (C.ab (C.ab N))))))))).blt 9223372036854775808) (((KV.int IntKind.i64 (Int.ofNat ((((((((Nat.mul 2 N).add (Nat.mul 2 (C.ab N))).add (Nat.mul 2 (C.ab (C.ab N)))).add (Nat.mul 2 (C.ab (C.ab (C.ab N))))).add (Nat.mul 2 (C.ab (C.ab (C.ab (C.ab N)))))).add (Nat.mul 2 (C.ab (C.ab (C.ab (C.ab (C.ab N))))))).add (Nat.mul 2 (C.ab (C.ab (C.ab (C.ab (C.ab (C.ab N)))))))).add (Nat.mul 2 (C.ab (C.ab (C.ab (C.ab (C.ab (C.ab (C.ab N))))))))))).cons ((KV.int IntKind.i64 (Int.ofNat 0)).cons KV.nl)).tup = v)))))))))))))))) (C.ab (C.ab (C.ab (C.ab (C.ab (C.ab (C.ab N)))))) ≤ 4294967296 ∧ alt (eqI (Int.ofNat (C.ab (C.ab (C.ab (C.ab (C.ab (C.ab (C.ab (C.ab N))))))))) (Int.ofNat 1)) (cnd ((Nat.mul 2 N).blt 9223372036854775808) (cnd ((Nat.mul 2 (C.ab N)).blt 9223372036854775808) (cnd (((Nat.mul 2 N).add (Nat.mul 2 (C.ab N))).blt 9223372036854775808) (cnd ((Nat.mul 2 (C.ab (C.ab N))).blt 9223372036854775808) (cnd ((((Nat.mul 2 N).add (Nat.mul 2 (C.ab N))).add (Nat.mul 2 (C.ab (C.ab N)))).blt 9223372036854775808) (cnd ((Nat.mul 2 (C.ab (C.ab (C.ab N)))).blt 9223372036854775808) (cnd (((((Nat.mul 2 N).add (Nat.mul 2 (C.ab N))).add (Nat.mul 2 (C.ab (C.ab N)))).add (Nat.mul 2 (C.ab (C.ab (C.ab N))))).blt 9223372036854775808) (cnd ((Nat.mul 2 (C.ab (C.ab (C.ab (C.ab N))))).blt 9223372036854775808) (cnd ((((((Nat.mul 2 N).add (Nat.mul 2 (C.ab N))).add (Nat.mul 2 (C.ab (C.ab N)))).add (Nat.mul 2 (C.ab (C.ab (C.ab N))))).add (Nat.mul 2 (C.ab (C.ab (C.ab (C.ab N)))))).blt 9223372036854775808) (cnd ((Nat.mul 2 (C.ab (C.ab (C.ab (C.ab (C.ab N)))))).blt 9223372036854775808) (cnd (((((((Nat.mul 2 N).add (Nat.mul 2 (C.ab N))).add (Nat.mul 2 (C.ab (C.ab N)))).add (Nat.mul 2 (C.ab (C.ab (C.ab N))))).add (Nat.mul 2 (C.ab (C.ab (C.ab (C.ab N)))))).add (Nat.mul 2 (C.ab (C.ab (C.ab (C.ab (C.ab N))))))).blt 9223372036854775808) (cnd ((Nat.mul 2 (C.ab (C.ab (C.ab (C.ab (C.ab (C.ab N))))))).blt 9223372036854775808) (cnd ((((((((Nat.mul 2 N).add (Nat.mul 2 (C.ab N))).add (Nat.mul 2 (C.ab (C.ab N)))).add (Nat.mul 2 (C.ab (C.ab (C.ab N))))).add (Nat.mul 2 (C.ab (C.ab (C.ab (C.ab N)))))).add (Nat.mul 2 (C.ab (C.ab (C.ab (C.ab (C.ab N))))))).add (Nat.mul 2 (C.ab (C.ab (C.ab (C.ab (C.ab (C.ab N)))))))).blt 9223372036854775808) (cnd ((Nat.mul 2 (C.ab (C.ab (C.ab (C.ab (C.ab (C.ab (C.ab N)))))))).blt 9223372036854775808) (cnd (((((((((Nat.mul 2 N).add (Nat.mul 2 (C.ab N))).add (Nat.mul 2 (C.ab (C.ab N)))).add (Nat.mul 2 (C.ab (C.ab (C.ab N))))).add (Nat.mul 2 (C.ab (C.ab (C.ab (C.ab N)))))).add (Nat.mul 2 (C.ab (C.ab (C.ab (C.ab (C.ab N))))))).add (Nat.mul 2 (C.ab (C.ab (C.ab (C.ab (C.ab (C.ab N)))))))).add (Nat.mul 2 (C.ab (C.ab (C.ab (C.ab (C.ab (C.ab (C.ab N))))))))).blt 9223372036854775808) (cnd ((Nat.mul 2 (C.ab (C.ab (C.ab (C.ab (C.ab (C.ab (C.ab (C.ab N))))))))).blt 9223372036854775808) (cnd ((((((((((Nat.mul 2 N).add (Nat.mul 2 (C.ab N))).add (Nat.mul 2 (C.ab (C.ab N)))).add (Nat.mul 2 (C.ab (C.ab (C.ab N))))).add (Nat.mul 2 (C.ab (C.ab (C.ab (C.ab N)))))).add (Nat.mul 2 (C.ab (C.ab (C.ab (C.ab (C.ab N))))))).add (Nat.mul 2 (C.ab (C.ab (C.ab (C.ab (C.ab (C.ab N)))))))).add (Nat.mul 2 (C.ab (C.ab (C.ab (C.ab (C.ab (C.ab (C.ab N))))))))).add (Nat.mul 2 (C.ab (C.ab (C.ab (C.ab (C.ab (C.ab (C.ab (C.ab N)))))))))).blt 9223372036854775808) (((KV.int IntKind.i64 (Int.ofNat (((((((((Nat.mul 2 N).add (Nat.mul 2 (C.ab N))).add (Nat.mul 2 (C.ab (C.ab N)))).add (Nat.mul 2 (C.ab (C.ab (C.ab N))))).add (Nat.mul 2 (C.ab (C.ab (C.ab (C.ab N)))))).add (Nat.mul 2 (C.ab (C.ab (C.ab (C.ab (C.ab N))))))).add (Nat.mul 2 (C.ab (C.ab (C.ab (C.ab (C.ab (C.ab N)))))))).add (Nat.mul 2 (C.ab (C.ab (C.ab (C.ab (C.ab (C.ab (C.ab N))))))))).add (Nat.mul 2 (C.ab (C.ab (C.ab (C.ab (C.ab (C.ab (C.ab (C.ab N)))))))))))).cons ((KV.int IntKind.i64 (Int.ofNat 0)).cons KV.nl)).tup = v)))))))))))))))))) (C.ab (C.ab (C.ab (C.ab (C.ab (C.ab (C.ab (C.ab N))))))) ≤ 4294967296 ∧ alt (eqI (Int.ofNat (C.ab (C.ab (C.ab (C.ab (C.ab (C.ab (C.ab (C.ab (C.ab N)))))))))) (Int.ofNat 1)) (cnd ((Nat.mul 2 N).blt 9223372036854775808) (cnd ((Nat.mul 2 (C.ab N)).blt 9223372036854775808) (cnd (((Nat.mul 2 N).add (Nat.mul 2 (C.ab N))).blt 9223372036854775808) (cnd ((Nat.mul 2 (C.ab (C.ab N))).blt 9223372036854775808) (cnd ((((Nat.mul 2 N).add (Nat.mul 2 (C.ab N))).add (Nat.mul 2 (C.ab (C.ab N)))).blt 9223372036854775808) (cnd ((Nat.mul 2 (C.ab (C.ab (C.ab N)))).blt 9223372036854775808) (cnd (((((Nat.mul 2 N).add (Nat.mul 2 (C.ab N))).add (Nat.mul 2 (C.ab (C.ab N)))).add (Nat.mul 2 (C.ab (C.ab (C.ab N))))).blt 9223372036854775808) (cnd ((Nat.mul 2 (C.ab (C.ab (C.ab (C.ab N))))).blt 9223372036854775808) (cnd ((((((Nat.mul 2 N).add (Nat.mul 2 (C.ab N))).add (Nat.mul 2 (C.ab (C.ab N)))).add (Nat.mul 2 (C.ab (C.ab (C.ab N))))).add (Nat.mul 2 (C.ab (C.ab (C.ab (C.ab N)))))).blt 9223372036854775808) (cnd ((Nat.mul 2 (C.ab (C.ab (C.ab (C.ab (C.ab N)))))).blt 9223372036854775808) (cnd (((((((Nat.mul 2 N).add (Nat.mul 2 (C.ab N))).add (Nat.mul 2 (C.ab (C.ab N)))).add (Nat.mul 2 (C.ab (C.ab (C.ab N))))).add (Nat.mul 2 (C.ab (C.ab (C.ab (C.ab N)))))).add (Nat.mul 2 (C.ab (C.ab (C.ab (C.ab (C.ab N))))))).blt 9223372036854775808) (cnd ((Nat.mul 2 (C.ab (C.ab (C.ab (C.ab (C.ab (C.ab N))))))).blt 9223372036854775808) (cnd ((((((((Nat.mul 2 N).add (Nat.mul 2 (C.ab N))).add (Nat.mul 2 (C.ab (C.ab N)))).add (Nat.mul 2 (C.ab (C.ab (C.ab N))))).add (Nat.mul 2 (C.ab (C.ab (C.ab (C.ab N)))))).add (Nat.mul 2 (C.ab (C.ab (C.ab (C.ab (C.ab N))))))).add (Nat.mul 2 (C.ab (C.ab (C.ab (C.ab (C.ab (C.ab N)))))))).blt 9223372036854775808) (cnd ((Nat.mul 2 (C.ab (C.ab (C.ab (C.ab (C.ab (C.ab (C.ab N)))))))).blt 9223372036854775808) (cnd (((((((((Nat.mul 2 N).add (Nat.mul 2 (C.ab N))).add (Nat.mul 2 (C.ab (C.ab N)))).add (Nat.mul 2 (C.ab (C.ab (C.ab N))))).add (Nat.mul 2 (C.ab (C.ab (C.ab (C.ab N)))))).add (Nat.mul 2 (C.ab (C.ab (C.ab (C.ab (C.ab N))))))).add (Nat.mul 2 (C.ab (C.ab (C.ab (C.ab (C.ab (C.ab N)))))))).add (Nat.mul 2 (C.ab (C.ab (C.ab (C.ab (C.ab (C.ab (C.ab N))))))))).blt 9223372036854775808) (cnd ((Nat.mul 2 (C.ab (C.ab (C.ab (C.ab (C.ab (C.ab (C.ab (C.ab N))))))))).blt 9223372036854775808) (cnd ((((((((((Nat.mul 2 N).add (Nat.mul 2 (C.ab N))).add (Nat.mul 2 (C.ab (C.ab N)))).add (Nat.mul 2 (C.ab (C.ab (C.ab N))))).add (Nat.mul 2 (C.ab (C.ab (C.ab (C.ab N)))))).add (Nat.mul 2 (C.ab (C.ab (C.ab (C.ab (C.ab N))))))).add (Nat.mul 2 (C.ab (C.ab (C.ab (C.ab (C.ab (C.ab N)))))))).add (Nat.mul 2 (C.ab (C.ab (C.ab (C.ab (C.ab (C.ab (C.ab N))))))))).add (Nat.mul 2 (C.ab (C.ab (C.ab (C.ab (C.ab (C.ab (C.ab (C.ab N)))))))))).blt 9223372036854775808) (cnd ((Nat.mul 2 (C.ab (C.ab (C.ab (C.ab (C.ab (C.ab (C.ab (C.ab (C.ab N)))))))))).blt 9223372036854775808) (cnd (((((((((((Nat.mul 2 N).add (Nat.mul 2 (C.ab N))).add (Nat.mul 2 (C.ab (C.ab N)))).add (Nat.mul 2 (C.ab (C.ab (C.ab N))))).add (Nat.mul 2 (C.ab (C.ab (C.ab (C.ab N)))))).add (Nat.mul 2 (C.ab (C.ab (C.ab (C.ab (C.ab N))))))).add (Nat.mul 2 (C.ab (C.ab (C.ab (C.ab (C.ab (C.ab N)))))))).add (Nat.mul 2 (C.ab (C.ab (C.ab (C.ab (C.ab (C.ab (C.ab N))))))))).add (Nat.mul 2 (C.ab (C.ab (C.ab (C.ab (C.ab (C.ab (C.ab (C.ab N)))))))))).add (Nat.mul 2 (C.ab (C.ab (C.ab (C.ab (C.ab (C.ab (C.ab (C.ab (C.ab N))))))))))).blt 9223372036854775808) (((KV.int IntKind.i64 (Int.ofNat ((((((((((Nat.mul 2 N).add (Nat.mul 2 (C.ab N))).add (Nat.mul 2 (C.ab (C.ab N)))).add (Nat.mul 2 (C.ab (C.ab (C.ab N))))).add (Nat.mul 2 (C.ab (C.ab (C.ab (C.ab N)))))).add (Nat.mul 2 (C.ab (C.ab (C.ab (C.ab (C.ab N))))))).add (Nat.mul 2 (C.ab (C.ab (C.ab (C.ab (C.ab (C.ab N)))))))).add (Nat.mul 2 (C.ab (C.ab (C.ab (C.ab (C.ab (C.ab (C.ab N))))))))).add (Nat.mul 2 (C.ab (C.ab (C.ab (C.ab (C.ab (C.ab (C.ab (C.ab N)))))))))).add (Nat.mul 2 (C.ab (C.ab (C.ab (C.ab (C.ab (C.ab (C.ab (C.ab (C.ab N))))))))))))).cons ((KV.int IntKind.i64 (Int.ofNat 0)).cons KV.nl)).tup = v)))))))))))))))))))) (C.ab (C.ab (C.ab (C.ab (C.ab (C.ab (C.ab (C.ab (C.ab N)))))))) ≤ 4294967296 ∧ alt (eqI (Int.ofNat (C.ab (C.ab (C.ab (C.ab (C.ab (C.ab (C.ab (C.ab (C.ab (C.ab N))))))))))) (Int.ofNat 1)) (BadN (15 : Nat)) (C.ab (C.ab (C.ab (C.ab (C.ab (C.ab (C.ab (C.ab (C.ab (C.ab N))))))))) ≤ 4294967296 ∧ alt (eqI (Int.ofNat (C.ab (C.ab (C.ab (C.ab (C.ab (C.ab (C.ab (C.ab (C.ab (C.ab (C.ab N)))))))))))) (Int.ofNat 1)) (BadN (15 : Nat)) (BadN (15 : Nat))))))))))))))) := by kernel_rfl
theorem run89m_eq (N : Nat) (v : KV) : run89m N v = (((KV.int IntKind.i64 (Int.ofNat 0)).cons ((KV.int IntKind.i64 (Int.ofNat 1)).cons KV.nl)).tup = v) := by kernel_rfl
set_option maxRecDepth 100000 in
theorem run89_g {N : Nat} (h1 : 1 ≤ N) (h2 : N ≤ 4096) : run89 N (.tup (.cons (.int .i64 (.ofNat (C.sec N))) (.cons (.int .i64 (.ofNat 0)) .nl))) := by
  rw [run89_eq]
  have hs : C.sec N = 2 * N + C.sl 5 (C.ab N) := rfl
  have a1 := ab_s N
  have p1 := sl_1' 4 (C.ab N)
  have q1 := sl_n' 4 (C.ab N)
  generalize C.ab N = c1 at *
  have a2 := ab_s c1
  have p2 := sl_1' 3 (C.ab c1)
  have q2 := sl_n' 3 (C.ab c1)
  generalize C.ab c1 = c2 at *
  have a3 := ab_s c2
  have p3 := sl_1' 2 (C.ab c2)
  have q3 := sl_n' 2 (C.ab c2)
  generalize C.ab c2 = c3 at *
  have a4 := ab_s c3
  have p4 := sl_1' 1 (C.ab c3)
  have q4 := sl_n' 1 (C.ab c3)
  generalize C.ab c3 = c4 at *
  have a5 := ab_s c4
  have p5 := sl_1' 0 (C.ab c4)
  have q5 := sl_n' 0 (C.ab c4)
  generalize C.ab c4 = c5 at *
  have a6 := ab_s c5
  have p6 := sl_0 (C.ab c5)
  generalize C.ab c5 = c6 at *
  generalize C.sec N = sN at *
  simp only [Nat.zero_add] at p1 q1 p2 q2 p3 q3 p4 q4 p5 q5
  generalize C.sl 5 c1 = s1 at *
  generalize C.sl 4 c2 = s2 at *
  generalize C.sl 3 c3 = s3 at *
  generalize C.sl 2 c4 = s34 at *
  generalize C.sl 1 c5 = s5 at *
  generalize C.sl 0 c6 = s6 at *
  simp only [alt_iff, cnd_iff, eqI_nat, ltI_nat, beqT, beqF, bltT, bltF, notT, notF, Nat.add_eq, Nat.mul_eq]
  repeat' first | apply And.intro | intro _
  all_goals first | omega | (exfalso; omega) | (apply tup2_eq; omega)
theorem run89_b {N : Nat} (h1 : N < 1 ∨ 4096 < N) : run89 N (.tup (.cons (.int .i64 (.ofNat 0)) (.cons (.int .i64 (.ofNat 1)) .nl))) := by
  rw [run89_eq]
  refine alt_iff.2 ⟨fun _ => rfl, fun h3 => alt_iff.2 ⟨fun _ => rfl, fun h4 => ?_⟩⟩
  rw [ltI_nat, bltF] at h3 h4
  omega
theorem run89_m (N : Nat) : run89m N (.tup (.cons (.int .i64 (.ofNat 0)) (.cons (.int .i64 (.ofNat 1)) .nl))) := by
  rw [run89m_eq]
theorem P89 : ∃ fn, Tryz.prog.funcs[89]? = some fn ∧ (fn.name == "runtime.NumGoroutine") = false ∧ fn.body.isNone = false := ⟨Tryz.f89, Tryz.func89, (fnsL.get Tryz.func89).1, by kernel_rfl⟩
def s89b : KSpec := fun l K => la1 l fun x => onInt (fun kk z => chk (ikEq kk .i64) 311 ((z < 1 ∨ 4096 < z) ∧ K (.tup (.cons (.int .i64 (.ofNat 0)) (.cons (.int .i64 (.ofNat 1)) .nl))))) (BadN 312) x
def s89g : KSpec := fun l K => la1 l fun x => natK x fun n => (1 ≤ n ∧ n ≤ 4096) ∧ K (.tup (.cons (.int .i64 (.ofNat (C.sec n))) (.cons (.int .i64 (.ofNat 0)) .nl)))
theorem kcs89b : @KCS gO Tryz.prog 89 s89b := by
  refine @kcsQ gO EO1 okO1 89 s89b P89 fun l K hs => ?_
  obtain ⟨x, rfl, h1⟩ := la1_s hs
  rcases onInt_inv h1 with ⟨kk, z, rfl, h2⟩ | ⟨_, h2⟩
  · obtain ⟨h3, h4, h5⟩ := chk_inv h2
    obtain rfl := ikEq_eq h3
    refine ⟨28, _, _, h5, rfl, fun _ _ h => h, ?_⟩
    cases z with
    | ofNat n => exact run89_b (by have : Int.ofNat n = (n : Int) := rfl; omega)
    | negSucc n => exact run89_m n
  · exact h2.elim
theorem kcs89g : @KCS gO Tryz.prog 89 s89g := by
  refine @kcsQ gO EO1 okO1 89 s89g P89 fun l K hs => ?_
  obtain ⟨x, rfl, h1⟩ := la1_s hs
  obtain ⟨n, rfl, h2, h3⟩ := natK_s h1
  exact ⟨28, _, _, h3, rfl, fun _ _ h => h, run89_g h2.1 h2.2⟩
end
end Go.K
