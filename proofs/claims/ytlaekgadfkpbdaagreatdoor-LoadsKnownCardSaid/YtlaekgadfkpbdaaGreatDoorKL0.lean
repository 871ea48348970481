/- The program of the seat in the run: what stands fast. No condition. The open mode of the run. No condition. -/
import Derived.Test.YtlaekgadfkpbdaaGreatDoorK19
import Derived.Test.YtlaekgadfkpbdaaGreatDoorProg
set_option linter.unusedVariables false
namespace Go.K
open Go.Ab Go.RowKit Go.Y Go.Proofs
noncomputable section
def gSizes : KV := .pk .i64 2 608742554432415203373
def gInit : KV := .pk .u32 8 41557658498906279274860226408925318911382702236748615442085426012007055353447
def gConst : KV := .pk .u32 64 25051139735836467913601071899189108501681633092613316132753366958947502841281110980347811086624969305314199562795868290539880502533646505489797110349007385020507326982043050618112420254613810441709594605123090411975756494285771699200369901479195251226368983824020564277645963860728452821576845901498668417244438721537663670541944820957180957595559282976806173113161068298822071065329290006052849814285001949914564097058408480133985233335799884203712730341384999677089997083749077591931498939520449886954646413138343858395935213418018409268340744776361518554939863400075967197509182087778881547827184266701615699472280
noncomputable instance kgL : KGl := { g := fun g => @Nat.rec (fun _ => KV) (.ref true (.arr 2 .sc) gSizes) (fun g _ => @Nat.rec (fun _ => KV) (.ref true (.arr 8 .sc) gInit) (fun g _ => @Nat.rec (fun _ => KV) (.ref true (.arr 64 .sc) gConst) (fun _ _ => .unk) g) g) g, cl := true }
noncomputable def maskL : List Nat := [0, 0, 0, 98079714615416886934934858774727106966236393041747640191, 95792708989142910329061376604243977789965036834275327, 2200101192175, 67173855, 7, 93, 4326095, 553648159, 70377367674639, 191561942608236107294793378394393110862149704888253295, 17196648447, 93, 157, 5, 8063, 33571823, 19, 5, 141, 263283, 67111111, 271, 4551, 19, 525, 23, 137472540527, 154742504910954561258848223, 8247, 3871, 21, 7, 7, 67376071, 7, 1, 264183, 302526873306426839531375, 7, 32951, 281509341175663, 9203, 18375, 2163, 33791, 119, 2163, 137506063859, 1048827, 167772871, 32775, 189, 33015, 16885, 3, 7, 127, 4095, 179, 21, 7, 72339206454118381, 255, 100795379, 2015, 5, 2251838468662267, 263197, 268508991, 5, 1011, 4157, 8388851, 4109, 1043, 32895, 50151, 119, 255, 5, 3, 40564819207303340847931076901815, 4157, 70368744435647, 7, 31, 525, 261, 16908431, 525255, 2098143, 4211, 115, 16371, 285, 245943, 5, 123315, 125845229, 5, 7, 18555358364663615, 297203, 19, 2684358415, 63, 31, 309486190419721203025453565, 15, 15, 4159, 263063, 67543, 67543, 32775, 8796093022459, 87, 31, 65597, 1, 34359747191, 115187, 117456959, 1965, 3699, 5, 4147, 127, 5, 61, 1099511760637, 2147516925, 17179871487, 748289016719383882365272385607093028152559065366527, 1152921642046133247, 5, 1901475900342344102245055741951, 77, 117457395, 16431, 824633723135, 1077938175, 23, 7881587, 4339, 8541, 39, 15, 287, 15, 287, 2147746111, 21, 316912650057129970918176071667, 536872959, 19, 1085, 1197427, 123, 3635, 55411, 7783419, 51, 13, 16765, 93, 19, 5, 51, 67319, 51, 3, 0, 0, 0, 0, 0, 0, 0, 0, 0, 0, 0, 0, 0, 0, 0, 0, 0, 0, 0, 0, 0, 0, 0, 0, 0]
noncomputable def mdL : List Nat := [0, 0, 0, 1, 0, 0, 1, 1, 1, 0, 0, 1, 1, 1, 1, 0, 1, 1, 0, 1, 1, 1, 1, 1, 1, 1, 1, 0, 1, 1, 1, 0, 0, 0, 0, 0, 1, 1, 0, 1, 0, 1, 0, 1, 1, 0, 1, 1, 0, 1, 0, 0, 1, 1, 1, 0, 0, 3, 3, 3, 1, 1, 2, 0, 1, 1, 0, 1, 0, 1, 0, 0, 0, 1, 1, 0, 2, 0, 3, 1, 0, 1, 0, 1, 1, 1, 1, 1, 0, 0, 1, 1, 1, 1, 0, 1, 1, 0, 1, 0, 1, 0, 0, 0, 0, 1, 1, 1, 3, 3, 1, 3, 3, 1, 3, 0, 0, 1, 0, 1, 1, 0, 1, 1, 0, 1, 1, 0, 0, 1, 0, 1, 1, 1, 1, 0, 1, 1, 1, 1, 1, 0, 3, 1, 1, 1, 1, 0, 1, 3, 3, 0, 3, 0, 1, 1, 1, 1, 1, 1, 1, 2, 2, 2, 2, 2, 1, 1, 0, 1, 1, 1, 1, 1, 3, 1, 0, 1, 0, 1, 0, 1, 0, 1, 0, 1, 0, 1, 1, 0, 1, 1, 1, 0, 0, 0, 0, 0, 0, 0]
noncomputable def E0 : KEnv := { P := Tryz.prog, ct := fun _ => none, md := fun f => mdL.getD f 0, km := fun f => maskL.getD f 0 }
theorem fnsL : FnsOk Tryz.prog := by
  unfold FnsOk
  decide +kernel
theorem mixL : Tryz.prog.follows .mixedOrders = true := by decide +kernel
theorem gnL (g : Nat) : noId (Gl.G g) = true := by
  match g with
  | 0 => rfl
  | 1 => rfl
  | 2 => rfl
  | _ + 3 => rfl
theorem ok0 : KOk E0 where
  fns := fnsL
  ct := fun _ _ h => (by cases h)
  gn := gnL
  mixed := mixL
end
end Go.K
set_option linter.unusedVariables false
set_option linter.unusedSimpArgs false
namespace Go.K
open Go.Ab Go.RowKit Go.Y Go.Proofs
noncomputable section
/-- A number that is handed on. -/
def natK (x : KV) (f : Nat → Prop) : Prop := onInt (fun k a => chk (ikEq k .i64) 300 (@Int.rec (fun _ => Prop) (fun n => f n) (fun _ => BadN 301) a)) (BadN 302) x
theorem natK_s {x : KV} {f : Nat → Prop} (h : natK x f) : ∃ n, x = .int .i64 (.ofNat n) ∧ f n := by
  rcases onInt_inv h with ⟨k, a, rfl, h1⟩ | ⟨_, h1⟩
  · obtain ⟨h2, h3⟩ := chk_inv h1
    obtain rfl := ikEq_eq h2
    cases a with
    | ofNat n => exact ⟨n, rfl, h3⟩
    | negSucc n => exact (show BadN 301 from h3).elim
  · exact h1.elim
def nI (n : Nat) : KV := .int .i64 (.ofNat n)
@[reducible] def gO : KGl := opnG kgL
def EO0 : KEnv := { P := Tryz.prog, ct := fun _ => none, md := fun f => mdL.getD f 0, km := fun f => maskL.getD f 0 }
theorem okO0 : @KOk gO EO0 := @KOk.mk gO EO0 fnsL (fun _ _ h => (by cases h)) gnL mixL
theorem imp_refl (v : V) : Imp v v := fun _ _ h => h
end
end Go.K
