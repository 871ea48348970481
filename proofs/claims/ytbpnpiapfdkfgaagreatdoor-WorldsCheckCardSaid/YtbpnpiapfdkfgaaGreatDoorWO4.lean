/- WorldsCheck: from the run to the card. No condition. -/
import Derived.Test.YtbpnpiapfdkfgaaGreatDoorWO3
import Derived.Test.YtbpnpiapfdkfgaaGreatDoorK19
import Derived.Test.YtbpnpiapfdkfgaaGreatDoorWO4J
import Derived.Test.YtbpnpiapfdkfgaaGreatDoorKTie
import Derived.Test.YtbpnpiapfdkfgaaGreatDoorChecked
import Derived.Test.YtbpnpiapfdkfgaaGreatDoorRows
import Derived.Test.YtbpnpiapfdkfgaaGreatDoorTie
import Derived.Test.YtbpnpiapfdkfgaaGreatDoorCards
import Derived.LaidMore
import Derived.OpenShut
import Derived.Stop.Joined
import Derived.SevenTiedAt
set_option linter.unusedVariables false
namespace Go.K
open Go.Ab Go.Y Go.Proofs Go.ChangeShapes Go.WideShapes Go.ChangeAt Go.WideMaps Go.WideElems Go.RowKit
open Go.Proofs.YtbpnpiapfdkfgaaGreatDoor
noncomputable section
attribute [local irreducible] krun callR
def litsOf {H : Type} : DataW H → List Int
  | .agg l => l.map fun x => match x with
    | .lit (.int _ n) => n
    | _ => 0
  | _ => []
/-- The names of the tables. -/
def nmL (i : Nat) : String := (Rows.worldsCheckRow.laid.getD i (Rows.worldsCheckRow.func, .nil)).1
theorem gSz : Tryz.prog.globalNamed (nmL 2) = some 0 := by kernel_rfl
theorem gIn : Tryz.prog.globalNamed (nmL 0) = some 1 := by kernel_rfl
theorem gCo : Tryz.prog.globalNamed (nmL 1) = some 2 := by kernel_rfl
theorem tSz : (Tryz.prog.globals[0]?).map (·.type) = some 204 := by kernel_rfl
theorem tIn : (Tryz.prog.globals[1]?).map (·.type) = some 290 := by kernel_rfl
theorem tCo : (Tryz.prog.globals[2]?).map (·.type) = some 326 := by kernel_rfl
def lSz : List Int := litsOf (H := Unit) Rows.laid_caisson_nodes_sizes
def lIn : List Int := litsOf (H := Unit) Rows.laid_caisson_digests_initial
def lCo : List Int := litsOf (H := Unit) Rows.laid_caisson_digests_constants
theorem dSz : (Rows.laid_caisson_nodes_sizes : DataW Unit) = .agg (lSz.map fun x => .lit (.int .i64 x)) := rfl
theorem dIn : (Rows.laid_caisson_digests_initial : DataW Unit) = .agg (lIn.map fun x => .lit (.int .u32 x)) := rfl
theorem dCo : (Rows.laid_caisson_digests_constants : DataW Unit) = .agg (lCo.map fun x => .lit (.int .u32 x)) := rfl
def nSz : Nat := 608742554432415203373
def nIn : Nat := 41557658498906279274860226408925318911382702236748615442085426012007055353447
def nCo : Nat := 25051139735836467913601071899189108501681633092613316132753366958947502841281110980347811086624969305314199562795868290539880502533646505489797110349007385020507326982043050618112420254613810441709594605123090411975756494285771699200369901479195251226368983824020564277645963860728452821576845901498668417244438721537663670541944820957180957595559282976806173113161068298822071065329290006052849814285001949914564097058408480133985233335799884203712730341384999677089997083749077591931498939520449886954646413138343858395935213418018409268340744776361518554939863400075967197509182087778881547827184266701615699472280
theorem eSz : ∀ i, i < 2 → lSz.getD i 0 = pkg .i64 nSz i := by
  have : ((List.range 2).all fun i => decide (lSz.getD i 0 = pkg .i64 nSz i)) = true := by kernel_rfl
  intro i hi
  exact of_decide_eq_true (List.all_eq_true.1 this i (List.mem_range.2 hi))
theorem eIn : ∀ i, i < 8 → lIn.getD i 0 = pkg .u32 nIn i := by
  have : ((List.range 8).all fun i => decide (lIn.getD i 0 = pkg .u32 nIn i)) = true := by kernel_rfl
  intro i hi
  exact of_decide_eq_true (List.all_eq_true.1 this i (List.mem_range.2 hi))
theorem eCo : ∀ i, i < 64 → lCo.getD i 0 = pkg .u32 nCo i := by
  have : ((List.range 64).all fun i => decide (lCo.getD i 0 = pkg .u32 nCo i)) = true := by kernel_rfl
  intro i hi
  exact of_decide_eq_true (List.all_eq_true.1 this i (List.mem_range.2 hi))
/-- The tables' cells. -/
theorem of_laid {W : World} (h : laidMetH Tryz.prog Rows.worldsCheckRow.laid W) : (∀ i, i < 2 → W.cell? ⟨0, i, none⟩ = some (.int .i64 (pkg .i64 nSz i))) ∧ (∀ i, i < 8 → W.cell? ⟨1, i, none⟩ = some (.int .u32 (pkg .u32 nIn i))) ∧ ∀ i, i < 64 → W.cell? ⟨2, i, none⟩ = some (.int .u32 (pkg .u32 nCo i)) := by
  rw [MakeChecks.laidMetH_plain _ _ _ (by kernel_rfl)] at h
  obtain ⟨ps, ⟨g1, t1, cs1, f1, p1, q1, hg1, ht1, hv1, hd1, ⟨g2, t2, cs2, f2, p2, q2, hg2, ht2, hv2, hd2, ⟨g0, t0, cs0, f0, p0, q0, hg0, ht0, hv0, hd0, _, _⟩, _⟩, _⟩, _, _⟩ := h
  obtain rfl := Option.some.inj (gIn.symm.trans hg1)
  obtain rfl := Option.some.inj (gCo.symm.trans hg2)
  obtain rfl := Option.some.inj (gSz.symm.trans hg0)
  obtain rfl := Option.some.inj (tIn.symm.trans ht1)
  obtain rfl := Option.some.inj (tCo.symm.trans ht2)
  obtain rfl := Option.some.inj (tSz.symm.trans ht0)
  have c61 : Tryz.prog.cellsOf 76 = 1 := by kernel_rfl
  have c3 : Tryz.prog.cellsOf 3 = 1 := by kernel_rfl
  rw [dIn] at hd1
  rw [dCo] at hd2
  rw [dSz] at hd0
  have k1 := arr_cells Tryz.underlying290 Tryz.underlying76 c61 hd1
  have k2 := arr_cells Tryz.underlying326 Tryz.underlying76 c61 hd2
  have k0 := arr_cells Tryz.underlying204 Tryz.underlying3 c3 hd0
  refine ⟨fun i hi => ?_, fun i hi => ?_, fun i hi => ?_⟩
  · rw [World.var?_cell hg0 hv0 i, ← eSz i hi, ← k0 i hi]; simp
  · rw [World.var?_cell hg1 hv1 i, ← eIn i hi, ← k1 i hi]; simp
  · rw [World.var?_cell hg2 hv2 i, ← eCo i hi, ← k2 i hi]; simp
/-- Package variables may be read. -/
def CW (W : World) : Ctx := ⟨fun u b => u = true ∧ b < 3, fun _ => False, fun _ => .bool true, fun _ => .sc, W⟩
theorem CW_glob {W : World} (h : laidMetH Tryz.prog Rows.worldsCheckRow.laid W) (g : Nat) : R (CW W).pur (@Gl.G (@instGl gO) g) (.val (.pointer (some ⟨g, 0, none⟩))) := by
  obtain ⟨h0, h1, h2⟩ := of_laid h
  match g with
  | 0 => exact ⟨0, 0, rfl, ⟨rfl, by decide⟩, .sc, rfl, fun i hi => ⟨rfl, by rw [Nat.zero_add]; show W.cell? ⟨0, i * 1, none⟩ = _; rw [Nat.mul_one]; exact h0 i hi⟩⟩
  | 1 => exact ⟨1, 0, rfl, ⟨rfl, by decide⟩, .sc, rfl, fun i hi => ⟨rfl, by rw [Nat.zero_add]; show W.cell? ⟨1, i * 1, none⟩ = _; rw [Nat.mul_one]; exact h1 i hi⟩⟩
  | 2 => exact ⟨2, 0, rfl, ⟨rfl, by decide⟩, .sc, rfl, fun i hi => ⟨rfl, by rw [Nat.zero_add]; show W.cell? ⟨2, i * 1, none⟩ = _; rw [Nat.mul_one]; exact h2 i hi⟩⟩
  | g + 3 => trivial
theorem cell_lt {W : World} {b : Nat} {x : Value} (h : W.cell? ⟨b, 0, none⟩ = some x) : b < W.heap.size := by
  rcases Nat.lt_or_ge b W.heap.size with h1 | h1
  · exact h1
  · have : W.heap[b]? = none := Array.getElem?_eq_none h1
    simp [World.cell?, this] at h
theorem CW_lt {W : World} (h : laidMetH Tryz.prog Rows.worldsCheckRow.laid W) : ∀ u b, (CW W).ok u b → b < (CW W).w.heap.size := by
  rintro u b ⟨_, hb⟩
  have := cell_lt ((of_laid h).2.2 0 (by decide))
  show b < W.heap.size
  omega
theorem Tryz.own : ownKnob Tryz.prog.godebug = none := by kernel_rfl
theorem Tryz.laidOut : laidOutB Tryz.prog = true := by kernel_rfl
/-- The door's own heap meets the condition. -/
theorem door_met (os : Os) (args : Array Value) : laidMetH Tryz.prog Rows.worldsCheckRow.laid ((World.doorLaid Tryz.prog 2000 os).forCall (fun _ _ => 0) ⟨#[], args, []⟩).memory :=
  laidMetH_of_parts3 (fuel := 8) (laidMet_of_run' 8 (by kernel_rfl) (by kernel_rfl)) (by kernel_rfl) (by kernel_rfl)
/-! ### The argument -/
theorem okWide_st {P : Program} {w : World} {r : Reach} {base : Nat} {t : TypeId} {v : Value} {fs : Array Field} (hs : P.underlying t = some (.struct fs)) (h : Value.okWide P w r base t v) : ∃ cs, v = .agg cs ∧ cs.size = P.cellsOf t ∧ Row.okWide P w r base t cs := by
  unfold Value.okWide at h
  rw [hs] at h
  exact h
theorem fld_int {H : Type} {enc : TypeId × Value → H} {P : Program} {W : World} {base fuel : Nat} {sp : Nat → Bool} {held : Bool} {t : TypeId} {fs : Array Field} {cs : Array Value} {x : DataW H × List MemPlace} {i : Nat} {f : Field} {k : IntKind}
    (hs : P.underlying t = some (.struct fs)) (h : DataW.trod enc P W base sp held fuel t cs.toList = some x) (hi : fs[i]? = some f) (hk : P.underlying f.type = some (.int k)) (hc : P.cellsOf f.type = 1) : ∃ n, cs[f.offset]? = some (.int k n) ∧ (Lit.int k n).wf = true := by
  obtain ⟨xs, n, _, _, _, hlen, hf⟩ := DataW.trod_struct hs h
  have h1 := hf i f hi
  have hxi : i < xs.length := by rw [hlen]; exact (Array.getElem?_eq_some_iff.1 hi).1
  rw [List.getElem?_eq_getElem hxi, hc] at h1
  obtain ⟨v, e1, _, e3⟩ := DataW.trod_int hk h1
  refine ⟨v, ?_, e3⟩
  have := congrArg (fun z => z[0]?) e1
  simpa [List.getElem?_take, List.getElem?_drop] using this
theorem fld_arr {H : Type} {enc : TypeId × Value → H} {P : Program} {W : World} {base fuel : Nat} {sp : Nat → Bool} {held : Bool} {t : TypeId} {fs : Array Field} {cs : Array Value} {x : DataW H × List MemPlace} {i : Nat} {f : Field} {k : IntKind} {e : TypeId} {N : Nat}
    (hs : P.underlying t = some (.struct fs)) (h : DataW.trod enc P W base sp held fuel t cs.toList = some x) (hi : fs[i]? = some f) (ha : P.underlying f.type = some (.array N e)) (hk : P.underlying e = some (.int k)) (hc : P.cellsOf e = 1) (hN : P.cellsOf f.type = N) : ∃ m : Nat → Int, ∀ j, j < N → cs[f.offset + j]? = some (.int k (m j)) := by
  obtain ⟨xs, n, _, _, _, hlen, hf⟩ := DataW.trod_struct hs h
  have h1 := hf i f hi
  have hxi : i < xs.length := by rw [hlen]; exact (Array.getElem?_eq_some_iff.1 hi).1
  rw [List.getElem?_eq_getElem hxi, hN] at h1
  obtain ⟨ys, q, _, _, _, hlen2, hel⟩ := DataW.trod_array ha h1
  have key : ∀ j, j < N → ∃ v, cs[f.offset + j]? = some (.int k v) := by
    intro j hj
    have h2 := hel j hj
    rw [hc, Nat.mul_one] at h2
    have hyj : j < ys.length := by omega
    rw [List.getElem?_eq_getElem hyj] at h2
    obtain ⟨v, e1, _, _⟩ := DataW.trod_int hk h2
    refine ⟨v, ?_⟩
    have h3 := congrArg (fun z => z[0]?) e1
    have h4 : (((cs.toList.drop f.offset).take N).drop j)[0]? = some (Value.int k v) := by
      rw [List.getElem?_take] at h3
      simpa using h3
    rw [List.getElem?_drop, List.getElem?_take, List.getElem?_drop] at h4
    simp only [Nat.add_zero, hj, if_true, Array.getElem?_toList] at h4
    exact h4
  refine ⟨fun j => if hj : j < N then Classical.choose (key j hj) else 0, fun j hj => ?_⟩
  simp only [dif_pos hj]
  exact Classical.choose_spec (key j hj)
noncomputable def fs26 : Array Field := Tryz.prog.fieldsOf 26
noncomputable def fd (i : Nat) : Field := fs26.getD i default
theorem und26 : Tryz.prog.underlying 26 = some (.struct fs26) := by kernel_rfl
theorem cells26 : Tryz.prog.cellsOf 26 = 39 := by kernel_rfl
theorem fd0 : fs26[0]? = some (fd 0) := by kernel_rfl
theorem of0 : (fd 0).offset = 0 := by kernel_rfl
theorem ud0 : Tryz.prog.underlying (fd 0).type = some (.int .i64) := by kernel_rfl
theorem cd0 : Tryz.prog.cellsOf (fd 0).type = 1 := by kernel_rfl
theorem fd1 : fs26[1]? = some (fd 1) := by kernel_rfl
theorem of1 : (fd 1).offset = 1 := by kernel_rfl
theorem ud1 : Tryz.prog.underlying (fd 1).type = some (.int .i64) := by kernel_rfl
theorem cd1 : Tryz.prog.cellsOf (fd 1).type = 1 := by kernel_rfl
theorem fd2 : fs26[2]? = some (fd 2) := by kernel_rfl
theorem of2 : (fd 2).offset = 2 := by kernel_rfl
theorem ud2 : Tryz.prog.underlying (fd 2).type = some (.int .i64) := by kernel_rfl
theorem cd2 : Tryz.prog.cellsOf (fd 2).type = 1 := by kernel_rfl
theorem fd3 : fs26[3]? = some (fd 3) := by kernel_rfl
theorem of3 : (fd 3).offset = 3 := by kernel_rfl
theorem ud3 : Tryz.prog.underlying (fd 3).type = some (.int .i64) := by kernel_rfl
theorem cd3 : Tryz.prog.cellsOf (fd 3).type = 1 := by kernel_rfl
theorem fd4 : fs26[4]? = some (fd 4) := by kernel_rfl
theorem of4 : (fd 4).offset = 4 := by kernel_rfl
theorem ud4 : Tryz.prog.underlying (fd 4).type = some (.int .u64) := by kernel_rfl
theorem cd4 : Tryz.prog.cellsOf (fd 4).type = 1 := by kernel_rfl
theorem fd5 : fs26[5]? = some (fd 5) := by kernel_rfl
theorem of5 : (fd 5).offset = 5 := by kernel_rfl
theorem ud5 : Tryz.prog.underlying (fd 5).type = some (.int .u64) := by kernel_rfl
theorem cd5 : Tryz.prog.cellsOf (fd 5).type = 1 := by kernel_rfl
theorem fd6 : fs26[6]? = some (fd 6) := by kernel_rfl
theorem of6 : (fd 6).offset = 6 := by kernel_rfl
theorem ud6 : Tryz.prog.underlying (fd 6).type = some (.array 32 5) := by kernel_rfl
theorem ue6 : Tryz.prog.underlying 5 = some (.int .u8) := by kernel_rfl
theorem ce6 : Tryz.prog.cellsOf 5 = 1 := by kernel_rfl
theorem cd6 : Tryz.prog.cellsOf (fd 6).type = 32 := by kernel_rfl
theorem fd7 : fs26[7]? = some (fd 7) := by kernel_rfl
theorem of7 : (fd 7).offset = 38 := by kernel_rfl
theorem ud7 : Tryz.prog.underlying (fd 7).type = some (.int .u8) := by kernel_rfl
theorem cd7 : Tryz.prog.cellsOf (fd 7).type = 1 := by kernel_rfl
theorem mt_at (m : Nat → Int) : ∀ i, i < 32 → (mt m 32).atv (enc i) (KV.int .u8 (.ofNat 0)).v = .int .u8 (m i)
  | 0, _ => by kernel_rfl
  | 1, _ => by kernel_rfl
  | 2, _ => by kernel_rfl
  | 3, _ => by kernel_rfl
  | 4, _ => by kernel_rfl
  | 5, _ => by kernel_rfl
  | 6, _ => by kernel_rfl
  | 7, _ => by kernel_rfl
  | 8, _ => by kernel_rfl
  | 9, _ => by kernel_rfl
  | 10, _ => by kernel_rfl
  | 11, _ => by kernel_rfl
  | 12, _ => by kernel_rfl
  | 13, _ => by kernel_rfl
  | 14, _ => by kernel_rfl
  | 15, _ => by kernel_rfl
  | 16, _ => by kernel_rfl
  | 17, _ => by kernel_rfl
  | 18, _ => by kernel_rfl
  | 19, _ => by kernel_rfl
  | 20, _ => by kernel_rfl
  | 21, _ => by kernel_rfl
  | 22, _ => by kernel_rfl
  | 23, _ => by kernel_rfl
  | 24, _ => by kernel_rfl
  | 25, _ => by kernel_rfl
  | 26, _ => by kernel_rfl
  | 27, _ => by kernel_rfl
  | 28, _ => by kernel_rfl
  | 29, _ => by kernel_rfl
  | 30, _ => by kernel_rfl
  | 31, _ => by kernel_rfl
  | n + 32, h => absurd h (by omega)
theorem noId_cfg (m : Nat → Int) (B S F D : Int) (L R W : Nat) : noId (mkL ([cfg m B S F D L R W].map KV.v)) = true := by kernel_rfl
set_option maxRecDepth 100000 in
theorem WorldsCheck_lifted (os : Os) (started : os.Started) (H : Type) (enc : TypeId × Value → H) :
    ReturnsInHanded {} Tryz.checked os 3 .any (fun w args => (Rows.worldsCheckSpec.pre enc Tryz.prog Tryz.f3 [] false w args ∧ laidMetH Tryz.prog Rows.worldsCheckRow.laid w) ∧ sizedMet enc Tryz.prog Tryz.f3 (OpenSpec.ofChange Rows.worldsCheckSpec) false w args)
      (Rows.worldsCheckSpec.post enc Tryz.prog Tryz.f3 false true false false) := by
  refine returnsInHanded_of_change_and (C := Tryz.checked) (X := fun w _ => laidMetH Tryz.prog Rows.worldsCheckRow.laid w) (fun _ _ _ hh h => h.of_heap hh) Tryz.own started (by kernel_rfl) Tryz.func3
    (ChangeSpec.witness_shaped (enc := enc) (C := Tryz.checked) (os := os) (X := fun w _ => laidMetH Tryz.prog Rows.worldsCheckRow.laid w) false (World.doorLaid Tryz.prog 2000 os) #[.agg #[.int .i64 0, .int .i64 0, .int .i64 0, .int .i64 0, .int .u64 0, .int .u64 0, .int .u8 0, .int .u8 0, .int .u8 0, .int .u8 0, .int .u8 0, .int .u8 0, .int .u8 0, .int .u8 0, .int .u8 0, .int .u8 0, .int .u8 0, .int .u8 0, .int .u8 0, .int .u8 0, .int .u8 0, .int .u8 0, .int .u8 0, .int .u8 0, .int .u8 0, .int .u8 0, .int .u8 0, .int .u8 0, .int .u8 0, .int .u8 0, .int .u8 0, .int .u8 0, .int .u8 0, .int .u8 0, .int .u8 0, .int .u8 0, .int .u8 0, .int .u8 0, .int .u8 0]] 8 rfl (World.shaped_of_RefB (by kernel_rfl) (by kernel_rfl)) (by kernel_rfl) (by kernel_rfl) (by kernel_rfl) (door_met os _)) ?_
  intro W base args ds gs before hval0 hW _ _ hL _
  have hval : ∀ (j : Nat) t v, Tryz.f3.params[j]? = some t → args[j]? = some v → Value.okWide Tryz.prog W .any base t v := hval0
  have hW' := hW
  obtain ⟨p, q, hA0, hV, rfl, hfz, hnd⟩ := hW
  have hA : DataW.TrodAll enc Tryz.prog W 0 (fun _ => true) true Tryz.f3.params.toList args.toList ds p := hA0
  rw [Tryz.params3] at hA hval
  obtain ⟨rfl, rfl⟩ := trodVars_none hV
  obtain ⟨v0, r1, d0, e1, a1, b1, hv0, rfl, rfl, h0, hA1⟩ := trodAll_cons (show DataW.TrodAll enc Tryz.prog W 0 (fun _ => true) true (26 :: []) args.toList ds p from hA)
  obtain ⟨rfl, rfl, rfl⟩ := trodAll_nil hA1
  obtain rfl : args = #[v0] := Array.toList_inj.1 (by rw [hv0])
  obtain ⟨cs, rfl, hcs, _⟩ := okWide_st und26 (hval 0 26 v0 rfl rfl)
  obtain ⟨fuel, hf⟩ := h0
  have hc39 : cs.size = 39 := by rw [hcs]; exact cells26
  have hf : DataW.trod enc Tryz.prog W 0 (fun _ => true) true fuel 26 cs.toList = some (d0, a1) := hf
  obtain ⟨B, hB, _⟩ := fld_int und26 hf fd0 ud0 cd0
  obtain ⟨S, hS, _⟩ := fld_int und26 hf fd1 ud1 cd1
  obtain ⟨F, hF, _⟩ := fld_int und26 hf fd2 ud2 cd2
  obtain ⟨D, hD, _⟩ := fld_int und26 hf fd3 ud3 cd3
  obtain ⟨L, hL0, wL⟩ := fld_int und26 hf fd4 ud4 cd4
  obtain ⟨R0, hR, wR⟩ := fld_int und26 hf fd5 ud5 cd5
  obtain ⟨Z, hZ, wZ⟩ := fld_int und26 hf fd7 ud7 cd7
  obtain ⟨m, hm⟩ := fld_arr und26 hf fd6 ud6 ue6 ce6 cd6
  obtain ⟨L, rfl⟩ : ∃ n : Nat, L = .ofNat n := ⟨L.toNat, by have := (bounds_u64 wL).1; show L = ((L.toNat : Nat) : Int); omega⟩
  obtain ⟨R0, rfl⟩ : ∃ n : Nat, R0 = .ofNat n := ⟨R0.toNat, by have := (bounds_u64 wR).1; show R0 = ((R0.toNat : Nat) : Int); omega⟩
  obtain ⟨Z, rfl⟩ : ∃ n : Nat, Z = .ofNat n := ⟨Z.toNat, by have := (bounds_u8 wZ).1; show Z = ((Z.toNat : Nat) : Int); omega⟩
  rw [of0] at hB
  rw [of1] at hS
  rw [of2] at hF
  rw [of3] at hD
  rw [of4] at hL0
  rw [of5] at hR
  rw [of6] at hm
  rw [of7] at hZ
  have hrel : R (CW W).pur (mkL ([cfg m B S F D L R0 Z].map KV.v)) (.list [.agg cs]) :=
    ⟨_, _, rfl, ⟨cs, .sc, .cons .sc (.cons .sc (.cons .sc (.cons .sc (.cons .sc (.cons (.arr 32 .sc) (.cons .sc .nl)))))), rfl, by rw [hc39]; rfl, ⟨rfl, hB⟩,
      ⟨.sc, _, rfl, ⟨rfl, hS⟩, ⟨.sc, _, rfl, ⟨rfl, hF⟩, ⟨.sc, _, rfl, ⟨rfl, hD⟩, ⟨.sc, _, rfl, ⟨rfl, hL0⟩, ⟨.sc, _, rfl, ⟨rfl, hR⟩,
        ⟨.arr 32 .sc, _, rfl, ⟨.sc, rfl, fun i hi => by
          show R _ ((mt m 32).atv (Go.Y.enc i) (KV.int .u8 (.ofNat 0)).v) _
          rw [mt_at m i hi]
          exact ⟨rfl, by show cs[6 + i * 1]? = _; rw [Nat.mul_one]; exact hm i hi⟩⟩,
          ⟨.sc, _, rfl, ⟨rfl, hZ⟩, rfl⟩⟩⟩⟩⟩⟩⟩⟩, rfl⟩
  have hc := @calls_kcs gO Tryz.prog 3 s3 kcs3 (CW W) [cfg m B S F D L R0 Z] [.agg cs] (CW_lt hL) (CW_glob hL) hrel ⟨m, B, S, F, D, L, R0, Z, rfl, rfl⟩ (noId_cfg m B S F D L R0 Z)
  refine hc.mono ?_
  rintro e W' ⟨hb, he⟩
  exact ⟨_, he, law_post Tryz.laidOut hW' (by kernel_rfl) rfl rfl (by kernel_rfl) Tryz.underlying4 hb⟩
theorem WorldsCheck_said : Rows.WorldsCheckSaid :=
  OpenClaim.holds_of_wide 3 Tryz.f3 rfl rfl rfl rfl rfl rfl rfl ⟨rfl, rfl, rfl, rfl, rfl⟩ rfl rfl rfl rfl rfl cf3 Tryz.func3 facts3
    (of_decide_eq_true (by kernel_rfl)) (by unfold Func.isWrapper; rw [if_neg (by decide +kernel)]; exact ⟨rfl, rfl⟩)
    (fun os started H enc _ => WorldsCheck_lifted os started H enc)
theorem WorldsCheck_holds : Rows.WorldsCheckCardSaid :=
  Claim7.holds_tied_plain_at .later [] [.data, .data, .data] true (true, "e80718ab97e1d64c68fd6c28c7e84c560b0ca3b8cfde71a35951396609c2f004") false
    WorldsCheck_said (fun _ h => by cases h) cw3 (fun _ h => by cases h) worldsCheck_row_tie rfl ⟨rfl, rfl⟩ cm3 rfl
    (fun f fn hf hfn => by
      obtain rfl : f = 3 := Option.some.inj (cf3.symm.trans hf) |>.symm
      obtain rfl : fn = Tryz.f3 := (Option.some.inj (Tryz.func3.symm.trans hfn)).symm
      exact ⟨cl3, fun j t ht => by
        rw [Tryz.params3] at ht
        have hm : t ∈ [26] := by simpa using Array.mem_of_getElem? ht
        have hall : ([26].all fun u => !Tryz.prog.wantsStandIn u) = true := by kernel_rfl
        exact (show Tryz.prog.wantsStandIn t = false by simpa using List.all_eq_true.1 hall t hm)⟩)
    cg3
end
end Go.K
