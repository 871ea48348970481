/- RecoversFresh: from the run to the card. No condition. -/
import Derived.Test.YtfpmealbbibhpaaGreatDoorFB2
import Derived.Test.YtfpmealbbibhpaaGreatDoorK19
import Derived.Test.YtfpmealbbibhpaaGreatDoorLO1
import Derived.Test.YtfpmealbbibhpaaGreatDoorFF9J
import Derived.Test.YtfpmealbbibhpaaGreatDoorKTie
import Derived.Test.YtfpmealbbibhpaaGreatDoorChecked
import Derived.Test.YtfpmealbbibhpaaGreatDoorRows
import Derived.Test.YtfpmealbbibhpaaGreatDoorTie
import Derived.Test.YtfpmealbbibhpaaGreatDoorCards
import Derived.LaidMore
import Derived.OpenShut
import Derived.Stop.Joined
import Derived.SevenTiedAt
set_option linter.unusedVariables false
namespace Go.K
open Go.Ab Go.Y Go.Proofs Go.ChangeShapes Go.WideShapes Go.ChangeAt Go.WideMaps Go.WideElems Go.RowKit
open Go.Proofs.YtfpmealbbibhpaaGreatDoor
noncomputable section
attribute [local irreducible] krun callR
def litsOf {H : Type} : DataW H → List Int
  | .agg l => l.map fun x => match x with
    | .lit (.int _ n) => n
    | _ => 0
  | _ => []
def nmL (i : Nat) : String := (Rows.recoversFreshRow.laid.getD i (Rows.recoversFreshRow.func, .nil)).1
theorem gSz : Tryz.prog.globalNamed (nmL 3) = some 1 := by kernel_rfl
theorem gIn : Tryz.prog.globalNamed (nmL 0) = some 3 := by kernel_rfl
theorem gCo : Tryz.prog.globalNamed (nmL 1) = some 4 := by kernel_rfl
theorem tSz : (Tryz.prog.globals[1]?).map (·.type) = some 138 := by kernel_rfl
theorem tIn : (Tryz.prog.globals[3]?).map (·.type) = some 355 := by kernel_rfl
theorem tCo : (Tryz.prog.globals[4]?).map (·.type) = some 405 := by kernel_rfl
def lSz : List Int := litsOf (H := Unit) Rows.laid_caisson_nodes_sizes
def lIn : List Int := litsOf (H := Unit) Rows.laid_caisson_digests_initial
def lCo : List Int := litsOf (H := Unit) Rows.laid_caisson_digests_constants
theorem dSz : (Rows.laid_caisson_nodes_sizes : DataW Unit) = .agg (lSz.map fun x => .lit (.int .i64 x)) := rfl
theorem dIn : (Rows.laid_caisson_digests_initial : DataW Unit) = .agg (lIn.map fun x => .lit (.int .u32 x)) := rfl
theorem dCo : (Rows.laid_caisson_digests_constants : DataW Unit) = .agg (lCo.map fun x => .lit (.int .u32 x)) := rfl
def nSz : Nat := 608742554432415203373
def nIn : Nat := 41557658498906279274860226408925318911382702236748615442085426012007055353447
def nCo : Nat := 25051139735836467913601071899189108501681633092613316132753366958947502841281110980347811086624969305314199562795868290539880502533646505489797110349007385020507326982043050618112420254613810441709594605123090411975756494285771699200369901479195251226368983824020564277645963860728452821576845901498668417244438721537663670541944820957180957595559282976806173113161068298822071065329290006052849814285001949914564097058408480133985233335799884203712730341384999677089997083749077591931498939520449886954646413138343858395935213418018409268340744776361518554939863400075967197509182087778881547827184266701615699472280
theorem eSz : ∀ i, i < 2 → lSz.getD i 0 = pkg .i64 nSz i := by
  have : ((List.range 2).all fun i => decide (lSz.getD i 0 = pkg .i64 nSz i)) = true := by kernel_rfl
  intro i hi
  exact of_decide_eq_true (List.all_eq_true.1 this i (List.mem_range.2 hi))
theorem eIn : ∀ i, i < 8 → lIn.getD i 0 = pkg .u32 nIn i := by
  have : ((List.range 8).all fun i => decide (lIn.getD i 0 = pkg .u32 nIn i)) = true := by kernel_rfl
  intro i hi
  exact of_decide_eq_true (List.all_eq_true.1 this i (List.mem_range.2 hi))
theorem eCo : ∀ i, i < 64 → lCo.getD i 0 = pkg .u32 nCo i := by
  have : ((List.range 64).all fun i => decide (lCo.getD i 0 = pkg .u32 nCo i)) = true := by kernel_rfl
  intro i hi
  exact of_decide_eq_true (List.all_eq_true.1 this i (List.mem_range.2 hi))
theorem laidMetH_data {P : Program} {l : List (String × DataW Unit)} {w : World} (h : laidMetH P l w) : laidMet P (l.filter fun x => x.2.handleName?.isNone) w := by
  unfold laidMetH at h
  split at h
  · rename_i hf
    have e : (l.filter fun x => x.2.handleName?.isNone) = l := by
      rw [List.filter_eq_self]
      intro x hx
      cases hn : x.2.handleName? with
      | none => rfl
      | some y =>
        have : x ∈ l.filter fun x => x.2.handleName?.isSome := List.mem_filter.2 ⟨hx, by rw [hn]; rfl⟩
        rw [hf] at this
        cases this
    rw [e]; exact h
  · exact h.1
theorem filt4 : (Rows.recoversFreshRow.laid.filter fun x => x.2.handleName?.isNone) = [(nmL 0, Rows.laid_caisson_digests_initial), (nmL 1, Rows.laid_caisson_digests_constants), (nmL 3, Rows.laid_caisson_nodes_sizes)] := by kernel_rfl
theorem of_laid {W : World} (h : laidMetH Tryz.prog Rows.recoversFreshRow.laid W) : (∀ i, i < 2 → W.cell? ⟨1, i, none⟩ = some (.int .i64 (pkg .i64 nSz i))) ∧ (∀ i, i < 8 → W.cell? ⟨3, i, none⟩ = some (.int .u32 (pkg .u32 nIn i))) ∧ ∀ i, i < 64 → W.cell? ⟨4, i, none⟩ = some (.int .u32 (pkg .u32 nCo i)) := by
  replace h := laidMetH_data h
  rw [filt4] at h
  obtain ⟨ps, ⟨g1, t1, cs1, f1, p1, q1, hg1, ht1, hv1, hd1, ⟨g2, t2, cs2, f2, p2, q2, hg2, ht2, hv2, hd2, ⟨g0, t0, cs0, f0, p0, q0, hg0, ht0, hv0, hd0, _, _⟩, _⟩, _⟩, _, _⟩ := h
  obtain rfl := Option.some.inj (gIn.symm.trans hg1)
  obtain rfl := Option.some.inj (gCo.symm.trans hg2)
  obtain rfl := Option.some.inj (gSz.symm.trans hg0)
  obtain rfl := Option.some.inj (tIn.symm.trans ht1)
  obtain rfl := Option.some.inj (tCo.symm.trans ht2)
  obtain rfl := Option.some.inj (tSz.symm.trans ht0)
  have c61 : Tryz.prog.cellsOf 59 = 1 := by kernel_rfl
  have c3 : Tryz.prog.cellsOf 3 = 1 := by kernel_rfl
  rw [dIn] at hd1
  rw [dCo] at hd2
  rw [dSz] at hd0
  have k1 := arr_cells Tryz.underlying355 Tryz.underlying59 c61 hd1
  have k2 := arr_cells Tryz.underlying405 Tryz.underlying59 c61 hd2
  have k0 := arr_cells Tryz.underlying138 Tryz.underlying3 c3 hd0
  refine ⟨fun i hi => ?_, fun i hi => ?_, fun i hi => ?_⟩
  · rw [World.var?_cell hg0 hv0 i, ← eSz i hi, ← k0 i hi]; simp
  · rw [World.var?_cell hg1 hv1 i, ← eIn i hi, ← k1 i hi]; simp
  · rw [World.var?_cell hg2 hv2 i, ← eCo i hi, ← k2 i hi]; simp
def CW (W : World) : Ctx := ⟨fun u b => u = true ∧ b < 5, fun _ => False, fun _ => .bool true, fun _ => .sc, W⟩
theorem CW_glob {W : World} (h : laidMetH Tryz.prog Rows.recoversFreshRow.laid W) (g : Nat) : R (CW W).pur (@Gl.G (@instGl gO) g) (.val (.pointer (some ⟨g, 0, none⟩))) := by
  obtain ⟨h0, h1, h2⟩ := of_laid h
  match g with
  | 0 => trivial
  | 1 => exact ⟨1, 0, rfl, ⟨rfl, by decide⟩, .sc, rfl, fun i hi => ⟨rfl, by rw [Nat.zero_add]; show W.cell? ⟨1, i * 1, none⟩ = _; rw [Nat.mul_one]; exact h0 i hi⟩⟩
  | 2 => trivial
  | 3 => exact ⟨3, 0, rfl, ⟨rfl, by decide⟩, .sc, rfl, fun i hi => ⟨rfl, by rw [Nat.zero_add]; show W.cell? ⟨3, i * 1, none⟩ = _; rw [Nat.mul_one]; exact h1 i hi⟩⟩
  | 4 => exact ⟨4, 0, rfl, ⟨rfl, by decide⟩, .sc, rfl, fun i hi => ⟨rfl, by rw [Nat.zero_add]; show W.cell? ⟨4, i * 1, none⟩ = _; rw [Nat.mul_one]; exact h2 i hi⟩⟩
  | g + 5 => trivial
theorem cell_lt {W : World} {b : Nat} {x : Value} (h : W.cell? ⟨b, 0, none⟩ = some x) : b < W.heap.size := by
  rcases Nat.lt_or_ge b W.heap.size with h1 | h1
  · exact h1
  · have : W.heap[b]? = none := Array.getElem?_eq_none h1
    simp [World.cell?, this] at h
theorem CW_lt {W : World} (h : laidMetH Tryz.prog Rows.recoversFreshRow.laid W) : ∀ u b, (CW W).ok u b → b < (CW W).w.heap.size := by
  rintro u b ⟨_, hb⟩
  have := cell_lt ((of_laid h).2.2 0 (by decide))
  show b < W.heap.size
  omega
theorem Tryz.own : ownKnob Tryz.prog.godebug = none := by kernel_rfl
theorem Tryz.laidOut : laidOutB Tryz.prog = true := by kernel_rfl
theorem door_met (os : Os) (args : Array Value) : laidMetH Tryz.prog Rows.recoversFreshRow.laid ((World.doorLaid Tryz.prog 2000 os).forCall (fun _ _ => 0) ⟨#[], args, []⟩).memory :=
  laidMetH_of_parts3 (fuel := 8) (laidMet_of_run' 8 (by kernel_rfl) (by kernel_rfl)) (by kernel_rfl) (by kernel_rfl)
theorem okWide_st {P : Program} {w : World} {r : Reach} {base : Nat} {t : TypeId} {v : Value} {fs : Array Field} (hs : P.underlying t = some (.struct fs)) (h : Value.okWide P w r base t v) : ∃ cs, v = .agg cs ∧ cs.size = P.cellsOf t ∧ Row.okWide P w r base t cs := by
  unfold Value.okWide at h
  rw [hs] at h
  exact h
theorem fld_int {H : Type} {enc : TypeId × Value → H} {P : Program} {W : World} {base fuel : Nat} {sp : Nat → Bool} {held : Bool} {t : TypeId} {fs : Array Field} {cs : Array Value} {x : DataW H × List MemPlace} {i : Nat} {f : Field} {k : IntKind}
    (hs : P.underlying t = some (.struct fs)) (h : DataW.trod enc P W base sp held fuel t cs.toList = some x) (hi : fs[i]? = some f) (hk : P.underlying f.type = some (.int k)) (hc : P.cellsOf f.type = 1) : ∃ n, cs[f.offset]? = some (.int k n) ∧ (Lit.int k n).wf = true := by
  obtain ⟨xs, n, _, _, _, hlen, hf⟩ := DataW.trod_struct hs h
  have h1 := hf i f hi
  have hxi : i < xs.length := by rw [hlen]; exact (Array.getElem?_eq_some_iff.1 hi).1
  rw [List.getElem?_eq_getElem hxi, hc] at h1
  obtain ⟨v, e1, _, e3⟩ := DataW.trod_int hk h1
  refine ⟨v, ?_, e3⟩
  have := congrArg (fun z => z[0]?) e1
  simpa [List.getElem?_take, List.getElem?_drop] using this
theorem fd81 : (#[{ name := "K", type := 79, offset := 0, embedded := false, tag := "", pkgPath := "", byteOffset := 0 }] : Array Field)[0]? = some { name := "K", type := 79, offset := 0, embedded := false, tag := "", pkgPath := "", byteOffset := 0 } := rfl
theorem cd79 : Tryz.prog.cellsOf 79 = 1 := by kernel_rfl
theorem cd81 : Tryz.prog.cellsOf 81 = 1 := by kernel_rfl
set_option maxRecDepth 100000 in
theorem RecoversFresh_lifted (os : Os) (started : os.Started) (H : Type) (enc : TypeId × Value → H) :
    ReturnsInHanded {} Tryz.checked os 4 .any (fun w args => (Rows.recoversFreshSpec.pre enc Tryz.prog Tryz.f4 [] false w args ∧ laidMetH Tryz.prog Rows.recoversFreshRow.laid w) ∧ sizedMet enc Tryz.prog Tryz.f4 (OpenSpec.ofChange Rows.recoversFreshSpec) false w args)
      (Rows.recoversFreshSpec.post enc Tryz.prog Tryz.f4 false true false false) := by
  refine returnsInHanded_of_change_and (C := Tryz.checked) (X := fun w _ => laidMetH Tryz.prog Rows.recoversFreshRow.laid w) (fun _ _ _ hh h => h.of_heap hh) Tryz.own started (by kernel_rfl) Tryz.func4
    (ChangeSpec.witness_shaped (enc := enc) (C := Tryz.checked) (os := os) (X := fun w _ => laidMetH Tryz.prog Rows.recoversFreshRow.laid w) false (World.doorLaid Tryz.prog 2000 os) #[.agg #[.int .u16 0], .int .i64 0] 8 rfl (World.shaped_of_RefB (by kernel_rfl) (by kernel_rfl)) (by kernel_rfl) (by kernel_rfl) (by kernel_rfl) (door_met os _)) ?_
  intro W base args ds gs before hval0 hW _ _ hL _
  have hval : ∀ (j : Nat) t v, Tryz.f4.params[j]? = some t → args[j]? = some v → Value.okWide Tryz.prog W .any base t v := hval0
  have hW' := hW
  obtain ⟨p, q, hA0, hV, rfl, hfz, hnd⟩ := hW
  have hA : DataW.TrodAll enc Tryz.prog W 0 (fun _ => true) true Tryz.f4.params.toList args.toList ds p := hA0
  rw [Tryz.params4] at hA hval
  obtain ⟨rfl, rfl⟩ := trodVars_none hV
  obtain ⟨v0, r1, d0, e1, a1, b1, hv0, rfl, rfl, h0, hA1⟩ := trodAll_cons (show DataW.TrodAll enc Tryz.prog W 0 (fun _ => true) true (81 :: [3]) args.toList ds p from hA)
  obtain ⟨v1, r2, d1, e2, a2, b2, rfl, rfl, rfl, h1, hA2⟩ := trodAll_cons hA1
  obtain ⟨rfl, rfl, rfl⟩ := trodAll_nil hA2
  obtain rfl : args = #[v0, v1] := Array.toList_inj.1 (by rw [hv0])
  obtain ⟨cs, rfl, hcs, _⟩ := okWide_st Tryz.underlying81 (hval 0 81 v0 rfl rfl)
  obtain ⟨fuel, hf⟩ := h0
  have hc1 : cs.size = 1 := by rw [hcs]; exact cd81
  have hf : DataW.trod enc Tryz.prog W 0 (fun _ => true) true fuel 81 cs.toList = some (d0, a1) := hf
  obtain ⟨K, hK, wK⟩ := fld_int Tryz.underlying81 hf fd81 Tryz.underlying79 cd79
  obtain ⟨x, rfl, rfl, rfl, wx⟩ := open_int Tryz.underlying3 (hval 1 3 v1 rfl rfl) h1
  obtain ⟨y0, y1⟩ := bounds_u16 wK
  obtain ⟨k, rfl⟩ : ∃ k : Nat, K = .ofNat k := ⟨K.toNat, by show K = ((K.toNat : Nat) : Int); omega⟩
  have hk : k < 65536 := by have : Int.ofNat k = (k : Int) := rfl; omega
  have hrel : R (CW W).pur (mkL ([KV.cons (.int .u16 (.ofNat k)) .nl, .int .i64 x].map KV.v)) (.list [.agg cs, .int .i64 x]) :=
    ⟨_, _, rfl, ⟨cs, .sc, .nl, rfl, by rw [hc1]; rfl, ⟨rfl, hK⟩, rfl⟩, _, _, rfl, rfl, rfl⟩
  have hc := @calls_kcs gO Tryz.prog 4 s4 kcs4 (CW W) [.cons (.int .u16 (.ofNat k)) .nl, .int .i64 x] [.agg cs, .int .i64 x] (CW_lt hL) (CW_glob hL) hrel ⟨k, x, hk, rfl, rfl⟩ rfl
  refine hc.mono ?_
  rintro e W' ⟨hb, he⟩
  exact ⟨_, he, law_post Tryz.laidOut hW' (by kernel_rfl) rfl rfl (by kernel_rfl) Tryz.underlying4 hb⟩
theorem RecoversFresh_said : Rows.RecoversFreshSaid :=
  OpenClaim.holds_of_wide 4 Tryz.f4 rfl rfl rfl rfl rfl rfl rfl ⟨rfl, rfl, rfl, rfl, rfl⟩ rfl rfl rfl rfl rfl cf4 Tryz.func4 facts4
    (of_decide_eq_true (by kernel_rfl)) (by unfold Func.isWrapper; rw [if_neg (by decide +kernel)]; exact ⟨rfl, rfl⟩)
    (fun os started H enc _ => RecoversFresh_lifted os started H enc)
theorem RecoversFresh_holds : Rows.RecoversFreshCardSaid :=
  Claim7.holds_tied_plain_at .later [] [.data, .data, .handle, .data] true (true, "6fac96ebe54569f97cab989157ff8600b0f64b10956e1d40609f2ca4e8e8c1d7") true
    RecoversFresh_said (fun _ h => by cases h) cw4 (fun _ h => by cases h) recoversFresh_row_tie rfl ⟨rfl, rfl⟩ cm4 rfl
    (fun f fn hf hfn => by
      obtain rfl : f = 4 := Option.some.inj (cf4.symm.trans hf) |>.symm
      obtain rfl : fn = Tryz.f4 := (Option.some.inj (Tryz.func4.symm.trans hfn)).symm
      exact ⟨cl4, fun j t ht => by
        rw [Tryz.params4] at ht
        have hm : t ∈ [81, 3] := by simpa using Array.mem_of_getElem? ht
        have hall : ([81, 3].all fun u => !Tryz.prog.wantsStandIn u) = true := by kernel_rfl
        exact (show Tryz.prog.wantsStandIn t = false by simpa using List.all_eq_true.1 hall t hm)⟩)
    cg4
end
end Go.K
