/- StoresKnown: from the run to the card. No condition. -/
import Derived.Test.YtfpmealbbibhpaaGreatDoorSRT3
import Derived.Test.YtfpmealbbibhpaaGreatDoorK19
import Derived.Stop.LaidErr
import Derived.Test.YtfpmealbbibhpaaGreatDoorSK9J
import Derived.Test.YtfpmealbbibhpaaGreatDoorKTie
import Derived.Test.YtfpmealbbibhpaaGreatDoorChecked
import Derived.Test.YtfpmealbbibhpaaGreatDoorRows
import Derived.Test.YtfpmealbbibhpaaGreatDoorTie
import Derived.Test.YtfpmealbbibhpaaGreatDoorCards
import Derived.LaidMore
import Derived.OpenShut
import Derived.Stop.Joined
import Derived.SevenTiedAt
set_option linter.unusedVariables false
namespace Go.K
open Go.Ab Go.Y Go.Proofs Go.ChangeShapes Go.WideShapes Go.ChangeAt Go.WideMaps Go.WideElems Go.RowKit
open Go.Proofs.YtfpmealbbibhpaaGreatDoor
noncomputable section
attribute [local irreducible] krun callR
def litsOf {H : Type} : DataW H → List Int
  | .agg l => l.map fun x => match x with
    | .lit (.int _ n) => n
    | _ => 0
  | _ => []
def nmL (i : Nat) : String := (Rows.storesKnownRow.laid.getD i (Rows.storesKnownRow.func, .nil)).1
theorem gSz : Tryz.prog.globalNamed (nmL 3) = some 1 := by kernel_rfl
theorem gIn : Tryz.prog.globalNamed (nmL 0) = some 3 := by kernel_rfl
theorem gCo : Tryz.prog.globalNamed (nmL 1) = some 4 := by kernel_rfl
theorem tSz : (Tryz.prog.globals[1]?).map (·.type) = some 138 := by kernel_rfl
theorem tIn : (Tryz.prog.globals[3]?).map (·.type) = some 355 := by kernel_rfl
theorem tCo : (Tryz.prog.globals[4]?).map (·.type) = some 405 := by kernel_rfl
def lSz : List Int := litsOf (H := Unit) Rows.laid_caisson_nodes_sizes
def lIn : List Int := litsOf (H := Unit) Rows.laid_caisson_digests_initial
def lCo : List Int := litsOf (H := Unit) Rows.laid_caisson_digests_constants
theorem dSz : (Rows.laid_caisson_nodes_sizes : DataW Unit) = .agg (lSz.map fun x => .lit (.int .i64 x)) := rfl
theorem dIn : (Rows.laid_caisson_digests_initial : DataW Unit) = .agg (lIn.map fun x => .lit (.int .u32 x)) := rfl
theorem dCo : (Rows.laid_caisson_digests_constants : DataW Unit) = .agg (lCo.map fun x => .lit (.int .u32 x)) := rfl
def nSz : Nat := 608742554432415203373
def nIn : Nat := 41557658498906279274860226408925318911382702236748615442085426012007055353447
def nCo : Nat := 25051139735836467913601071899189108501681633092613316132753366958947502841281110980347811086624969305314199562795868290539880502533646505489797110349007385020507326982043050618112420254613810441709594605123090411975756494285771699200369901479195251226368983824020564277645963860728452821576845901498668417244438721537663670541944820957180957595559282976806173113161068298822071065329290006052849814285001949914564097058408480133985233335799884203712730341384999677089997083749077591931498939520449886954646413138343858395935213418018409268340744776361518554939863400075967197509182087778881547827184266701615699472280
theorem eSz : ∀ i, i < 2 → lSz.getD i 0 = pkg .i64 nSz i := by
  have : ((List.range 2).all fun i => decide (lSz.getD i 0 = pkg .i64 nSz i)) = true := by kernel_rfl
  intro i hi
  exact of_decide_eq_true (List.all_eq_true.1 this i (List.mem_range.2 hi))
theorem eIn : ∀ i, i < 8 → lIn.getD i 0 = pkg .u32 nIn i := by
  have : ((List.range 8).all fun i => decide (lIn.getD i 0 = pkg .u32 nIn i)) = true := by kernel_rfl
  intro i hi
  exact of_decide_eq_true (List.all_eq_true.1 this i (List.mem_range.2 hi))
theorem eCo : ∀ i, i < 64 → lCo.getD i 0 = pkg .u32 nCo i := by
  have : ((List.range 64).all fun i => decide (lCo.getD i 0 = pkg .u32 nCo i)) = true := by kernel_rfl
  intro i hi
  exact of_decide_eq_true (List.all_eq_true.1 this i (List.mem_range.2 hi))
theorem laidMetH_data {P : Program} {l : List (String × DataW Unit)} {w : World} (h : laidMetH P l w) : laidMet P (l.filter fun x => x.2.handleName?.isNone) w := by
  unfold laidMetH at h
  split at h
  · rename_i hf
    have e : (l.filter fun x => x.2.handleName?.isNone) = l := by
      rw [List.filter_eq_self]
      intro x hx
      cases hn : x.2.handleName? with
      | none => rfl
      | some y =>
        have : x ∈ l.filter fun x => x.2.handleName?.isSome := List.mem_filter.2 ⟨hx, by rw [hn]; rfl⟩
        rw [hf] at this
        cases this
    rw [e]; exact h
  · exact h.1
theorem filt7 : (Rows.storesKnownRow.laid.filter fun x => x.2.handleName?.isNone) = [(nmL 0, Rows.laid_caisson_digests_initial), (nmL 1, Rows.laid_caisson_digests_constants), (nmL 3, Rows.laid_caisson_nodes_sizes), (nmL 4, Rows.laid_caisson_stores_errPoison)] := by kernel_rfl
theorem of_laid {W : World} (h : laidMetH Tryz.prog Rows.storesKnownRow.laid W) : (∀ i, i < 2 → W.cell? ⟨1, i, none⟩ = some (.int .i64 (pkg .i64 nSz i))) ∧ (∀ i, i < 8 → W.cell? ⟨3, i, none⟩ = some (.int .u32 (pkg .u32 nIn i))) ∧ ∀ i, i < 64 → W.cell? ⟨4, i, none⟩ = some (.int .u32 (pkg .u32 nCo i)) := by
  replace h := laidMetH_data h
  rw [filt7] at h
  obtain ⟨ps, ⟨g1, t1, cs1, f1, p1, q1, hg1, ht1, hv1, hd1, ⟨g2, t2, cs2, f2, p2, q2, hg2, ht2, hv2, hd2, ⟨g0, t0, cs0, f0, p0, q0, hg0, ht0, hv0, hd0, ⟨_, _, _, _, _, _, _, _, _, _, _, _⟩, _⟩, _⟩, _⟩, _, _⟩ := h
  obtain rfl := Option.some.inj (gIn.symm.trans hg1)
  obtain rfl := Option.some.inj (gCo.symm.trans hg2)
  obtain rfl := Option.some.inj (gSz.symm.trans hg0)
  obtain rfl := Option.some.inj (tIn.symm.trans ht1)
  obtain rfl := Option.some.inj (tCo.symm.trans ht2)
  obtain rfl := Option.some.inj (tSz.symm.trans ht0)
  have c61 : Tryz.prog.cellsOf 59 = 1 := by kernel_rfl
  have c3 : Tryz.prog.cellsOf 3 = 1 := by kernel_rfl
  rw [dIn] at hd1
  rw [dCo] at hd2
  rw [dSz] at hd0
  have k1 := arr_cells Tryz.underlying355 Tryz.underlying59 c61 hd1
  have k2 := arr_cells Tryz.underlying405 Tryz.underlying59 c61 hd2
  have k0 := arr_cells Tryz.underlying138 Tryz.underlying3 c3 hd0
  refine ⟨fun i hi => ?_, fun i hi => ?_, fun i hi => ?_⟩
  · rw [World.var?_cell hg0 hv0 i, ← eSz i hi, ← k0 i hi]; simp
  · rw [World.var?_cell hg1 hv1 i, ← eIn i hi, ← k1 i hi]; simp
  · rw [World.var?_cell hg2 hv2 i, ← eCo i hi, ← k2 i hi]; simp
theorem star7 : "*" ++ "errors.errorString" = "*errors.errorString" := by decide
theorem row503 (u : TypeId) (h : Tryz.prog.typeName? 3 u = some "*errors.errorString") : u = 503 :=
  typeName_ptr_named (nm := "errors.errorString") (by rw [star7]; kernel_rfl) (by kernel_rfl) (by decide) u (by rw [star7]; exact h)
theorem gEr : Tryz.prog.globalNamed (nmL 4) = some 0 := by kernel_rfl
theorem tEr : (Tryz.prog.globals[0]?).map (·.type) = some 232 := by kernel_rfl
theorem errS : ∃ te ts f, Tryz.prog.underlying 503 = some (.pointer te) ∧ Tryz.prog.underlying te = some (.struct #[f]) ∧ f.type = ts ∧ f.offset = 0 ∧ Tryz.prog.underlying ts = some .string ∧ Tryz.prog.cellsOf te = 1 ∧ Tryz.prog.cellsOf ts = 1 := ⟨_, _, _, Tryz.underlying503, Tryz.underlying523, rfl, rfl, Tryz.underlying9, by kernel_rfl, by kernel_rfl⟩
theorem laid_err {W : World} (h : laidMetH Tryz.prog Rows.storesKnownRow.laid W) : ∃ a, W.cell? ⟨0, 0, none⟩ = some (.iface 503 (.pointer (some a))) := by
  replace h := laidMetH_data h
  rw [filt7] at h
  have h4 := h.tail.tail.tail
  obtain ⟨te, ts, f, e1, e2, e3, e4, e5, e6, e7⟩ := errS
  obtain ⟨a, s, h5, _⟩ := laid_sentinel h4 gEr tEr Tryz.underlying232 row503 e1 e2 e3 e4 e5 e6 e7
  exact ⟨a, by simpa using World.var?_cell gEr h5 0⟩
theorem gEt : Tryz.prog.globalNamed "errors.errorType" = some 2 := by kernel_rfl
theorem rtE : (Tryz.prog.cutTypes.find? (·.1 == "internal/reflectlite.rtype")).map (·.2) = some 437 := by kernel_rfl
theorem oneRow : ((List.range 534).filter fun t => Tryz.prog.rowNamed t [101, 114, 114, 111, 114]) = [232] := by kernel_rfl
theorem sizeT : Tryz.prog.types.size = 534 := by kernel_rfl
theorem laid_type {W : World} (h : laidMetH Tryz.prog Rows.storesKnownRow.laid W) : W.cell? ⟨2, 0, none⟩ = some (.iface 437 (.agg #[.pointer (some ⟨5, 232, none⟩)])) := by
  have hf : (Rows.storesKnownRow.laid.filter fun x => x.2.handleName?.isSome) = [("errors.errorType", Rows.laid_errors_errorType)] := by kernel_rfl
  unfold laidMetH at h
  rw [hf] at h
  obtain ⟨name, u, ty, e1, e2, e3, e4, e5⟩ := h.2 _ (List.mem_singleton.2 rfl)
  have en : name = [101, 114, 114, 111, 114] := (Option.some.inj e1).symm
  subst en
  obtain rfl := Option.some.inj (rtE.symm.trans e2)
  have hm : ty ∈ (List.range 534).filter fun t => Tryz.prog.rowNamed t [101, 114, 114, 111, 114] := List.mem_filter.2 ⟨List.mem_range.2 (by rw [← sizeT]; exact e3), e4⟩
  rw [oneRow] at hm
  obtain rfl := List.mem_singleton.1 hm
  have hh : typeHandle Tryz.prog 232 = .pointer (some ⟨5, 232, none⟩) := by kernel_rfl
  rw [hh] at e5
  simpa using World.var?_cell gEt e5 0
theorem R_err {W : World} {C : Ctx} (hw : C.w = W) (ho : C.ok true 0) (h : ∃ a, W.cell? ⟨0, 0, none⟩ = some (.iface 503 (.pointer (some a)))) : R C gErr.v (.val (.pointer (some ⟨0, 0, none⟩))) := by
  subst hw
  obtain ⟨a, h⟩ := h
  have hg : gOk C.pur 9117368320 := fun _ _ => ⟨ho, a, h⟩
  let cs : FC 9117368320 := ⟨#[], #[.nilIface], fun _ => rfl, fun _ => rfl⟩
  obtain ⟨h1, _⟩ := FC.vw_gl (by decide) (by decide) hg cs
  exact ⟨0, 0, rfl, ho, cs, ⟨rfl, h1⟩, ⟨_, _, rfl, trivial, rfl⟩, hg⟩
theorem R_errT {W : World} {C : Ctx} (hw : C.w = W) (ho : C.ok true 2) (h : W.cell? ⟨2, 0, none⟩ = some (.iface 437 (.agg #[.pointer (some ⟨5, 232, none⟩)]))) : R C gErrT.v (.val (.pointer (some ⟨2, 0, none⟩))) := by
  subst hw
  let c1 : FC 17185112296 := ⟨#[], #[.nilIface], fun h => absurd h (by decide), fun _ => rfl⟩
  let cs : FC 2147484086 := ⟨#[], #[.agg #[.pointer (some ⟨5, 232, none⟩)]], fun _ => rfl, fun _ => rfl⟩
  have h1 : c1.vw C.pur.pur.w = .pointer (some ⟨5, 232, none⟩) := by rw [FC.vw_ptr (by decide)]
  have h2 : cs.vw C.pur.w = .iface 437 (.agg #[.pointer (some ⟨5, 232, none⟩)]) := by rw [FC.vw_lt (by decide)]; rfl
  refine ⟨2, 0, rfl, ho, cs, ⟨rfl, by rw [h2]; exact h⟩, ⟨_, _, rfl, ⟨_, .sc, .nl, rfl, rfl, ⟨c1, ⟨rfl, ?_⟩, ⟨_, _, rfl, trivial, rfl⟩, fun _ h => absurd h (by decide)⟩, rfl⟩, rfl⟩, gOk.lt (by decide)⟩
  show some (Value.pointer (some ⟨5, 232, none⟩)) = some _
  rw [← h1]
  rfl
def CW (W : World) : Ctx := ⟨fun u b => u = true ∧ b < 5, fun _ => False, fun _ => .bool true, fun _ => .sc, W⟩
theorem CW_glob {W : World} (h : laidMetH Tryz.prog Rows.storesKnownRow.laid W) (g : Nat) : R (CW W).pur (@Gl.G (@instGl kgL) g) (.val (.pointer (some ⟨g, 0, none⟩))) := by
  obtain ⟨h0, h1, h2⟩ := of_laid h
  match g with
  | 0 => exact R_err (C := (CW W).pur) rfl ⟨rfl, by decide⟩ (laid_err h)
  | 1 => exact ⟨1, 0, rfl, ⟨rfl, by decide⟩, .sc, rfl, fun i hi => ⟨rfl, by rw [Nat.zero_add]; show W.cell? ⟨1, i * 1, none⟩ = _; rw [Nat.mul_one]; exact h0 i hi⟩⟩
  | 2 => exact R_errT (C := (CW W).pur) rfl ⟨rfl, by decide⟩ (laid_type h)
  | 3 => exact ⟨3, 0, rfl, ⟨rfl, by decide⟩, .sc, rfl, fun i hi => ⟨rfl, by rw [Nat.zero_add]; show W.cell? ⟨3, i * 1, none⟩ = _; rw [Nat.mul_one]; exact h1 i hi⟩⟩
  | 4 => exact ⟨4, 0, rfl, ⟨rfl, by decide⟩, .sc, rfl, fun i hi => ⟨rfl, by rw [Nat.zero_add]; show W.cell? ⟨4, i * 1, none⟩ = _; rw [Nat.mul_one]; exact h2 i hi⟩⟩
  | g + 5 => trivial
theorem cell_lt {W : World} {b : Nat} {x : Value} (h : W.cell? ⟨b, 0, none⟩ = some x) : b < W.heap.size := by
  rcases Nat.lt_or_ge b W.heap.size with h1 | h1
  · exact h1
  · have : W.heap[b]? = none := Array.getElem?_eq_none h1
    simp [World.cell?, this] at h
theorem CW_lt {W : World} (h : laidMetH Tryz.prog Rows.storesKnownRow.laid W) : ∀ u b, (CW W).ok u b → b < (CW W).w.heap.size := by
  rintro u b ⟨_, hb⟩
  have := cell_lt ((of_laid h).2.2 0 (by decide))
  show b < W.heap.size
  omega
theorem Tryz.own : ownKnob Tryz.prog.godebug = none := by kernel_rfl
theorem Tryz.laidOut : laidOutB Tryz.prog = true := by kernel_rfl
theorem door_met (os : Os) (args : Array Value) : laidMetH Tryz.prog Rows.storesKnownRow.laid ((World.doorLaid Tryz.prog 2000 os).forCall (fun _ _ => 0) ⟨#[], args, []⟩).memory :=
  laidMetH_of_parts3 (fuel := 8) (laidMet_of_run' 8 (by kernel_rfl) (by kernel_rfl)) (by kernel_rfl) (by kernel_rfl)
set_option maxRecDepth 100000 in
theorem StoresKnown_lifted (os : Os) (started : os.Started) (H : Type) (enc : TypeId × Value → H) :
    ReturnsInHanded {} Tryz.checked os 7 .any (fun w args => (Rows.storesKnownSpec.pre enc Tryz.prog Tryz.f7 [] false w args ∧ laidMetH Tryz.prog Rows.storesKnownRow.laid w) ∧ sizedMet enc Tryz.prog Tryz.f7 (OpenSpec.ofChange Rows.storesKnownSpec) false w args)
      (Rows.storesKnownSpec.post enc Tryz.prog Tryz.f7 false true false false) := by
  refine returnsInHanded_of_change_and (C := Tryz.checked) (X := fun w _ => laidMetH Tryz.prog Rows.storesKnownRow.laid w) (fun _ _ _ hh h => h.of_heap hh) Tryz.own started (by kernel_rfl) Tryz.func7
    (ChangeSpec.witness_shaped (enc := enc) (C := Tryz.checked) (os := os) (X := fun w _ => laidMetH Tryz.prog Rows.storesKnownRow.laid w) false (World.doorLaid Tryz.prog 2000 os) #[] 8 rfl (World.shaped_of_RefB (by kernel_rfl) (by kernel_rfl)) (by kernel_rfl) (by kernel_rfl) (by kernel_rfl) (door_met os _)) ?_
  intro W base args ds gs before hval0 hW _ _ hL _
  have hW' := hW
  obtain ⟨p, q, hA0, hV, rfl, hfz, hnd⟩ := hW
  have hA : DataW.TrodAll enc Tryz.prog W 0 (fun _ => true) true Tryz.f7.params.toList args.toList ds p := hA0
  rw [Tryz.params7] at hA
  obtain ⟨rfl, rfl⟩ := trodVars_none hV
  obtain ⟨hv0, rfl, rfl⟩ := trodAll_nil (show DataW.TrodAll enc Tryz.prog W 0 (fun _ => true) true [] args.toList ds p from hA)
  obtain rfl : args = #[] := Array.toList_inj.1 (by rw [hv0])
  have hc := @calls_kcs kgL Tryz.prog 7 (kcon [] (.bool true)) kcs7 (CW W) [] [] (CW_lt hL) (CW_glob hL) rfl rfl rfl
  refine hc.mono ?_
  rintro e W' ⟨hb, he⟩
  exact ⟨_, he, law_post Tryz.laidOut hW' (by kernel_rfl) rfl rfl (by kernel_rfl) Tryz.underlying4 hb⟩
theorem StoresKnown_said : Rows.StoresKnownSaid :=
  OpenClaim.holds_of_wide 7 Tryz.f7 rfl rfl rfl rfl rfl rfl rfl ⟨rfl, rfl, rfl, rfl, rfl⟩ rfl rfl rfl rfl rfl cf7 Tryz.func7 facts7
    (of_decide_eq_true (by kernel_rfl)) (by unfold Func.isWrapper; rw [if_neg (by decide +kernel)]; exact ⟨rfl, rfl⟩)
    (fun os started H enc _ => StoresKnown_lifted os started H enc)
theorem StoresKnown_holds : Rows.StoresKnownCardSaid :=
  Claim7.holds_tied_plain_at .later [] [.data, .data, .handle, .data, .sentinel] true (true, "6fac96ebe54569f97cab989157ff8600b0f64b10956e1d40609f2ca4e8e8c1d7") true
    StoresKnown_said (fun _ h => by cases h) cw7 (fun _ h => by cases h) storesKnown_row_tie rfl ⟨rfl, rfl⟩ cm7 rfl
    (fun f fn hf hfn => by
      obtain rfl : f = 7 := Option.some.inj (cf7.symm.trans hf) |>.symm
      obtain rfl : fn = Tryz.f7 := (Option.some.inj (Tryz.func7.symm.trans hfn)).symm
      exact ⟨cl7, fun j t ht => by
        rw [Tryz.params7] at ht
        simp at ht⟩)
    cg7
end
end Go.K
