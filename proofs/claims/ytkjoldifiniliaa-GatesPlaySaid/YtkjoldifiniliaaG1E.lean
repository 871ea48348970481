/- The gates: types and contracts. No condition. -/
import Derived.Test.YtkjoldifiniliaaG1D
import Derived.Test.YtkjoldifiniliaaRows
set_option linter.unusedVariables false
set_option linter.unusedSimpArgs false
namespace Go.Ab
open Go.Proofs

def tabV (j : Nat) : V := V.ite (j == 3) (.fn 26 .nl) (V.ite (j == 2) (.fn 9 .nl) (V.ite (j == 1) (.fn 29 .nl) (V.ite (j == 0) (.fn 28 .nl) .nilf)))
theorem bd51 : aBuild Try.prog 51 [(0, .fn 28 .nl), (1, .fn 29 .nl), (2, .fn 9 .nl), (3, .fn 26 .nl)] = okP (pureE (.arr 4 tabV)) := by kernel_rfl
theorem tab1 : ((List.range 4).all fun i => (tabV i).fits .sc) = true := by kernel_rfl
theorem tab2 : ((List.range 4).all fun i => noId (tabV i)) = true := by kernel_rfl
theorem tab3 : ((List.range 4).all fun i => noRef (tabV i)) = true := by kernel_rfl
theorem tab4 (n : Nat) : ∀ i, i < 4 → (tabV i).bel n
  | 0, _ => trivial
  | 1, _ => trivial
  | 2, _ => trivial
  | 3, _ => trivial
  | i + 4, h => by omega
theorem tab_0 : tabV 0 = .fn 28 .nl := rfl
theorem tab_1 : tabV 1 = .fn 29 .nl := rfl
theorem tab_2 : tabV 2 = .fn 9 .nl := rfl
theorem tab_3 : tabV 3 = .fn 26 .nl := rfl
theorem chk01 (c i : Int) : chk c i = 0 ∨ chk c i = 1 := by unfold chk; split <;> simp
theorem do_0 (c i t : Int) : doE c i 0 t = enE c i ∧ (enE c i = 0 → doC c i 0 t = c ∧ doI c i 0 t = i + 1) := by
  have := chk01 c i
  simp only [doC, doI, doE, enE, chk] at *; grind
theorem do_1 (c i t : Int) : doE c i 1 t = leE c i ∧ (leE c i = 0 → doC c i 1 t = c ∧ doI c i 1 t = i - 1) := by
  have := chk01 c i
  simp only [doC, doI, doE, leE, chk] at *; grind
theorem do_2 (c i t : Int) : doE c i 2 t = clE c i t ∧ (clE c i t = 0 → doC c i 2 t = t ∧ doI c i 2 t = i) := by
  have := chk01 c i
  simp only [doC, doI, doE, clE, rdy, chk] at *; grind
theorem do_3 (c i t : Int) : doE c i 3 t = opE c i t ∧ (opE c i t = 0 → doC c i 3 t = -1 ∧ doI c i 3 t = i) := by
  have := chk01 c i
  simp only [doC, doI, doE, opE, rdy, chk] at *; grind
theorem do_4 (c i k t : Int) (h : 4 ≤ k) : doE c i k t = 1 := by
  have := chk01 c i
  simp only [doE]; grind
theorem doE_0 (c i k t : Int) : 0 ≤ doE c i k t := by
  simp only [doE]; grind
def s27 : CSpec := { pre := fun l => l = [], res := fun l => match l with | [] => (.arr 4 tabV) | _ => .unk }
theorem s27_res  : s27.res [] = (.arr 4 tabV) := rfl
theorem s27_pre  : s27.pre [] := rfl
theorem s27_fresh : s27.fresh = false := rfl
set_option maxRecDepth 100000 in
set_option maxHeartbeats 4000000 in
theorem c27 : CSound Try.prog 27 s27 := by
  refine csound_of (ct := ctL []) (N := 2) (rs := [.cell 0 51]) (CT.nil _) (by kernel_rfl) Try.func27 rfl (by kernel_rfl) (by kernel_rfl) rfl rfl ?_
  rintro _ rfl
  show vc Try.prog _ _ _ _ ⟨[.unk, .unk], []⟩
  simp (maxSteps := 10000000) only [vc_skip, vc_region, vc_draw, vc_seq, vc_block, vc_scope, vc_exit, vc_ret, vc_label, vc_cond, vcC_bool, nK_eq, dK_eq, thenQ_normal, thenQ_ret, thenQ_exit, blockQ_normal, blockQ_ret, blockQ_exit, scopeQ_normal, scopeQ_ret, scopeQ_exit, rr_nil, rr_free, rr_guard, rrH_some, dstOf_zero, dstOf_succ, rrS_some, rrS_ok, rrG_bool, rrG_skip, x_move, x_assign, x_pick, pick_bool, x_alloc, x_box, x_load, x_store, x_nilCheck, x_bin, x_un, x_conv, x_field, x_index, x_extract, x_call, callF_fn, callC_some, ctL_cons, opv_tmp, opv_const, opv_func, V.ofVal, St.t_mk, getD_zero, getD_succ, List.set_cons_zero, List.set_cons_succ, St.ap_pure, St.ap_new, St.ap_up, St.ap_skip, St.ap_none, lit_tmp, lit_const, bxS_ok, fdS_ptr, fdS_ref, fdO_some, Shape.fld, Shape.beq, Shape.size, ldS_ptr, ldS_ref, ldB_box, ldB_row, stS_ptr, stB_box, stB_row, V.fits, V.known, V.path, V.step, V.fld, V.set, V.setFld, V.ite, bin_add, bin_sub, bin_mul, bin_eql, bin_neq, bin_lss, bin_leq, bin_gtr, bin_geq, bin_and, bin_or, bin_xor, bin_quo, bin_rem, bin_shl, bin_shr, endQ_ret, endQ_normal, rtB_some, rtC_some, res_int, res_bool, res_str, res_nl, res_nilp, res_nils, res_nilf, res_ref, res_ro, res_fn, res_arr, resIf_true, res_cons, resC_some, res_tup, resT_some, res_row, resRow_some, res_sl, resSlB_box, resSlB_row, resSl_arr, res_ptr, resPtrB_box, resPtrB_row, resPtr_ok, noId, noRef, resAll_one, resAll_none, resAll_more, tupO_some, resL_nil, resL_cons, consO_some, resV_tmp, rcS_ptr, rcB_box, callR_nil, callR_cons, unL, appL, borrow, extr_tup, exO_some, nth_zero, nth_succ, x_build, x_buildSlice, x_len, x_makeFunc, V.le, V.own, aNil, aUn, List.map_cons, List.map_nil, List.nil_append, List.cons_append, List.append_nil, List.getElem?_cons_zero, List.getElem?_cons_succ, List.length_nil, List.length_cons, Nat.reduceAdd, Nat.reduceLT, Nat.reduceEqDiff, Nat.zero_add, Nat.add_zero, Bool.and_true, Bool.true_and, Bool.and_self, Bool.and_false, Bool.false_and, Bool.or_true, Bool.or_false, Bool.true_or, Bool.false_or, Bool.not_true, Bool.not_false, Bool.cond_true, Bool.cond_false, Bool.false_eq_true, Bool.true_eq_false, reduceCtorEq, ↓reduceIte, decide_true, decide_false, decide_eq_true_eq, decide_eq_false_iff_not, and_true, true_and, false_and, and_false, and_self, or_true, true_or, or_false, false_or, not_true, not_false_eq_true, forall_const, false_implies, implies_true, true_implies, Option.map_some, ite_true, ite_false, V.int.injEq, V.bool.injEq, V.cons.injEq, V.tup.injEq, beq_iff_eq, bne_iff_ne, Bool.and_eq_true, Bool.or_eq_true, Bool.not_eq_true, Bool.not_eq_false, Bool.not_eq_true', Bool.not_eq_false', ne_eq, loopQ_normal, loopQ_ret, loopQ_exit, ix_row, lenS_row, lenS_ro, lenS_sl, lenS_nils, Int.toNat_natCast, V.len, bstep, bset, Blk.alive, Option.some.injEq, Nat.reduceBEq, bne_eq_false_iff_eq, beq_eq_false_iff_ne, ncast,
    st_at ts51, al_at z51, resV_cell ts51 us51, bd51, tab1, tab2, tab3, V.le_refl, s27_res, s27_fresh]
def s14 : CSpec := { pre := fun l => ∃ (c i : Int) (u clip : Bool) (n : Nat) (k t : Nat → Int), l = [(.cons (.int .i64 c) (.cons (.int .i64 i) .nl)), (.ro u clip (.cons .sc (.cons .sc .nl)) n (fun j => .cons (.int .u8 (k j)) (.cons (.int .i64 (t j)) .nl)))] ∧ (n ≤ 5000 ∧ ∀ j, 0 ≤ k j), res := fun l => match l with | [.cons (.int _ c) (.cons (.int _ i) .nl), .ro _ _ _ n f] => .tup (.cons (.cons (.int .i64 (play (kOf f) (tOf f) n c i).1) (.cons (.int .i64 (play (kOf f) (tOf f) n c i).2.1) .nl)) (.cons (.int .i64 (play (kOf f) (tOf f) n c i).2.2.1) (.cons (.int .i64 (play (kOf f) (tOf f) n c i).2.2.2) .nl))) | _ => .unk }
theorem s14_res (c i : Int) (u clip : Bool) (n : Nat) (k t : Nat → Int) : s14.res [(.cons (.int .i64 c) (.cons (.int .i64 i) .nl)), (.ro u clip (.cons .sc (.cons .sc .nl)) n (fun j => .cons (.int .u8 (k j)) (.cons (.int .i64 (t j)) .nl)))] = .tup (.cons (.cons (.int .i64 (play k t n c i).1) (.cons (.int .i64 (play k t n c i).2.1) .nl)) (.cons (.int .i64 (play k t n c i).2.2.1) (.cons (.int .i64 (play k t n c i).2.2.2) .nl))) := rfl
theorem s14_pre (c i : Int) (u clip : Bool) (n : Nat) (k t : Nat → Int) (h : n ≤ 5000 ∧ ∀ j, 0 ≤ k j) : s14.pre [(.cons (.int .i64 c) (.cons (.int .i64 i) .nl)), (.ro u clip (.cons .sc (.cons .sc .nl)) n (fun j => .cons (.int .u8 (k j)) (.cons (.int .i64 (t j)) .nl)))] := ⟨c, i, u, clip, n, k, t, rfl, h⟩
theorem s14_fresh : s14.fresh = false := rfl

def inv14 (clip : Bool) (n : Nat) (k t : Nat → Int) (c i : Int) (m : Nat) (S : St) : Prop := ∃ (j : Nat) (c' i' : Int), j + m = n ∧ plR k t m j c' i' = play k t n c i ∧ S = ⟨[.unk, (.ro true clip (.cons .sc (.cons .sc .nl)) n (fun j => .cons (.int .u8 (k j)) (.cons (.int .i64 (t j)) .nl))), .ptr 0 [] (.cons .sc (.cons .sc .nl)), .unk, .ptr 1 [] (.cons .sc (.cons .sc .nl)), (.int .i64 0), (.int .i64 0), .unk, .ptr 2 [] (.arr 4 .sc), .unk, .unk, .unk, .unk, .unk, .unk, .unk, .unk, .unk, .unk, .unk, (.ro true clip (.cons .sc (.cons .sc .nl)) n (fun j => .cons (.int .u8 (k j)) (.cons (.int .i64 (t j)) .nl))), (.int .i64 (n : Nat)), (.int .i64 (j : Nat)), .unk, .unk, .unk, .unk, .unk, .unk, .unk, .unk, .unk, .unk, .unk, .unk, .unk, .unk, .unk, .unk, .unk, .unk, .unk, .unk, .unk, .unk, .unk, .unk, .unk, .unk, .unk, .unk, .unk, .unk], [⟨.box, (.cons .sc (.cons .sc .nl)), (.cons (.int .i64 c') (.cons (.int .i64 i') .nl))⟩, ⟨.box, (.cons .sc (.cons .sc .nl)), (.cons (.int .i64 0) (.cons (.int .i64 0) .nl))⟩, ⟨.box, (.arr 4 .sc), .arr 4 tabV⟩]⟩
set_option maxRecDepth 100000 in
set_option maxHeartbeats 4000000 in
theorem c14 : CSound Try.prog 14 s14 := by
  refine csound_of (ct := ctL [(16, s16), (27, s27), (28, s28), (29, s29), (9, s9), (26, s26)]) (N := 53) (rs := [.cell 4 23, .tmp 5, .tmp 6]) (CT.cons c16 (CT.cons c27 (CT.cons c28 (CT.cons c29 (CT.cons c9 (CT.cons c26 (CT.nil _))))))) (by kernel_rfl) Try.func14 rfl (by kernel_rfl) (by kernel_rfl) rfl rfl ?_
  rintro _ ⟨c, i, u, clip, n, k, t, rfl, hn, hk⟩
  show vc Try.prog _ _ _ _ ⟨[(.cons (.int .i64 c) (.cons (.int .i64 i) .nl)), (.ro true clip (.cons .sc (.cons .sc .nl)) n (fun j => .cons (.int .u8 (k j)) (.cons (.int .i64 (t j)) .nl))), .unk, .unk, .unk, .unk, .unk, .unk, .unk, .unk, .unk, .unk, .unk, .unk, .unk, .unk, .unk, .unk, .unk, .unk, .unk, .unk, .unk, .unk, .unk, .unk, .unk, .unk, .unk, .unk, .unk, .unk, .unk, .unk, .unk, .unk, .unk, .unk, .unk, .unk, .unk, .unk, .unk, .unk, .unk, .unk, .unk, .unk, .unk, .unk, .unk, .unk, .unk], []⟩
  simp (maxSteps := 10000000) only [vc_skip, vc_region, vc_draw, vc_seq, vc_block, vc_scope, vc_exit, vc_ret, vc_label, vc_cond, vcC_bool, nK_eq, dK_eq, thenQ_normal, thenQ_ret, thenQ_exit, blockQ_normal, blockQ_ret, blockQ_exit, scopeQ_normal, scopeQ_ret, scopeQ_exit, rr_nil, rr_free, rr_guard, rrH_some, dstOf_zero, dstOf_succ, rrS_some, rrS_ok, rrG_bool, rrG_skip, x_move, x_assign, x_pick, pick_bool, x_alloc, x_box, x_load, x_store, x_nilCheck, x_bin, x_un, x_conv, x_field, x_index, x_extract, x_call, callF_fn, callC_some, ctL_cons, opv_tmp, opv_const, opv_func, V.ofVal, St.t_mk, getD_zero, getD_succ, List.set_cons_zero, List.set_cons_succ, St.ap_pure, St.ap_new, St.ap_up, St.ap_skip, St.ap_none, lit_tmp, lit_const, bxS_ok, fdS_ptr, fdS_ref, fdO_some, Shape.fld, Shape.beq, Shape.size, ldS_ptr, ldS_ref, ldB_box, ldB_row, stS_ptr, stB_box, stB_row, V.fits, V.known, V.path, V.step, V.fld, V.set, V.setFld, V.ite, bin_add, bin_sub, bin_mul, bin_eql, bin_neq, bin_lss, bin_leq, bin_gtr, bin_geq, bin_and, bin_or, bin_xor, bin_quo, bin_rem, bin_shl, bin_shr, endQ_ret, endQ_normal, rtB_some, rtC_some, res_int, res_bool, res_str, res_nl, res_nilp, res_nils, res_nilf, res_ref, res_ro, res_fn, res_arr, resIf_true, res_cons, resC_some, res_tup, resT_some, res_row, resRow_some, res_sl, resSlB_box, resSlB_row, resSl_arr, res_ptr, resPtrB_box, resPtrB_row, resPtr_ok, noId, noRef, resAll_one, resAll_none, resAll_more, tupO_some, resL_nil, resL_cons, consO_some, resV_tmp, rcS_ptr, rcB_box, callR_nil, callR_cons, unL, appL, borrow, extr_tup, exO_some, nth_zero, nth_succ, x_build, x_buildSlice, x_len, x_makeFunc, V.le, V.own, aNil, aUn, List.map_cons, List.map_nil, List.nil_append, List.cons_append, List.append_nil, List.getElem?_cons_zero, List.getElem?_cons_succ, List.length_nil, List.length_cons, Nat.reduceAdd, Nat.reduceLT, Nat.reduceEqDiff, Nat.zero_add, Nat.add_zero, Bool.and_true, Bool.true_and, Bool.and_self, Bool.and_false, Bool.false_and, Bool.or_true, Bool.or_false, Bool.true_or, Bool.false_or, Bool.not_true, Bool.not_false, Bool.cond_true, Bool.cond_false, Bool.false_eq_true, Bool.true_eq_false, reduceCtorEq, ↓reduceIte, decide_true, decide_false, decide_eq_true_eq, decide_eq_false_iff_not, and_true, true_and, false_and, and_false, and_self, or_true, true_or, or_false, false_or, not_true, not_false_eq_true, forall_const, false_implies, implies_true, true_implies, Option.map_some, ite_true, ite_false, V.int.injEq, V.bool.injEq, V.cons.injEq, V.tup.injEq, beq_iff_eq, bne_iff_ne, Bool.and_eq_true, Bool.or_eq_true, Bool.not_eq_true, Bool.not_eq_false, Bool.not_eq_true', Bool.not_eq_false', ne_eq, loopQ_normal, loopQ_ret, loopQ_exit, ix_row, lenS_row, lenS_ro, lenS_sl, lenS_nils, Int.toNat_natCast, V.len, bstep, bset, Blk.alive, Option.some.injEq, Nat.reduceBEq, bne_eq_false_iff_eq, beq_eq_false_iff_ne, ncast,
    bx_at ts23, ld_at ts3 us3, ld_at ts5 us5, ld_at ts23 us23, ld_at ts28 us28, ld_at ts39 us39, st_at ts23, st_at ts39, st_at ts51, al_at z23, al_at z39, al_at z51, fd_at fd39_0, fd_at fd39_1, resV_cell ts23 us23, ix_ro ix32, ix_sl ix32, ix_row ix32, ia_ptr ia51, ia_ref ia51, len_at sl32, tab1, tab2, tab3, tab_0, tab_1, tab_2, tab_3, V.le_refl, Int.reduceToNat, Int.toNat_zero, Int.reduceLE, Int.reduceLT, if_pos, s16_res, s16_pre, s16_fresh, s27_res, s27_pre, s27_fresh, s28_res, s28_pre, s28_fresh, s29_res, s29_pre, s29_fresh, s9_res, s9_pre, s9_fresh, s26_res, s26_pre, s26_fresh, s14_res, s14_fresh]
  have hc := chk01 c i
  refine iteI (fun h => ?_) (fun h => ?_)
  · have h1 : chk c i = 1 := by omega
    simp [play, h1]
  refine vc_loop (inv14 clip n k t c i) n ⟨[.unk, (.ro true clip (.cons .sc (.cons .sc .nl)) n (fun j => .cons (.int .u8 (k j)) (.cons (.int .i64 (t j)) .nl))), .ptr 0 [] (.cons .sc (.cons .sc .nl)), .unk, .ptr 1 [] (.cons .sc (.cons .sc .nl)), (.int .i64 0), (.int .i64 0), .unk, .ptr 2 [] (.arr 4 .sc), .unk, .unk, .unk, .unk, .unk, .unk, .unk, .unk, .unk, .unk, .unk, (.ro true clip (.cons .sc (.cons .sc .nl)) n (fun j => .cons (.int .u8 (k j)) (.cons (.int .i64 (t j)) .nl))), (.int .i64 (n : Nat)), (.int .i64 (0 : Nat)), .unk, .unk, .unk, .unk, .unk, .unk, .unk, .unk, .unk, .unk, .unk, .unk, .unk, .unk, .unk, .unk, .unk, .unk, .unk, .unk, .unk, .unk, .unk, .unk, .unk, .unk, .unk, .unk, .unk, .unk], [⟨.box, (.cons .sc (.cons .sc .nl)), (.cons (.int .i64 c) (.cons (.int .i64 i) .nl))⟩, ⟨.box, (.cons .sc (.cons .sc .nl)), (.cons (.int .i64 0) (.cons (.int .i64 0) .nl))⟩, ⟨.box, (.arr 4 .sc), .arr 4 tabV⟩]⟩ ?_ ⟨0, c, i, by omega, by have h0 : chk c i = 0 := (by omega); simp [play, h0], rfl⟩ ?_
  · simp [ent_mk, entT_nil, entT_cons, entV_unk, entV_int, entV_bool, entV_str, entV_cons, entV_nl, entV_arr, entV_ptr, entV_row, entV_ro, entV_ref, entV_nils, entV_fn, entV_tup, entM_nil, entM_cons, entB_box, entB_row, entB_dead, V.le, V.bel, V.le_refl]
    exact tab4 _
  rintro m _ ⟨j, c', i', hj, hp, rfl⟩
  have hkj : k j = 0 ∨ k j = 1 ∨ k j = 2 ∨ k j = 3 ∨ 4 ≤ k j := by have := hk j; omega
  rcases hkj with hkj | hkj | hkj | hkj | hkj
  all_goals simp (maxSteps := 10000000) only [hkj, vc_skip, vc_region, vc_draw, vc_seq, vc_block, vc_scope, vc_exit, vc_ret, vc_label, vc_cond, vcC_bool, nK_eq, dK_eq, thenQ_normal, thenQ_ret, thenQ_exit, blockQ_normal, blockQ_ret, blockQ_exit, scopeQ_normal, scopeQ_ret, scopeQ_exit, rr_nil, rr_free, rr_guard, rrH_some, dstOf_zero, dstOf_succ, rrS_some, rrS_ok, rrG_bool, rrG_skip, x_move, x_assign, x_pick, pick_bool, x_alloc, x_box, x_load, x_store, x_nilCheck, x_bin, x_un, x_conv, x_field, x_index, x_extract, x_call, callF_fn, callC_some, ctL_cons, opv_tmp, opv_const, opv_func, V.ofVal, St.t_mk, getD_zero, getD_succ, List.set_cons_zero, List.set_cons_succ, St.ap_pure, St.ap_new, St.ap_up, St.ap_skip, St.ap_none, lit_tmp, lit_const, bxS_ok, fdS_ptr, fdS_ref, fdO_some, Shape.fld, Shape.beq, Shape.size, ldS_ptr, ldS_ref, ldB_box, ldB_row, stS_ptr, stB_box, stB_row, V.fits, V.known, V.path, V.step, V.fld, V.set, V.setFld, V.ite, bin_add, bin_sub, bin_mul, bin_eql, bin_neq, bin_lss, bin_leq, bin_gtr, bin_geq, bin_and, bin_or, bin_xor, bin_quo, bin_rem, bin_shl, bin_shr, endQ_ret, endQ_normal, rtB_some, rtC_some, res_int, res_bool, res_str, res_nl, res_nilp, res_nils, res_nilf, res_ref, res_ro, res_fn, res_arr, resIf_true, res_cons, resC_some, res_tup, resT_some, res_row, resRow_some, res_sl, resSlB_box, resSlB_row, resSl_arr, res_ptr, resPtrB_box, resPtrB_row, resPtr_ok, noId, noRef, resAll_one, resAll_none, resAll_more, tupO_some, resL_nil, resL_cons, consO_some, resV_tmp, rcS_ptr, rcB_box, callR_nil, callR_cons, unL, appL, borrow, extr_tup, exO_some, nth_zero, nth_succ, x_build, x_buildSlice, x_len, x_makeFunc, V.le, V.own, aNil, aUn, List.map_cons, List.map_nil, List.nil_append, List.cons_append, List.append_nil, List.getElem?_cons_zero, List.getElem?_cons_succ, List.length_nil, List.length_cons, Nat.reduceAdd, Nat.reduceLT, Nat.reduceEqDiff, Nat.zero_add, Nat.add_zero, Bool.and_true, Bool.true_and, Bool.and_self, Bool.and_false, Bool.false_and, Bool.or_true, Bool.or_false, Bool.true_or, Bool.false_or, Bool.not_true, Bool.not_false, Bool.cond_true, Bool.cond_false, Bool.false_eq_true, Bool.true_eq_false, reduceCtorEq, ↓reduceIte, decide_true, decide_false, decide_eq_true_eq, decide_eq_false_iff_not, and_true, true_and, false_and, and_false, and_self, or_true, true_or, or_false, false_or, not_true, not_false_eq_true, forall_const, false_implies, implies_true, true_implies, Option.map_some, ite_true, ite_false, V.int.injEq, V.bool.injEq, V.cons.injEq, V.tup.injEq, beq_iff_eq, bne_iff_ne, Bool.and_eq_true, Bool.or_eq_true, Bool.not_eq_true, Bool.not_eq_false, Bool.not_eq_true', Bool.not_eq_false', ne_eq, loopQ_normal, loopQ_ret, loopQ_exit, ix_row, lenS_row, lenS_ro, lenS_sl, lenS_nils, Int.toNat_natCast, V.len, bstep, bset, Blk.alive, Option.some.injEq, Nat.reduceBEq, bne_eq_false_iff_eq, beq_eq_false_iff_ne, ncast,
    bx_at ts23, ld_at ts3 us3, ld_at ts5 us5, ld_at ts23 us23, ld_at ts28 us28, ld_at ts39 us39, st_at ts23, st_at ts39, st_at ts51, al_at z23, al_at z39, al_at z51, fd_at fd39_0, fd_at fd39_1, resV_cell ts23 us23, ix_ro ix32, ix_sl ix32, ix_row ix32, ia_ptr ia51, ia_ref ia51, len_at sl32, tab1, tab2, tab3, tab_0, tab_1, tab_2, tab_3, V.le_refl, Int.reduceToNat, Int.toNat_zero, Int.reduceLE, Int.reduceLT, if_pos, s16_res, s16_pre, s16_fresh, s27_res, s27_pre, s27_fresh, s28_res, s28_pre, s28_fresh, s29_res, s29_pre, s29_fresh, s9_res, s9_pre, s9_fresh, s26_res, s26_pre, s26_fresh, s14_res, s14_fresh]
  all_goals refine iteI (fun hlt => ⟨⟨by omega, by omega⟩, ?_⟩) (fun hge => ?_)
  all_goals first
    | (obtain rfl : m = 0 := by omega
       rw [← hp]
       simp [plR, ← hj]
       done)
    | skip
  all_goals obtain ⟨m', rfl⟩ : ∃ m', m = m' + 1 := ⟨m - 1, by omega⟩
  all_goals first | rw [plR, hkj] at hp | rw [plR, do_4 _ _ _ _ hkj] at hp
  · obtain ⟨e1, e2⟩ := do_0 c' i' (t j)
    have e3 := doE_0 c' i' 0 (t j)
    refine ⟨by omega, And.intro (by kernel_rfl) ?_⟩
    refine iteI (fun hd => ?_) (fun hd => ?_)
    · rw [if_pos (by omega)] at hp
      rw [← hp]
      simp [e1]
    have hd0 : doE c' i' 0 (t j) = 0 := by omega
    refine ⟨m', _, by omega, ?_, ⟨j + 1, doC c' i' 0 (t j), doI c' i' 0 (t j), by omega, ?_, rfl⟩⟩
    · have hw := wr (↑j + 1) (by omega) (by omega)
      rw [e1] at hd0
      have e4 := e2 hd0
      simp [ent_mk, entT_nil, entT_cons, entV_unk, entV_int, entV_bool, entV_str, entV_cons, entV_nl, entV_arr, entV_ptr, entV_row, entV_ro, entV_ref, entV_nils, entV_fn, entV_tup, entM_nil, entM_cons, entB_box, entB_row, entB_dead, V.le, V.bel, V.le_refl, hw, e4.1, e4.2, hd0]
      exact tab4 _
    · rw [if_neg (by omega)] at hp
      exact hp
  · obtain ⟨e1, e2⟩ := do_1 c' i' (t j)
    have e3 := doE_0 c' i' 1 (t j)
    refine ⟨by omega, And.intro (by kernel_rfl) ?_⟩
    refine iteI (fun hd => ?_) (fun hd => ?_)
    · rw [if_pos (by omega)] at hp
      rw [← hp]
      simp [e1]
    have hd0 : doE c' i' 1 (t j) = 0 := by omega
    refine ⟨m', _, by omega, ?_, ⟨j + 1, doC c' i' 1 (t j), doI c' i' 1 (t j), by omega, ?_, rfl⟩⟩
    · have hw := wr (↑j + 1) (by omega) (by omega)
      rw [e1] at hd0
      have e4 := e2 hd0
      simp [ent_mk, entT_nil, entT_cons, entV_unk, entV_int, entV_bool, entV_str, entV_cons, entV_nl, entV_arr, entV_ptr, entV_row, entV_ro, entV_ref, entV_nils, entV_fn, entV_tup, entM_nil, entM_cons, entB_box, entB_row, entB_dead, V.le, V.bel, V.le_refl, hw, e4.1, e4.2, hd0]
      exact tab4 _
    · rw [if_neg (by omega)] at hp
      exact hp
  · obtain ⟨e1, e2⟩ := do_2 c' i' (t j)
    have e3 := doE_0 c' i' 2 (t j)
    refine ⟨by omega, And.intro (by kernel_rfl) ?_⟩
    refine iteI (fun hd => ?_) (fun hd => ?_)
    · rw [if_pos (by omega)] at hp
      rw [← hp]
      simp [e1]
    have hd0 : doE c' i' 2 (t j) = 0 := by omega
    refine ⟨m', _, by omega, ?_, ⟨j + 1, doC c' i' 2 (t j), doI c' i' 2 (t j), by omega, ?_, rfl⟩⟩
    · have hw := wr (↑j + 1) (by omega) (by omega)
      rw [e1] at hd0
      have e4 := e2 hd0
      simp [ent_mk, entT_nil, entT_cons, entV_unk, entV_int, entV_bool, entV_str, entV_cons, entV_nl, entV_arr, entV_ptr, entV_row, entV_ro, entV_ref, entV_nils, entV_fn, entV_tup, entM_nil, entM_cons, entB_box, entB_row, entB_dead, V.le, V.bel, V.le_refl, hw, e4.1, e4.2, hd0]
      exact tab4 _
    · rw [if_neg (by omega)] at hp
      exact hp
  · obtain ⟨e1, e2⟩ := do_3 c' i' (t j)
    have e3 := doE_0 c' i' 3 (t j)
    refine ⟨by omega, And.intro (by kernel_rfl) ?_⟩
    refine iteI (fun hd => ?_) (fun hd => ?_)
    · rw [if_pos (by omega)] at hp
      rw [← hp]
      simp [e1]
    have hd0 : doE c' i' 3 (t j) = 0 := by omega
    refine ⟨m', _, by omega, ?_, ⟨j + 1, doC c' i' 3 (t j), doI c' i' 3 (t j), by omega, ?_, rfl⟩⟩
    · have hw := wr (↑j + 1) (by omega) (by omega)
      rw [e1] at hd0
      have e4 := e2 hd0
      simp [ent_mk, entT_nil, entT_cons, entV_unk, entV_int, entV_bool, entV_str, entV_cons, entV_nl, entV_arr, entV_ptr, entV_row, entV_ro, entV_ref, entV_nils, entV_fn, entV_tup, entM_nil, entM_cons, entB_box, entB_row, entB_dead, V.le, V.bel, V.le_refl, hw, e4.1, e4.2, hd0]
      exact tab4 _
    · rw [if_neg (by omega)] at hp
      exact hp
  · rw [if_pos (by omega)] at hp
    rw [← hp]
    simp

end Go.Ab
