/- Package 20: fit dups rise; the law DupFits. -/
import Derived.Test.YtoankcclbnnfiaaD7
set_option maxRecDepth 100000
set_option maxHeartbeats 1000000
set_option linter.unusedSimpArgs false
set_option linter.unusedVariables false
namespace Go.Proofs.Ytoankcclbnnfiaa
open Go.Abs
attribute [local irreducible] C X CC Y CV CW binK litK AppK PureC PureCV againK loopV rangeV allK ifK got onB condK V stepsK planK opK firstK seeE

theorem fit_rise {l : List Dup} (h : fitB l = true) : ∀ i, i + 1 < l.length → (l.getD i default).client < (l.getD (i + 1) default).client := by
  intro i hi
  unfold fitB at h
  simp only [Bool.and_eq_true] at h
  have := List.all_eq_true.1 h.1 (i + 1) (by simpa using hi)
  unfold okAt at this
  simp only [Bool.and_eq_true, Bool.not_eq_true', Bool.and_eq_false_iff, decide_eq_false_iff_not, Nat.add_sub_cancel] at this
  rcases this.2 with h' | h'
  · omega
  · omega
theorem rise_lt {l : List Dup} (h : ∀ i, i + 1 < l.length → (l.getD i default).client < (l.getD (i + 1) default).client) : ∀ j i, i < j → j < l.length → (l.getD i default).client < (l.getD j default).client := by
  intro j
  induction j with
  | zero => intro i hi; omega
  | succ j ih =>
    intro i hi hj
    have := h j hj
    rcases Nat.lt_or_ge i j with h' | h'
    · have := ih i h' (by omega); omega
    · have : i = j := by omega
      subst this; assumption
/-- Where a client's stands. -/
theorem place_ex {l : List Dup} (h : fitB l = true) (c : Int) : ∃ k, k ≤ l.length ∧ (∀ i, i < k → (l.getD i default).client < c) ∧ (∀ i, k ≤ i → i < l.length → c ≤ (l.getD i default).client) := by
  have hr := rise_lt (fit_rise h)
  have : ∀ n, n ≤ l.length → ∃ k, k ≤ n ∧ (∀ i, i < k → (l.getD i default).client < c) ∧ (∀ i, k ≤ i → i < n → c ≤ (l.getD i default).client) := by
    intro n
    induction n with
    | zero => intro _; exact ⟨0, by omega, fun i h => by omega, fun i h h' => by omega⟩
    | succ n ih =>
      intro hn
      obtain ⟨k, h1, h2, h3⟩ := ih (by omega)
      by_cases hc : (l.getD n default).client < c
      · refine ⟨n + 1, by omega, fun i hi => ?_, fun i a b => by omega⟩
        rcases Nat.lt_or_ge i n with h' | h'
        · have := hr n i h' (by omega); omega
        · have : i = n := by omega
          subst this; exact hc
      · refine ⟨k, by omega, h2, fun i a b => ?_⟩
        rcases Nat.lt_or_ge i n with h' | h'
        · exact h3 i a h'
        · have : i = n := by omega
          subst this; omega
  exact this l.length (Nat.le_refl _)
theorem find_first {l : List Dup} {c : Int} {k : Nat} (k1 : k ≤ l.length) (k2 : ∀ i, i < k → (l.getD i default).client < c) (k3 : ∀ i, k ≤ i → i < l.length → c ≤ (l.getD i default).client)
    (hr : ∀ j i, i < j → j < l.length → (l.getD i default).client < (l.getD j default).client) :
    (∃ q, q < l.length ∧ l.getD q default = findB l c k ∧ (findB l c k).client = c ∧ foundB l c k = true ∧ ∀ i, i < q → (l.getD i default).client ≠ c) ∨ (findB l c k = d0 ∧ foundB l c k = false ∧ ∀ i, i < l.length → (l.getD i default).client ≠ c) := by
  cases hf : foundB l c k with
  | true =>
    have h := hf
    unfold foundB at h
    simp only [Bool.and_eq_true, decide_eq_true_eq, beq_iff_eq] at h
    refine .inl ⟨k, h.1, by unfold findB; rw [hf]; rfl, by unfold findB; rw [hf]; exact h.2, rfl, fun i hi => ?_⟩
    have := k2 i hi; omega
  | false =>
    refine .inr ⟨by unfold findB; rw [hf]; rfl, rfl, fun i hi e => ?_⟩
    have hki : k ≤ i := by
      rcases Nat.lt_or_ge i k with h' | h'
      · have := k2 i h'; omega
      · exact h'
    have h3 := k3 k (Nat.le_refl _) (by omega)
    have : k = i := by
      rcases Nat.lt_or_ge k i with h' | h'
      · have := hr i k h' hi; omega
      · omega
    subst this
    unfold foundB at hf
    simp only [Bool.and_eq_false_iff, decide_eq_false_iff_not, beq_eq_false_iff_ne] at hf
    rcases hf with hf | hf
    · exact hf hi
    · exact hf e
theorem same_self (d : Dup) : d.same d = true := by unfold Dup.same; simp
theorem F5 (l m : List Dup) (x x' : Bool) (c : Int) (hl : l.length * 64 ≤ 140737488355328) : F Try.prog 5 [.vs (l.map Dup.cells) x, .vs (m.map Dup.cells) x', .val (.int .i64 c)] (.val (.bool true)) := by
  have hl' : l.length ≤ 140737488355328 := by omega
  have h18 := F18 l x hl'
  have h9 := F9 l x hl'
  have h20 := F20 l m x x' hl'
  have h16 := F16 l m x x' hl'
  have h12 := F12 l x hl
  have h20' := F20 l l x false hl'
  rw [samesB_self] at h20'
  have hF : ∀ b, b = fitB l → True := fun _ _ => trivial
  refine F5_of ?_
  unfold k5
  repeat' first
    | simp -dsimp (disch := omega) only [↓V_ops, ↓V_any, ↓V_skip, ↓V_label, ↓V_ret, ↓V_exit, ↓V_seq, ↓V_cond, ↓V_block, ↓V_loop, ↓V_range, ↓condK_bool, ↓andThen_normal, ↓andThen_ret, ↓andThen_exit, ↓inBlk_normal, ↓inBlk_ret, ↓inBlk_exit, ↓endK_ret, ↓endK_normal, ↓resL_one, ↓resL_nil, ↓resL_two, ↓planK_nil, ↓planK_first, ↓planK_only, ↓planK_adds, ↓firstK_move, ↓firstK_assign, ↓firstK_pick, ↓firstK_load, ↓firstK_nilCheck, ↓firstK_bin, ↓firstK_un, ↓firstK_convert, ↓firstK_iface, ↓firstK_fn, ↓firstK_slice, ↓firstK_fieldAddr, ↓firstK_field, ↓firstK_indexAddr, ↓firstK_index, ↓firstK_build, ↓firstK_extract, ↓firstK_len, ↓firstK_min, ↓firstK_max, ↓firstK_call, ↓stepsK_cons, ↓stepsK_nil, ↓onK_none, ↓onK_some, ↓opK_move, ↓opK_assign, ↓opK_pick, ↓opK_load, ↓opK_nilCheck, ↓opK_bin, ↓opK_un, ↓opK_convert, ↓opK_iface, ↓opK_fn, ↓opK_slice, ↓opK_fieldAddr, ↓opK_field, ↓opK_indexAddr, ↓opK_index, ↓opK_build, ↓opK_extract, ↓opK_len, ↓opK_min, ↓opK_max, ↓opK_store, ↓opK_alloc, ↓opK_box, ↓opK_call, ↓opK_append, ↓opK_makeSlice, ↓opK_copy, ↓opK_cap, ↓opK_lit, ↓binK_some, ↓got_some, ↓ifK_true, ↓ifK_false, ↓onB_bool, ↓onB_off, seeE_go, CW_func, CW_yld, PureCV_func, wantB_true, wantB_false, resOne_tmp, resOne_cell, two_some, pickA_bool, moveA_ptr, moveA_vp, extractA_tup, nth_upd, pickB_true, pickB_false, inB_lt, upd_len, wrap_i64, wrap_u64, shr_half64, shr_half64', Int.reduceLT, evA_tmp, evA_int, evA_bool, evA_str, evA_nilS, evA_nilP, evA_nilI, evA_nilF, evA_func, nth, upd, put, loadOne_ptr, loadOne_vp, loadAgg_ptr, loadAgg_vp, storeN, cells_val, cells_vs, cells_vp, cells_ptr, cells_sl, cells_fn, cells_yld, cells_agg, List.all_cons, List.all_nil, AV.one, Bool.and_true, Bool.true_and, Bool.and_self, Bool.false_and, Bool.and_false, Bool.or_false, Bool.false_or, Bool.true_or, Bool.or_true, if_true, if_false, sub_self, Mem.set_set, Nat.reduceBEq, Nat.reduceBNe, Int.reduceBEq, Int.reduceBNe, Int.reduceLE, beq_self_eq_true, Mem.set_same, Mem.set_at, Mem.del_at, Mem.del_set_eq, Mem.del_set_ne, nomem_del, if_le, fresh_set, cmpA_ii, cmpA_ss, cmpA_bb, onTi_some, boolBin, strBin, intBin, unA, buildA, placesA, fillA, ne_eq, not_true_eq_false, not_false_eq_true, List.getElem?_cons_zero, List.getElem?_cons_succ, List.length_cons, List.length_nil, List.drop_zero, List.drop_succ_cons, List.take_succ_cons, List.take_zero, List.cons_append, List.nil_append, List.append_nil, setRange_cons, chunk_one, chunk_zero, Nat.zero_add, Nat.add_zero, Nat.zero_mul, Nat.sub_zero, List.map_cons, List.map_nil, List.replicate_succ, List.replicate_zero, true_and, and_true, reduceCtorEq, decide_eq_true_eq, Bool.false_eq_true, ge_iff_le, gt_iff_lt, Nat.reduceAdd, Nat.reduceSub, Nat.reduceLeDiff, Nat.reduceLT, Nat.reduceEqDiff, Nat.not_lt_zero, Nat.le_refl, Nat.lt_irrefl, List.drop_nil, List.take_nil, Int.toNat_natCast, capOwn_false, sliceOwn_false, sliceOwn_true, sliceTo_some, bnd_none, bnd_lo, bnd_hi, bnd_lohi, toNat_add, toNat_add1, toNat_sub1, toNat_sub, Int.toNat_zero, Int.reduceToNat, Option.map_some, Option.map_none, Int.cast_ofNat_Int, List.length_map, and_self, eq_self, Bool.not_eq_true, Bool.not_true, Bool.not_false, decide_true, decide_false, got_some, ifK_true, ifK_false, onB_bool, onB_off, condK_bool, cap_own_22, cap_own_41, cap_own_42, cap_own_47, cap_own_51, cs_2, cs_22, cs_24, cs_26, cs_27, cs_29, cs_3, cs_39, cs_4, cs_41, cs_42, cs_47, cs_51, cs_56, cs_58, cs_59, cs_63, cs_65, cs_78, cs_80, cs_82, cs_9, fa_24_0, fa_24_1, fa_24_2, fa_24_3, fa_24_4, fa_26_0, fa_26_1, fa_26_2, fa_26_3, fa_29_0, fa_29_1, fa_29_2, fa_29_3, fa_39_0, fa_39_1, fa_39_2, fa_39_3, fa_56_0, fa_56_1, fa_58_0, fa_58_1, fa_58_2, fa_63_0, fa_63_1, fa_65_0, fa_65_1, ix_own_22, ix_own_41, ix_own_42, ix_own_47, ix_own_51, ld_2, ld_22, ld_24, ld_26, ld_27, ld_29, ld_3, ld_39, ld_4, ld_41, ld_42, ld_47, ld_51, ld_56, ld_58, ld_59, ld_63, ld_65, ld_78, ld_80, ld_82, ld_9, len_nil_22, len_nil_41, len_nil_42, len_nil_47, len_nil_51, len_own_22, len_own_41, len_own_42, len_own_47, len_own_51, len_read_22, len_read_41, len_read_42, len_read_47, len_read_51, len_str_9, sl_22, sl_41, sl_42, sl_47, sl_51, st_2, st_22, st_24, st_26, st_27, st_29, st_3, st_39, st_4, st_41, st_42, st_47, st_51, st_56, st_58, st_59, st_63, st_65, st_78, st_80, st_82, st_9, ti_2, ti_22, ti_24, ti_26, ti_27, ti_29, ti_3, ti_39, ti_4, ti_41, ti_42, ti_47, ti_51, ti_56, ti_58, ti_59, ti_63, ti_65, ti_78, ti_80, ti_82, ti_9, z_2, z_22, z_24, z_26, z_27, z_29, z_3, z_39, z_4, z_41, z_42, z_47, z_51, z_56, z_58, z_59, z_63, z_65, z_78, z_80, z_82, z_9, *]
    | (refine allK_intro fun n hn => ?_; try simp only [fresh_set] at hn)
    | (refine ifK_intro (fun h => ?_) (fun h => ?_) <;> (try simp only [decide_eq_true_eq, decide_eq_false_iff_not, Bool.not_eq_true', Bool.not_eq_false'] at h) <;> try (exfalso; (try simp only [beq_iff_eq, beq_eq_false_iff_ne, bne_iff_ne, bne_eq_false_iff_eq, ne_eq] at h); omega))
    | (refine call_F (h18) (Seens.refl _ _) ?_)
    | (refine pure_F (h18) (Seens.refl _ _) ?_)
    | (refine call_F (h9) (Seens.refl _ _) ?_)
    | (refine pure_F (h9) (Seens.refl _ _) ?_)
    | (refine call_F (h20) (Seens.refl _ _) ?_)
    | (refine pure_F (h20) (Seens.refl _ _) ?_)
    | (refine call_F (h16) (Seens.refl _ _) ?_)
    | (refine pure_F (h16) (Seens.refl _ _) ?_)
    | (refine call_F (h12) (Seens.refl _ _) ?_)
    | (refine pure_F (h12) (Seens.refl _ _) ?_)
    | (refine call_F (h20') (Seens.refl _ _) ?_)
    | (refine pure_F (h20') (Seens.refl _ _) ?_)
    | (refine call_F (F11) (Seens.refl _ _) ?_)
    | (refine pure_F (F11) (Seens.refl _ _) ?_)
  · exact .val
  · obtain ⟨k, k1, k2, k3⟩ := place_ex h c
    have h19 := F19 l x c hl' k k1 k2 k3
    have h21 := F21 l x c hl' (findB l c k) (foundB l c k) (find_first k1 k2 k3 (rise_lt (fit_rise h)))
    repeat' first
      | simp -dsimp (disch := omega) only [↓V_ops, ↓V_any, ↓V_skip, ↓V_label, ↓V_ret, ↓V_exit, ↓V_seq, ↓V_cond, ↓V_block, ↓V_loop, ↓V_range, ↓condK_bool, ↓andThen_normal, ↓andThen_ret, ↓andThen_exit, ↓inBlk_normal, ↓inBlk_ret, ↓inBlk_exit, ↓endK_ret, ↓endK_normal, ↓resL_one, ↓resL_nil, ↓resL_two, ↓planK_nil, ↓planK_first, ↓planK_only, ↓planK_adds, ↓firstK_move, ↓firstK_assign, ↓firstK_pick, ↓firstK_load, ↓firstK_nilCheck, ↓firstK_bin, ↓firstK_un, ↓firstK_convert, ↓firstK_iface, ↓firstK_fn, ↓firstK_slice, ↓firstK_fieldAddr, ↓firstK_field, ↓firstK_indexAddr, ↓firstK_index, ↓firstK_build, ↓firstK_extract, ↓firstK_len, ↓firstK_min, ↓firstK_max, ↓firstK_call, ↓stepsK_cons, ↓stepsK_nil, ↓onK_none, ↓onK_some, ↓opK_move, ↓opK_assign, ↓opK_pick, ↓opK_load, ↓opK_nilCheck, ↓opK_bin, ↓opK_un, ↓opK_convert, ↓opK_iface, ↓opK_fn, ↓opK_slice, ↓opK_fieldAddr, ↓opK_field, ↓opK_indexAddr, ↓opK_index, ↓opK_build, ↓opK_extract, ↓opK_len, ↓opK_min, ↓opK_max, ↓opK_store, ↓opK_alloc, ↓opK_box, ↓opK_call, ↓opK_append, ↓opK_makeSlice, ↓opK_copy, ↓opK_cap, ↓opK_lit, ↓binK_some, ↓got_some, ↓ifK_true, ↓ifK_false, ↓onB_bool, ↓onB_off, seeE_go, CW_func, CW_yld, PureCV_func, wantB_true, wantB_false, resOne_tmp, resOne_cell, two_some, pickA_bool, moveA_ptr, moveA_vp, extractA_tup, nth_upd, pickB_true, pickB_false, inB_lt, upd_len, wrap_i64, wrap_u64, shr_half64, shr_half64', Int.reduceLT, evA_tmp, evA_int, evA_bool, evA_str, evA_nilS, evA_nilP, evA_nilI, evA_nilF, evA_func, nth, upd, put, loadOne_ptr, loadOne_vp, loadAgg_ptr, loadAgg_vp, storeN, cells_val, cells_vs, cells_vp, cells_ptr, cells_sl, cells_fn, cells_yld, cells_agg, List.all_cons, List.all_nil, AV.one, Bool.and_true, Bool.true_and, Bool.and_self, Bool.false_and, Bool.and_false, Bool.or_false, Bool.false_or, Bool.true_or, Bool.or_true, if_true, if_false, sub_self, Mem.set_set, Nat.reduceBEq, Nat.reduceBNe, Int.reduceBEq, Int.reduceBNe, Int.reduceLE, beq_self_eq_true, Mem.set_same, Mem.set_at, Mem.del_at, Mem.del_set_eq, Mem.del_set_ne, nomem_del, if_le, fresh_set, cmpA_ii, cmpA_ss, cmpA_bb, onTi_some, boolBin, strBin, intBin, unA, buildA, placesA, fillA, ne_eq, not_true_eq_false, not_false_eq_true, List.getElem?_cons_zero, List.getElem?_cons_succ, List.length_cons, List.length_nil, List.drop_zero, List.drop_succ_cons, List.take_succ_cons, List.take_zero, List.cons_append, List.nil_append, List.append_nil, setRange_cons, chunk_one, chunk_zero, Nat.zero_add, Nat.add_zero, Nat.zero_mul, Nat.sub_zero, List.map_cons, List.map_nil, List.replicate_succ, List.replicate_zero, true_and, and_true, reduceCtorEq, decide_eq_true_eq, Bool.false_eq_true, ge_iff_le, gt_iff_lt, Nat.reduceAdd, Nat.reduceSub, Nat.reduceLeDiff, Nat.reduceLT, Nat.reduceEqDiff, Nat.not_lt_zero, Nat.le_refl, Nat.lt_irrefl, List.drop_nil, List.take_nil, Int.toNat_natCast, capOwn_false, sliceOwn_false, sliceOwn_true, sliceTo_some, bnd_none, bnd_lo, bnd_hi, bnd_lohi, toNat_add, toNat_add1, toNat_sub1, toNat_sub, Int.toNat_zero, Int.reduceToNat, Option.map_some, Option.map_none, Int.cast_ofNat_Int, List.length_map, and_self, eq_self, Bool.not_eq_true, Bool.not_true, Bool.not_false, decide_true, decide_false, got_some, ifK_true, ifK_false, onB_bool, onB_off, condK_bool, cap_own_22, cap_own_41, cap_own_42, cap_own_47, cap_own_51, cs_2, cs_22, cs_24, cs_26, cs_27, cs_29, cs_3, cs_39, cs_4, cs_41, cs_42, cs_47, cs_51, cs_56, cs_58, cs_59, cs_63, cs_65, cs_78, cs_80, cs_82, cs_9, fa_24_0, fa_24_1, fa_24_2, fa_24_3, fa_24_4, fa_26_0, fa_26_1, fa_26_2, fa_26_3, fa_29_0, fa_29_1, fa_29_2, fa_29_3, fa_39_0, fa_39_1, fa_39_2, fa_39_3, fa_56_0, fa_56_1, fa_58_0, fa_58_1, fa_58_2, fa_63_0, fa_63_1, fa_65_0, fa_65_1, ix_own_22, ix_own_41, ix_own_42, ix_own_47, ix_own_51, ld_2, ld_22, ld_24, ld_26, ld_27, ld_29, ld_3, ld_39, ld_4, ld_41, ld_42, ld_47, ld_51, ld_56, ld_58, ld_59, ld_63, ld_65, ld_78, ld_80, ld_82, ld_9, len_nil_22, len_nil_41, len_nil_42, len_nil_47, len_nil_51, len_own_22, len_own_41, len_own_42, len_own_47, len_own_51, len_read_22, len_read_41, len_read_42, len_read_47, len_read_51, len_str_9, sl_22, sl_41, sl_42, sl_47, sl_51, st_2, st_22, st_24, st_26, st_27, st_29, st_3, st_39, st_4, st_41, st_42, st_47, st_51, st_56, st_58, st_59, st_63, st_65, st_78, st_80, st_82, st_9, ti_2, ti_22, ti_24, ti_26, ti_27, ti_29, ti_3, ti_39, ti_4, ti_41, ti_42, ti_47, ti_51, ti_56, ti_58, ti_59, ti_63, ti_65, ti_78, ti_80, ti_82, ti_9, z_2, z_22, z_24, z_26, z_27, z_29, z_3, z_39, z_4, z_41, z_42, z_47, z_51, z_56, z_58, z_59, z_63, z_65, z_78, z_80, z_82, z_9, Dup.len, Dup.take, Dup.all, Dup.drop, eq_39, same_self, *]
      | (refine allK_intro fun n hn => ?_; try simp only [fresh_set] at hn)
      | (refine ifK_intro (fun h => ?_) (fun h => ?_) <;> (try simp only [decide_eq_true_eq, decide_eq_false_iff_not, Bool.not_eq_true', Bool.not_eq_false'] at h) <;> try (exfalso; (try simp only [beq_iff_eq, beq_eq_false_iff_ne, bne_iff_ne, bne_eq_false_iff_eq, ne_eq] at h); omega))
      | (refine call_F (h19) (Seens.refl _ _) ?_)
      | (refine pure_F (h19) (Seens.refl _ _) ?_)
      | (refine call_F (h21) (Seens.refl _ _) ?_)
      | (refine pure_F (h21) (Seens.refl _ _) ?_)
      | (refine call_F (F11) (Seens.refl _ _) ?_)
      | (refine pure_F (F11) (Seens.refl _ _) ?_)
    all_goals exact .val
end Go.Proofs.Ytoankcclbnnfiaa

