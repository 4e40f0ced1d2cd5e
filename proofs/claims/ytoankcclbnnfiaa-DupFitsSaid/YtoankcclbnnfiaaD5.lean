/- Package 20: judging. -/
import Derived.Test.YtoankcclbnnfiaaD4
set_option maxRecDepth 100000
set_option maxHeartbeats 1000000
set_option linter.unusedSimpArgs false
set_option linter.unusedVariables false
namespace Go.Proofs.Ytoankcclbnnfiaa
open Go.Abs
attribute [local irreducible] C Y CV AppK PureC PureCV againK loopV rangeV allK ifK got onB condK V stepsK planK opK firstK seeE

structure Res where
  err : Int
  num : Int
  inst : Int
  data : ByteArray
instance : Inhabited Res := ⟨⟨0, 0, 0, .empty⟩⟩
def Res.cells (d : Res) : List AV := [.val (.int .i64 d.err), .val (.int .i64 d.num), .val (.int .i64 d.inst), .val (.string d.data)]
theorem Res.g0 (d : Res) : d.cells[0]? = some (.val (.int .i64 d.err)) := rfl
theorem Res.g1 (d : Res) : d.cells[1]? = some (.val (.int .i64 d.num)) := rfl
theorem Res.g2 (d : Res) : d.cells[2]? = some (.val (.int .i64 d.inst)) := rfl
theorem Res.g3 (d : Res) : d.cells[3]? = some (.val (.string d.data)) := rfl
theorem Res.len (d : Res) : d.cells.length = 4 := rfl
theorem Res.take (d : Res) : d.cells.take 4 = d.cells := rfl
theorem Res.drop (d : Res) : d.cells.drop 4 = [] := rfl
theorem Res.all (d : Res) : d.cells.all AV.one = true := rfl
theorem Res.mk_agg (err : Int) (num : Int) (inst : Int) (data : ByteArray) : AV.agg [.val (.int .i64 err), .val (.int .i64 num), .val (.int .i64 inst), .val (.string data)] = .agg (Res.cells ⟨err, num, inst, data⟩) := rfl
structure Req where
  client : Int
  inst : Int
  tid : Int
  kind : Int
  name : ByteArray
  off : Int
  num : Int
  data : ByteArray
instance : Inhabited Req := ⟨⟨0, 0, 0, 0, .empty, 0, 0, .empty⟩⟩
def Req.cells (d : Req) : List AV := [.val (.int .i64 d.client), .val (.int .i64 d.inst), .val (.int .i64 d.tid), .val (.int .i64 d.kind), .val (.string d.name), .val (.int .i64 d.off), .val (.int .i64 d.num), .val (.string d.data)]
theorem Req.g0 (d : Req) : d.cells[0]? = some (.val (.int .i64 d.client)) := rfl
theorem Req.g1 (d : Req) : d.cells[1]? = some (.val (.int .i64 d.inst)) := rfl
theorem Req.g2 (d : Req) : d.cells[2]? = some (.val (.int .i64 d.tid)) := rfl
theorem Req.g3 (d : Req) : d.cells[3]? = some (.val (.int .i64 d.kind)) := rfl
theorem Req.g4 (d : Req) : d.cells[4]? = some (.val (.string d.name)) := rfl
theorem Req.g5 (d : Req) : d.cells[5]? = some (.val (.int .i64 d.off)) := rfl
theorem Req.g6 (d : Req) : d.cells[6]? = some (.val (.int .i64 d.num)) := rfl
theorem Req.g7 (d : Req) : d.cells[7]? = some (.val (.string d.data)) := rfl
theorem Req.len (d : Req) : d.cells.length = 8 := rfl
theorem Req.take (d : Req) : d.cells.take 8 = d.cells := rfl
theorem Req.drop (d : Req) : d.cells.drop 8 = [] := rfl
theorem Req.all (d : Req) : d.cells.all AV.one = true := rfl
theorem Req.mk_agg (client : Int) (inst : Int) (tid : Int) (kind : Int) (name : ByteArray) (off : Int) (num : Int) (data : ByteArray) : AV.agg [.val (.int .i64 client), .val (.int .i64 inst), .val (.int .i64 tid), .val (.int .i64 kind), .val (.string name), .val (.int .i64 off), .val (.int .i64 num), .val (.string data)] = .agg (Req.cells ⟨client, inst, tid, kind, name, off, num, data⟩) := rfl
def Dup.res (d : Dup) : Res := ⟨d.err, d.num, d.rinst, d.data⟩
theorem Dup.part3 (d : Dup) : List.take 4 (List.drop 3 d.cells) = d.res.cells := rfl
def r0 : Res := ⟨0, 0, 0, .empty⟩
theorem F30 (r : Req) : F Try.prog 30 [.agg r.cells] (.agg [.val (.int .i64 r.inst), .val (.int .i64 r.tid), .val (.int .i64 r.client)]) := by
  refine F30_of ?_
  unfold k30
  repeat' first
    | simp -dsimp (disch := omega) only [↓V_ops, ↓V_any, ↓V_skip, ↓V_label, ↓V_ret, ↓V_exit, ↓V_seq, ↓V_cond, ↓V_block, ↓V_loop, ↓V_range, ↓condK_bool, ↓andThen_normal, ↓andThen_ret, ↓andThen_exit, ↓inBlk_normal, ↓inBlk_ret, ↓inBlk_exit, ↓endK_ret, ↓endK_normal, ↓resL_one, ↓resL_nil, ↓resL_two, ↓planK_nil, ↓planK_first, ↓planK_only, ↓planK_adds, ↓firstK_move, ↓firstK_assign, ↓firstK_pick, ↓firstK_load, ↓firstK_nilCheck, ↓firstK_bin, ↓firstK_un, ↓firstK_convert, ↓firstK_iface, ↓firstK_fn, ↓firstK_slice, ↓firstK_fieldAddr, ↓firstK_field, ↓firstK_indexAddr, ↓firstK_index, ↓firstK_build, ↓firstK_extract, ↓firstK_len, ↓firstK_min, ↓firstK_max, ↓firstK_call, ↓stepsK_cons, ↓stepsK_nil, ↓onK_none, ↓onK_some, ↓opK_move, ↓opK_assign, ↓opK_pick, ↓opK_load, ↓opK_nilCheck, ↓opK_bin, ↓opK_un, ↓opK_convert, ↓opK_iface, ↓opK_fn, ↓opK_slice, ↓opK_fieldAddr, ↓opK_field, ↓opK_indexAddr, ↓opK_index, ↓opK_build, ↓opK_extract, ↓opK_len, ↓opK_min, ↓opK_max, ↓opK_store, ↓opK_alloc, ↓opK_box, ↓opK_call, ↓opK_append, ↓opK_makeSlice, ↓got_some, ↓ifK_true, ↓ifK_false, ↓onB_bool, ↓onB_off, seeE_go, CV_func, CV_yld, PureCV_func, wantB_true, wantB_false, resOne_tmp, resOne_cell, two_some, pickA_bool, moveA_ptr, moveA_vp, extractA_tup, nth_upd, pickB_true, pickB_false, inB_lt, upd_len, wrap_i64, wrap_u64, shr_half64, Int.reduceLT, evA_tmp, evA_int, evA_bool, evA_str, evA_nilS, evA_nilP, evA_nilI, evA_nilF, evA_func, nth, upd, put, loadOne_ptr, loadOne_vp, loadAgg_ptr, loadAgg_vp, storeN, cells_val, cells_vs, cells_vp, cells_ptr, cells_sl, cells_fn, cells_yld, cells_agg, List.all_cons, List.all_nil, AV.one, Bool.and_true, Bool.true_and, Bool.and_self, Bool.false_and, Bool.and_false, Bool.or_false, Bool.false_or, Bool.true_or, Bool.or_true, if_true, if_false, sub_self, Mem.set_set, Nat.reduceBEq, Nat.reduceBNe, Int.reduceBEq, Int.reduceBNe, Int.reduceLE, beq_self_eq_true, Mem.set_same, Mem.set_at, fresh_set, cmpA_ii, cmpA_ss, cmpA_bb, onTi_some, boolBin, strBin, intBin, unA, buildA, placesA, fillA, ne_eq, not_true_eq_false, not_false_eq_true, List.getElem?_cons_zero, List.getElem?_cons_succ, List.length_cons, List.length_nil, List.drop_zero, List.drop_succ_cons, List.take_succ_cons, List.take_zero, List.cons_append, List.nil_append, List.append_nil, setRange, Nat.zero_add, Nat.add_zero, List.map_cons, List.map_nil, List.replicate_succ, List.replicate_zero, true_and, and_true, reduceCtorEq, decide_eq_true_eq, Bool.false_eq_true, ge_iff_le, gt_iff_lt, Nat.reduceAdd, Nat.reduceSub, Nat.reduceLeDiff, Nat.reduceLT, Nat.reduceEqDiff, Nat.not_lt_zero, Nat.le_refl, Nat.lt_irrefl, List.drop_nil, List.take_nil, Int.toNat_natCast, and_self, Bool.not_eq_true, Bool.not_true, Bool.not_false, decide_true, decide_false, got_some, ifK_true, ifK_false, onB_bool, onB_off, condK_bool, fa_24_0, fa_24_1, fa_24_2, fa_24_3, fa_24_4, fa_26_0, fa_26_1, fa_26_2, fa_26_3, fa_29_0, fa_29_1, fa_29_2, fa_29_3, fa_39_0, fa_39_1, fa_39_2, fa_39_3, fa_56_0, fa_56_1, fa_58_0, fa_58_1, fa_58_2, fa_63_0, fa_63_1, fa_65_0, fa_65_1, ld_2, ld_22, ld_24, ld_26, ld_27, ld_29, ld_3, ld_39, ld_4, ld_41, ld_42, ld_47, ld_51, ld_56, ld_58, ld_59, ld_63, ld_65, ld_78, ld_80, ld_82, ld_9, st_2, st_22, st_24, st_26, st_27, st_29, st_3, st_39, st_4, st_41, st_42, st_47, st_51, st_56, st_58, st_59, st_63, st_65, st_78, st_80, st_82, st_9, ti_2, ti_22, ti_24, ti_26, ti_27, ti_29, ti_3, ti_39, ti_4, ti_41, ti_42, ti_47, ti_51, ti_56, ti_58, ti_59, ti_63, ti_65, ti_78, ti_80, ti_82, ti_9, z_2, z_22, z_24, z_26, z_27, z_29, z_3, z_39, z_4, z_41, z_42, z_47, z_51, z_56, z_58, z_59, z_63, z_65, z_78, z_80, z_82, z_9, Req.g0, Req.g1, Req.g2, Req.len, Req.take, Req.all, List.getElem?_toArray, Array.toList, *]
    | (refine allK_intro fun n hn => ?_; try simp only [fresh_set] at hn)
    | (refine ifK_intro (fun h => ?_) (fun h => ?_) <;> try simp only [decide_eq_true_eq, decide_eq_false_iff_not, Bool.not_eq_true', Bool.not_eq_false'] at h)
  exact .flat rfl
theorem guard_65 : Try.prog.eqGuardType Try.prog.depth 65 = false := by kernel_rfl
theorem eqA_65 (a b c a' b' c' : Int) : eqA Try.prog 20 65 (.agg [.val (.int .i64 a), .val (.int .i64 b), .val (.int .i64 c)]) (.agg [.val (.int .i64 a'), .val (.int .i64 b'), .val (.int .i64 c')]) = some ((a == a' && b == b') && c == c') := by kernel_rfl
theorem eq_65 (a b c a' b' c' : Int) : cmpA Try.prog 65 .eql (.agg [.val (.int .i64 a), .val (.int .i64 b), .val (.int .i64 c)]) (.agg [.val (.int .i64 a'), .val (.int .i64 b'), .val (.int .i64 c')]) = some (.val (.bool ((a == a' && b == b') && c == c'))) := by
  simp only [cmpA, ti_65, binA, nilBin, isNilA, guard_65, eqA_65]
  rfl
theorem fl_65 (a b c : AV) : fieldA Try.prog 65 (.agg [a, b, c]) 0 = some (.agg [a, b]) := by
  simp only [fieldA, ti_65, List.getElem?_toArray, List.getElem?_cons_zero, partA, ti_63, isAggD, if_true]
  rfl
/-- What becomes of a request (P20.3): found: is there one of its client, and which. -/
def whatB (n : Nat) (found : Bool) (d : Dup) (r : Req) : Int := if !found && decide (16 ≤ (n : Int)) then 4 else if !found || laterB r.inst r.tid d.inst d.tid then 1 else if (r.inst == d.inst && r.tid == d.tid) && r.client == d.client then 2 else 3
def wasB (n : Nat) (found : Bool) (d : Dup) (r : Req) : Res := if whatB n found d r = 2 then d.res else r0
theorem F13 (l : List Dup) (x : Bool) (r : Req) (hl : l.length ≤ 140737488355328) (k : Nat) (hk : k ≤ l.length) (hlo : ∀ i, i < k → (l.getD i default).client < r.client) (hhi : ∀ i, k ≤ i → i < l.length → r.client ≤ (l.getD i default).client) :
    F Try.prog 13 [.vs (l.map Dup.cells) x, .agg r.cells] (.tup [.val (.int .i64 (whatB l.length (foundB l r.client k) (findB l r.client k) r)), .agg (wasB l.length (foundB l r.client k) (findB l r.client k) r).cells]) := by
  refine F13_of ?_
  unfold k13
  generalize hfd : findB l r.client k = d
  generalize hfb : foundB l r.client k = b
  have h19 := F19 l x r.client hl k hk hlo hhi
  rw [hfd, hfb] at h19
  clear hfd hfb hlo hhi
  repeat' first
    | simp -dsimp (disch := omega) only [↓V_ops, ↓V_any, ↓V_skip, ↓V_label, ↓V_ret, ↓V_exit, ↓V_seq, ↓V_cond, ↓V_block, ↓V_loop, ↓V_range, ↓condK_bool, ↓andThen_normal, ↓andThen_ret, ↓andThen_exit, ↓inBlk_normal, ↓inBlk_ret, ↓inBlk_exit, ↓endK_ret, ↓endK_normal, ↓resL_one, ↓resL_nil, ↓resL_two, ↓planK_nil, ↓planK_first, ↓planK_only, ↓planK_adds, ↓firstK_move, ↓firstK_assign, ↓firstK_pick, ↓firstK_load, ↓firstK_nilCheck, ↓firstK_bin, ↓firstK_un, ↓firstK_convert, ↓firstK_iface, ↓firstK_fn, ↓firstK_slice, ↓firstK_fieldAddr, ↓firstK_field, ↓firstK_indexAddr, ↓firstK_index, ↓firstK_build, ↓firstK_extract, ↓firstK_len, ↓firstK_min, ↓firstK_max, ↓firstK_call, ↓stepsK_cons, ↓stepsK_nil, ↓onK_none, ↓onK_some, ↓opK_move, ↓opK_assign, ↓opK_pick, ↓opK_load, ↓opK_nilCheck, ↓opK_bin, ↓opK_un, ↓opK_convert, ↓opK_iface, ↓opK_fn, ↓opK_slice, ↓opK_fieldAddr, ↓opK_field, ↓opK_indexAddr, ↓opK_index, ↓opK_build, ↓opK_extract, ↓opK_len, ↓opK_min, ↓opK_max, ↓opK_store, ↓opK_alloc, ↓opK_box, ↓opK_call, ↓opK_append, ↓opK_makeSlice, ↓got_some, ↓ifK_true, ↓ifK_false, ↓onB_bool, ↓onB_off, seeE_go, CV_func, CV_yld, PureCV_func, wantB_true, wantB_false, resOne_tmp, resOne_cell, two_some, pickA_bool, moveA_ptr, moveA_vp, extractA_tup, nth_upd, pickB_true, pickB_false, inB_lt, upd_len, wrap_i64, wrap_u64, shr_half64, Int.reduceLT, evA_tmp, evA_int, evA_bool, evA_str, evA_nilS, evA_nilP, evA_nilI, evA_nilF, evA_func, nth, upd, put, loadOne_ptr, loadOne_vp, loadAgg_ptr, loadAgg_vp, storeN, cells_val, cells_vs, cells_vp, cells_ptr, cells_sl, cells_fn, cells_yld, cells_agg, List.all_cons, List.all_nil, AV.one, Bool.and_true, Bool.true_and, Bool.and_self, Bool.false_and, Bool.and_false, Bool.or_false, Bool.false_or, Bool.true_or, Bool.or_true, if_true, if_false, sub_self, Mem.set_set, Nat.reduceBEq, Nat.reduceBNe, Int.reduceBEq, Int.reduceBNe, Int.reduceLE, beq_self_eq_true, Mem.set_same, Mem.set_at, fresh_set, cmpA_ii, cmpA_ss, cmpA_bb, onTi_some, boolBin, strBin, intBin, unA, buildA, placesA, fillA, ne_eq, not_true_eq_false, not_false_eq_true, List.getElem?_cons_zero, List.getElem?_cons_succ, List.length_cons, List.length_nil, List.drop_zero, List.drop_succ_cons, List.take_succ_cons, List.take_zero, List.cons_append, List.nil_append, List.append_nil, setRange, Nat.zero_add, Nat.add_zero, List.map_cons, List.map_nil, List.replicate_succ, List.replicate_zero, true_and, and_true, reduceCtorEq, decide_eq_true_eq, Bool.false_eq_true, ge_iff_le, gt_iff_lt, Nat.reduceAdd, Nat.reduceSub, Nat.reduceLeDiff, Nat.reduceLT, Nat.reduceEqDiff, Nat.not_lt_zero, Nat.le_refl, Nat.lt_irrefl, List.drop_nil, List.take_nil, Int.toNat_natCast, and_self, Bool.not_eq_true, Bool.not_true, Bool.not_false, decide_true, decide_false, got_some, ifK_true, ifK_false, onB_bool, onB_off, condK_bool, fa_24_0, fa_24_1, fa_24_2, fa_24_3, fa_24_4, fa_26_0, fa_26_1, fa_26_2, fa_26_3, fa_29_0, fa_29_1, fa_29_2, fa_29_3, fa_39_0, fa_39_1, fa_39_2, fa_39_3, fa_56_0, fa_56_1, fa_58_0, fa_58_1, fa_58_2, fa_63_0, fa_63_1, fa_65_0, fa_65_1, ld_2, ld_22, ld_24, ld_26, ld_27, ld_29, ld_3, ld_39, ld_4, ld_41, ld_42, ld_47, ld_51, ld_56, ld_58, ld_59, ld_63, ld_65, ld_78, ld_80, ld_82, ld_9, st_2, st_22, st_24, st_26, st_27, st_29, st_3, st_39, st_4, st_41, st_42, st_47, st_51, st_56, st_58, st_59, st_63, st_65, st_78, st_80, st_82, st_9, ti_2, ti_22, ti_24, ti_26, ti_27, ti_29, ti_3, ti_39, ti_4, ti_41, ti_42, ti_47, ti_51, ti_56, ti_58, ti_59, ti_63, ti_65, ti_78, ti_80, ti_82, ti_9, z_2, z_22, z_24, z_26, z_27, z_29, z_3, z_39, z_4, z_41, z_42, z_47, z_51, z_56, z_58, z_59, z_63, z_65, z_78, z_80, z_82, z_9, len_22, Req.g0, Req.g1, Req.g2, Req.len, Req.take, Req.all, Dup.len, Dup.take, Dup.all, Dup.drop, Dup.part3, Res.len, Res.all, Res.take, Res.drop, eq_65, fl_65, *]
    | (refine allK_intro fun n hn => ?_; try simp only [fresh_set] at hn)
    | (refine ifK_intro (fun h => ?_) (fun h => ?_) <;> try simp only [decide_eq_true_eq, decide_eq_false_iff_not, Bool.not_eq_true', Bool.not_eq_false'] at h)
    | (refine call_F (h19) (Seens.refl _ _) ?_)
    | (refine pure_F (h19) (Seens.refl _ _) ?_)
    | (refine call_F (F30 _) (Seens.refl _ _) ?_)
    | (refine pure_F (F30 _) (Seens.refl _ _) ?_)
    | (refine call_F (F32 _) (Seens.refl _ _) ?_)
    | (refine pure_F (F32 _) (Seens.refl _ _) ?_)
    | (refine call_F (F31 _ _ _ _) (Seens.refl _ _) ?_)
    | (refine pure_F (F31 _ _ _ _) (Seens.refl _ _) ?_)
  · have e : whatB l.length false d r = 4 := by simp [whatB, *]
    rw [wasB, e]; exact .flat rfl
  · have e : whatB l.length false d r = 1 := by simp [whatB, *]
    rw [wasB, e]; exact .flat rfl
  · have e : whatB l.length true d r = 1 := by simp [whatB, *]
    rw [wasB, e]; exact .flat rfl
  · have e : whatB l.length true d r = 2 := by
      unfold whatB
      rw [if_neg (by simp), if_neg (by simp [*]), if_pos (by assumption)]
    rw [wasB, e]; exact .flat rfl
  · have e : whatB l.length true d r = 3 := by
      unfold whatB
      rw [if_neg (by simp), if_neg (by simp [*]), if_neg (by rename_i h; rw [h]; simp)]
    rw [wasB, e]; exact .flat rfl
end Go.Proofs.Ytoankcclbnnfiaa

