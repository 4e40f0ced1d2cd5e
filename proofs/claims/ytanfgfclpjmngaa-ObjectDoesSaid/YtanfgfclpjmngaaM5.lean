/- The texts D20 D21 D22 D23 D24: what is proved on the way to the law. No conditions but those each theorem states. -/
import Derived.Test.YtanfgfclpjmngaaM4
set_option maxRecDepth 100000
set_option maxHeartbeats 1000000
set_option linter.unusedSimpArgs false
set_option linter.unusedVariables false
namespace Go.Proofs.Ytanfgfclpjmngaa
open Go.Abs
attribute [local irreducible] C X CC Y CV CW binK litK AppK PureC PureCV againK loopV rangeV allK ifK got onB condK V stepsK planK opK firstK seeE keepsK
theorem F51 (o : Obj) : F Try.prog 51 [.agg o.cells] (.val (.int .i64 o.data.length)) := by
  refine F51_of ?_
  unfold k51
  repeat' first
    | simp -dsimp (disch := omega) only [↓rulesA, rulesB, rulesC, Int.reduceLT, nth, upd, put, storeN, AV.one, Nat.reduceBEq, Nat.reduceBNe, Int.reduceBEq, Int.reduceBNe, Int.reduceLE, Int.reduceEq, Int.reduceMod, Int.reduceNeg, boolBin, strBin, intBin, unA, fillA, ne_eq, reduceCtorEq, Nat.reduceAdd, Nat.reduceSub, Nat.reduceLeDiff, Nat.reduceLT, Nat.reduceEqDiff, Int.reduceToNat, eq_self, rulesT, bne_self_eq_false, mm_min, mm_max, buOf_some, nilCheck_vp, nilCheck_ptr, nilCheck_yld, nilCheck_func, Obj.g1, Obj.all, Obj.len, Obj.take, text_size, *]
    | (refine allK_intro fun n hn => ?_; try simp only [fresh_set] at hn)
    | (refine ifK_intro (fun h => ?_) (fun h => ?_) <;> (try simp only [decide_eq_true_eq, decide_eq_false_iff_not, Bool.not_eq_true', Bool.not_eq_false'] at h) <;> try (exfalso; (try simp only [beq_iff_eq, beq_eq_false_iff_ne, bne_iff_ne, bne_eq_false_iff_eq, ne_eq] at h); omega))
    | (refine keeps_sub (Mem.sub_set ?_) ?_; focus (simp [Mem.set_at, nomem, *]; done))
  exact .val
theorem F49 (o : Obj) (b : Bool) (e num : Int) : F Try.prog 49 [.agg o.cells, .val (.bool b), .val (.int .i64 e), .val (.int .i64 num)] (.tup [.agg (if b then o else noObj).cells, .val (.bool b), .agg (Res.cells ⟨e, num, 0, []⟩)]) := by
  refine F49_of ?_
  unfold k49
  cases b
  · rw [if_neg (by decide)]
    repeat' first
      | simp -dsimp (disch := omega) only [↓rulesA, rulesB, rulesC, Int.reduceLT, nth, upd, put, storeN, AV.one, Nat.reduceBEq, Nat.reduceBNe, Int.reduceBEq, Int.reduceBNe, Int.reduceLE, Int.reduceEq, Int.reduceMod, Int.reduceNeg, boolBin, strBin, intBin, unA, fillA, ne_eq, reduceCtorEq, Nat.reduceAdd, Nat.reduceSub, Nat.reduceLeDiff, Nat.reduceLT, Nat.reduceEqDiff, Int.reduceToNat, eq_self, rulesT, bne_self_eq_false, mm_min, mm_max, buOf_some, nilCheck_vp, nilCheck_ptr, nilCheck_yld, nilCheck_func, Obj.all, Obj.len, Obj.take, Obj.sall, Obj.slit, Res.all, Res.len, Res.take, Res.sall, resL_three, three_some, *]
      | (refine allK_intro fun n hn => ?_; try simp only [fresh_set] at hn)
      | (refine ifK_intro (fun h => ?_) (fun h => ?_) <;> (try simp only [decide_eq_true_eq, decide_eq_false_iff_not, Bool.not_eq_true', Bool.not_eq_false'] at h) <;> try (exfalso; (try simp only [beq_iff_eq, beq_eq_false_iff_ne, bne_iff_ne, bne_eq_false_iff_eq, ne_eq] at h); omega))
      | (refine keeps_sub (Mem.sub_set ?_) ?_; focus (simp [Mem.set_at, nomem, *]; done))
    exact New.eq rfl rfl
  · rw [if_pos rfl]
    repeat' first
      | simp -dsimp (disch := omega) only [↓rulesA, rulesB, rulesC, Int.reduceLT, nth, upd, put, storeN, AV.one, Nat.reduceBEq, Nat.reduceBNe, Int.reduceBEq, Int.reduceBNe, Int.reduceLE, Int.reduceEq, Int.reduceMod, Int.reduceNeg, boolBin, strBin, intBin, unA, fillA, ne_eq, reduceCtorEq, Nat.reduceAdd, Nat.reduceSub, Nat.reduceLeDiff, Nat.reduceLT, Nat.reduceEqDiff, Int.reduceToNat, eq_self, rulesT, bne_self_eq_false, mm_min, mm_max, buOf_some, nilCheck_vp, nilCheck_ptr, nilCheck_yld, nilCheck_func, Obj.all, Obj.len, Obj.take, Obj.sall, Obj.slit, Res.all, Res.len, Res.take, Res.sall, resL_three, three_some, *]
      | (refine allK_intro fun n hn => ?_; try simp only [fresh_set] at hn)
      | (refine ifK_intro (fun h => ?_) (fun h => ?_) <;> (try simp only [decide_eq_true_eq, decide_eq_false_iff_not, Bool.not_eq_true', Bool.not_eq_false'] at h) <;> try (exfalso; (try simp only [beq_iff_eq, beq_eq_false_iff_ne, bne_iff_ne, bne_eq_false_iff_eq, ne_eq] at h); omega))
      | (refine keeps_sub (Mem.sub_set ?_) ?_; focus (simp [Mem.set_at, nomem, *]; done))
    exact New.eq rfl rfl
theorem zs_cells (n : Nat) : List.replicate n (AV.val (.int .u8 0)) = ((zs n).map byteC).flatten := by
  unfold zs
  rw [Int.toNat_natCast]
  induction n with
  | zero => rfl
  | succ n ih => rw [List.replicate_succ, ih]; rfl
theorem mk_67 (n : Nat) (h : n ≤ 1000000) : mkSliceA Try.prog 67 (.val (.int .i64 n)) (.val (.int .i64 n)) = some (5, n, n, ((zs n).map byteC).flatten) := by
  simp only [mkSliceA, ti_67, ti_5, z_5]
  rw [if_pos ⟨by omega, by omega, by omega, by omega, rfl, by omega⟩]
  simp only [Int.toNat_natCast]
  rw [← zs_cells]
  congr 4
  induction n with
  | zero => rfl
  | succ n ih => rw [List.replicate_succ, List.flatten_cons, ih (by omega), List.replicate_succ]; rfl
theorem F50 (n : Nat) (h : n ≤ 1000000) : F Try.prog 50 [.val (.int .i64 n)] (.val (.string ⟨(zs n).toArray⟩)) := by
  have mk := mk_67 n h
  refine F50_of ?_
  unfold k50
  have hz : (zs n).length = n := by rw [zs_len]; omega
  have cv : ∀ m : Mem, ∀ N : Nat, m N = some (.cells false 5 ((zs n).map byteC).flatten) → convA Try.prog m 67 9 (.sl N 0 n n) = some (.val (.string ⟨(zs n).toArray⟩)) := fun m N hm =>
    conv_own ti_67 rfl ti_9 rfl ti_5 rfl hm (zs n) (by rw [List.drop_zero]; exact List.take_of_length_le (by rw [flatten_one, hz]; exact Nat.le_refl _)) (by rw [flatten_one, hz, Nat.zero_add]; exact Nat.le_refl _)
  repeat' first
    | simp -dsimp (disch := omega) only [↓rulesA, rulesB, rulesC, Int.reduceLT, nth, upd, put, storeN, AV.one, Nat.reduceBEq, Nat.reduceBNe, Int.reduceBEq, Int.reduceBNe, Int.reduceLE, Int.reduceEq, Int.reduceMod, Int.reduceNeg, boolBin, strBin, intBin, unA, fillA, ne_eq, reduceCtorEq, Nat.reduceAdd, Nat.reduceSub, Nat.reduceLeDiff, Nat.reduceLT, Nat.reduceEqDiff, Int.reduceToNat, eq_self, rulesT, bne_self_eq_false, mm_min, mm_max, buOf_some, nilCheck_vp, nilCheck_ptr, nilCheck_yld, nilCheck_func, *]
    | (refine allK_intro fun n hn => ?_; try simp only [fresh_set] at hn)
    | (refine ifK_intro (fun h => ?_) (fun h => ?_) <;> (try simp only [decide_eq_true_eq, decide_eq_false_iff_not, Bool.not_eq_true', Bool.not_eq_false'] at h) <;> try (exfalso; (try simp only [beq_iff_eq, beq_eq_false_iff_ne, bne_iff_ne, bne_eq_false_iff_eq, ne_eq] at h); omega))
    | (refine keeps_sub (Mem.sub_set ?_) ?_; focus (simp [Mem.set_at, nomem, *]; done))
  rw [cv _ _ (Mem.set_same _ _ _)]
  repeat' first
    | simp -dsimp (disch := omega) only [↓rulesA, rulesB, rulesC, Int.reduceLT, nth, upd, put, storeN, AV.one, Nat.reduceBEq, Nat.reduceBNe, Int.reduceBEq, Int.reduceBNe, Int.reduceLE, Int.reduceEq, Int.reduceMod, Int.reduceNeg, boolBin, strBin, intBin, unA, fillA, ne_eq, reduceCtorEq, Nat.reduceAdd, Nat.reduceSub, Nat.reduceLeDiff, Nat.reduceLT, Nat.reduceEqDiff, Int.reduceToNat, eq_self, rulesT, bne_self_eq_false, mm_min, mm_max, buOf_some, nilCheck_vp, nilCheck_ptr, nilCheck_yld, nilCheck_func, *]
    | (refine allK_intro fun n hn => ?_; try simp only [fresh_set] at hn)
    | (refine ifK_intro (fun h => ?_) (fun h => ?_) <;> (try simp only [decide_eq_true_eq, decide_eq_false_iff_not, Bool.not_eq_true', Bool.not_eq_false'] at h) <;> try (exfalso; (try simp only [beq_iff_eq, beq_eq_false_iff_ne, bne_iff_ne, bne_eq_false_iff_eq, ne_eq] at h); omega))
    | (refine keeps_sub (Mem.sub_set ?_) ?_; focus (simp [Mem.set_at, nomem, *]; done))
  exact .val
theorem O22 (l : List Obj) (x : Bool) (hl : l.length * 56 ≤ 140737488355328) : O Try.prog 22 [.vs (l.map Obj.cells) x] 43 l.length (l.map Obj.cells).flatten := by
  refine C22_of ?_
  unfold k22
  repeat' first
    | simp -dsimp (disch := omega) only [↓rulesA, rulesB, rulesC, Int.reduceLT, nth, upd, put, storeN, AV.one, Nat.reduceBEq, Nat.reduceBNe, Int.reduceBEq, Int.reduceBNe, Int.reduceLE, Int.reduceEq, Int.reduceMod, Int.reduceNeg, boolBin, strBin, intBin, unA, fillA, ne_eq, reduceCtorEq, Nat.reduceAdd, Nat.reduceSub, Nat.reduceLeDiff, Nat.reduceLT, Nat.reduceEqDiff, Int.reduceToNat, eq_self, rulesT, bne_self_eq_false, mm_min, mm_max, buOf_some, nilCheck_vp, nilCheck_ptr, nilCheck_yld, nilCheck_func, *]
    | (refine allK_intro fun n hn => ?_; try simp only [fresh_set] at hn)
    | (refine ifK_intro (fun h => ?_) (fun h => ?_) <;> (try simp only [decide_eq_true_eq, decide_eq_false_iff_not, Bool.not_eq_true', Bool.not_eq_false'] at h) <;> try (exfalso; (try simp only [beq_iff_eq, beq_eq_false_iff_ne, bne_iff_ne, bne_eq_false_iff_eq, ne_eq] at h); omega))
    | (refine keeps_sub (Mem.sub_set ?_) ?_; focus (simp [Mem.set_at, nomem, *]; done))
  refine append_nil app_24 (src_vs Obj.cells ti_24 rfl (fun _ => ⟨rfl, rfl⟩) _ l x) hl fun n hn => ?_
  repeat' first
    | simp -dsimp (disch := omega) only [↓rulesA, rulesB, rulesC, Int.reduceLT, nth, upd, put, storeN, AV.one, Nat.reduceBEq, Nat.reduceBNe, Int.reduceBEq, Int.reduceBNe, Int.reduceLE, Int.reduceEq, Int.reduceMod, Int.reduceNeg, boolBin, strBin, intBin, unA, fillA, ne_eq, reduceCtorEq, Nat.reduceAdd, Nat.reduceSub, Nat.reduceLeDiff, Nat.reduceLT, Nat.reduceEqDiff, Int.reduceToNat, eq_self, rulesT, bne_self_eq_false, mm_min, mm_max, buOf_some, nilCheck_vp, nilCheck_ptr, nilCheck_yld, nilCheck_func, *]
    | (refine allK_intro fun n hn => ?_; try simp only [fresh_set] at hn)
    | (refine ifK_intro (fun h => ?_) (fun h => ?_) <;> (try simp only [decide_eq_true_eq, decide_eq_false_iff_not, Bool.not_eq_true', Bool.not_eq_false'] at h) <;> try (exfalso; (try simp only [beq_iff_eq, beq_eq_false_iff_ne, bne_iff_ne, bne_eq_false_iff_eq, ne_eq] at h); omega))
    | (refine keeps_sub (Mem.sub_set ?_) ?_; focus (simp [Mem.set_at, nomem, *]; done))
  exact ⟨n, rfl, Mem.set_same _ _ _⟩
theorem F22 (l : List Obj) (x : Bool) (hl : l.length * 56 ≤ 140737488355328) : F Try.prog 22 [.vs (l.map Obj.cells) x] (.vs (l.map Obj.cells) false) := F.of_O Obj.cells (s := 5) (fun _ => rfl) oflat (O22 l x hl)
def bytesN (l : List Obj) : Nat := (l.map fun o => o.data.length).sum
theorem bytes_next (l : List Obj) {i : Nat} (h : i < l.length) : bytesN (l.take (i + 1)) = bytesN (l.take i) + (l.getD i default).data.length := by
  unfold bytesN
  rw [tk_next l i h, List.map_append, List.sum_append]
  simp
theorem bytes_le {l : List Obj} (hl : l.length ≤ 16) (hd : ∀ o ∈ l, o.data.length ≤ 64) : ∀ i, i ≤ l.length → bytesN (l.take i) ≤ 64 * i
  | 0, _ => by simp [bytesN]
  | i + 1, h => by
    rw [bytes_next l h]
    have := bytes_le hl hd i (by omega)
    have := hd (l.getD i default) (by rw [getD_get l i h]; exact List.getElem_mem h)
    omega
theorem F27 (l : List Obj) (x : Bool) (hl : l.length ≤ 16) (hd : ∀ o ∈ l, o.data.length ≤ 64) : F Try.prog 27 [.vs (l.map Obj.cells) x] (.val (.int .i64 (bytesN l))) := by
  refine F27_of ?_
  unfold k27
  repeat' first
    | simp -dsimp (disch := omega) only [↓rulesA, rulesB, rulesC, Int.reduceLT, nth, upd, put, storeN, AV.one, Nat.reduceBEq, Nat.reduceBNe, Int.reduceBEq, Int.reduceBNe, Int.reduceLE, Int.reduceEq, Int.reduceMod, Int.reduceNeg, boolBin, strBin, intBin, unA, fillA, ne_eq, reduceCtorEq, Nat.reduceAdd, Nat.reduceSub, Nat.reduceLeDiff, Nat.reduceLT, Nat.reduceEqDiff, Int.reduceToNat, eq_self, rulesT, bne_self_eq_false, mm_min, mm_max, buOf_some, nilCheck_vp, nilCheck_ptr, nilCheck_yld, nilCheck_func, *]
    | (refine allK_intro fun n hn => ?_; try simp only [fresh_set] at hn)
    | (refine ifK_intro (fun h => ?_) (fun h => ?_) <;> (try simp only [decide_eq_true_eq, decide_eq_false_iff_not, Bool.not_eq_true', Bool.not_eq_false'] at h) <;> try (exfalso; (try simp only [beq_iff_eq, beq_eq_false_iff_ne, bne_iff_ne, bne_eq_false_iff_eq, ne_eq] at h); omega))
    | (refine keeps_sub (Mem.sub_set ?_) ?_; focus (simp [Mem.set_at, nomem, *]; done))
  refine loop_intro (fun j env m => ∃ i : Nat, i ≤ l.length ∧ j = l.length - i ∧ m = nomem ∧ env.length = 19 ∧ nth env 0 = .vs (l.map Obj.cells) x ∧ nth env 3 = .val (.int .i64 (bytesN (l.take i))) ∧ nth env 6 = .vs (l.map Obj.cells) x ∧ nth env 7 = .val (.int .i64 l.length) ∧ nth env 8 = .val (.int .i64 i)) l.length nomem (fun _ _ h => h) ⟨0, by omega, rfl, rfl, rfl, rfl, rfl, rfl, rfl, rfl⟩ ?_
  rintro j env m ⟨i, hi, rfl, rfl, hlen, e0, e3, e6, e7, e8⟩
  have hb := bytes_le hl hd i hi
  by_cases hil : i < l.length
  · have hbn := bytes_next l hil
    have hdd := hd (l.getD i default) (by rw [getD_get l i hil]; exact List.getElem_mem hil)
    replace hbn : Kept _ := hbn
    clear hd
    repeat' first
      | simp -dsimp (disch := omega) only [↓rulesA, rulesB, rulesC, Int.reduceLT, nth, upd, put, storeN, AV.one, Nat.reduceBEq, Nat.reduceBNe, Int.reduceBEq, Int.reduceBNe, Int.reduceLE, Int.reduceEq, Int.reduceMod, Int.reduceNeg, boolBin, strBin, intBin, unA, fillA, ne_eq, reduceCtorEq, Nat.reduceAdd, Nat.reduceSub, Nat.reduceLeDiff, Nat.reduceLT, Nat.reduceEqDiff, Int.reduceToNat, eq_self, rulesT, bne_self_eq_false, mm_min, mm_max, buOf_some, nilCheck_vp, nilCheck_ptr, nilCheck_yld, nilCheck_func, ix_24, Obj.all, Obj.len, Obj.take, Obj.sall, Obj.g1, text_size, *]
      | (refine allK_intro fun n hn => ?_; try simp only [fresh_set] at hn)
      | (refine ifK_intro (fun h => ?_) (fun h => ?_) <;> (try simp only [decide_eq_true_eq, decide_eq_false_iff_not, Bool.not_eq_true', Bool.not_eq_false'] at h) <;> try (exfalso; (try simp only [beq_iff_eq, beq_eq_false_iff_ne, bne_iff_ne, bne_eq_false_iff_eq, ne_eq] at h); omega))
      | (refine keeps_sub (Mem.sub_set ?_) ?_; focus (simp [Mem.set_at, nomem, *]; done))
    have hn' : bytesN (l.take (i + 1)) = bytesN (l.take i) + (l.getD i default).data.length := hbn
    have hc : (bytesN (l.take i) : Int) + (l.getD i default).data.length = (bytesN (l.take (i + 1)) : Nat) := by rw [hn']; omega
    refine again_intro (l.length - (i + 1)) (by omega) nomem (nomem_sub _) ⟨i + 1, by omega, rfl, rfl, ?_, ?_, ?_, ?_, ?_, ?_⟩
    all_goals try (simp (disch := omega) only [nth_upd, pickB_true, pickB_false, inB_lt, upd_len, cast_succ, Int.cast_ofNat_Int, Nat.reduceBEq, beq_self_eq_true, reduceCtorEq, *]; done)
  · have hil' : i = l.length := by omega
    subst hil'
    rw [List.take_length] at e3
    clear hd hb
    repeat' first
      | simp -dsimp (disch := omega) only [↓rulesA, rulesB, rulesC, Int.reduceLT, nth, upd, put, storeN, AV.one, Nat.reduceBEq, Nat.reduceBNe, Int.reduceBEq, Int.reduceBNe, Int.reduceLE, Int.reduceEq, Int.reduceMod, Int.reduceNeg, boolBin, strBin, intBin, unA, fillA, ne_eq, reduceCtorEq, Nat.reduceAdd, Nat.reduceSub, Nat.reduceLeDiff, Nat.reduceLT, Nat.reduceEqDiff, Int.reduceToNat, eq_self, rulesT, bne_self_eq_false, mm_min, mm_max, buOf_some, nilCheck_vp, nilCheck_ptr, nilCheck_yld, nilCheck_func, *]
      | (refine allK_intro fun n hn => ?_; try simp only [fresh_set] at hn)
      | (refine ifK_intro (fun h => ?_) (fun h => ?_) <;> (try simp only [decide_eq_true_eq, decide_eq_false_iff_not, Bool.not_eq_true', Bool.not_eq_false'] at h) <;> try (exfalso; (try simp only [beq_iff_eq, beq_eq_false_iff_ne, bne_iff_ne, bne_eq_false_iff_eq, ne_eq] at h); omega))
      | (refine keeps_sub (Mem.sub_set ?_) ?_; focus (simp [Mem.set_at, nomem, *]; done))
    exact .val
theorem F28 (l : List Obj) (x : Bool) (hl : l.length ≤ 16) (hd : ∀ o ∈ l, o.data.length ≤ 64) : F Try.prog 28 [.vs (l.map Obj.cells) x] (.val (.int .i64 (bytesN l))) := by
  refine F28_of ?_
  unfold k28
  repeat' first
    | simp -dsimp (disch := omega) only [↓rulesA, rulesB, rulesC, Int.reduceLT, nth, upd, put, storeN, AV.one, Nat.reduceBEq, Nat.reduceBNe, Int.reduceBEq, Int.reduceBNe, Int.reduceLE, Int.reduceEq, Int.reduceMod, Int.reduceNeg, boolBin, strBin, intBin, unA, fillA, ne_eq, reduceCtorEq, Nat.reduceAdd, Nat.reduceSub, Nat.reduceLeDiff, Nat.reduceLT, Nat.reduceEqDiff, Int.reduceToNat, eq_self, rulesT, bne_self_eq_false, mm_min, mm_max, buOf_some, nilCheck_vp, nilCheck_ptr, nilCheck_yld, nilCheck_func, *]
    | (refine allK_intro fun n hn => ?_; try simp only [fresh_set] at hn)
    | (refine ifK_intro (fun h => ?_) (fun h => ?_) <;> (try simp only [decide_eq_true_eq, decide_eq_false_iff_not, Bool.not_eq_true', Bool.not_eq_false'] at h) <;> try (exfalso; (try simp only [beq_iff_eq, beq_eq_false_iff_ne, bne_iff_ne, bne_eq_false_iff_eq, ne_eq] at h); omega))
    | (refine keeps_sub (Mem.sub_set ?_) ?_; focus (simp [Mem.set_at, nomem, *]; done))
  refine loop_intro (fun j env m => ∃ i : Nat, i ≤ l.length ∧ j = l.length - i ∧ m = nomem ∧ env.length = 20 ∧ nth env 0 = .vs (l.map Obj.cells) x ∧ nth env 3 = .val (.int .i64 (bytesN (l.take i))) ∧ nth env 4 = .val (.int .i64 i)) l.length nomem (fun _ _ h => h) ⟨0, by omega, rfl, rfl, rfl, rfl, rfl, rfl⟩ ?_
  rintro j env m ⟨i, hi, rfl, rfl, hlen, e0, e3, e4⟩
  have hb := bytes_le hl hd i hi
  by_cases hil : i < l.length
  · have hbn := bytes_next l hil
    have hdd := hd (l.getD i default) (by rw [getD_get l i hil]; exact List.getElem_mem hil)
    replace hbn : Kept _ := hbn
    clear hd
    repeat' first
      | simp -dsimp (disch := omega) only [↓rulesA, rulesB, rulesC, Int.reduceLT, nth, upd, put, storeN, AV.one, Nat.reduceBEq, Nat.reduceBNe, Int.reduceBEq, Int.reduceBNe, Int.reduceLE, Int.reduceEq, Int.reduceMod, Int.reduceNeg, boolBin, strBin, intBin, unA, fillA, ne_eq, reduceCtorEq, Nat.reduceAdd, Nat.reduceSub, Nat.reduceLeDiff, Nat.reduceLT, Nat.reduceEqDiff, Int.reduceToNat, eq_self, rulesT, bne_self_eq_false, mm_min, mm_max, buOf_some, nilCheck_vp, nilCheck_ptr, nilCheck_yld, nilCheck_func, ix_24, Obj.all, Obj.len, Obj.take, Obj.sall, Obj.g1, text_size, *]
      | (refine allK_intro fun n hn => ?_; try simp only [fresh_set] at hn)
      | (refine ifK_intro (fun h => ?_) (fun h => ?_) <;> (try simp only [decide_eq_true_eq, decide_eq_false_iff_not, Bool.not_eq_true', Bool.not_eq_false'] at h) <;> try (exfalso; (try simp only [beq_iff_eq, beq_eq_false_iff_ne, bne_iff_ne, bne_eq_false_iff_eq, ne_eq] at h); omega))
      | (refine keeps_sub (Mem.sub_set ?_) ?_; focus (simp [Mem.set_at, nomem, *]; done))
    have hn' : bytesN (l.take (i + 1)) = bytesN (l.take i) + (l.getD i default).data.length := hbn
    have hc : (bytesN (l.take i) : Int) + (l.getD i default).data.length = (bytesN (l.take (i + 1)) : Nat) := by rw [hn']; omega
    refine again_intro (l.length - (i + 1)) (by omega) nomem (nomem_sub _) ⟨i + 1, by omega, rfl, rfl, ?_, ?_, ?_, ?_⟩
    all_goals try (simp (disch := omega) only [nth_upd, pickB_true, pickB_false, inB_lt, upd_len, cast_succ, Int.cast_ofNat_Int, Nat.reduceBEq, beq_self_eq_true, reduceCtorEq, *]; done)
  · have hil' : i = l.length := by omega
    subst hil'
    rw [List.take_length] at e3
    clear hd hb
    repeat' first
      | simp -dsimp (disch := omega) only [↓rulesA, rulesB, rulesC, Int.reduceLT, nth, upd, put, storeN, AV.one, Nat.reduceBEq, Nat.reduceBNe, Int.reduceBEq, Int.reduceBNe, Int.reduceLE, Int.reduceEq, Int.reduceMod, Int.reduceNeg, boolBin, strBin, intBin, unA, fillA, ne_eq, reduceCtorEq, Nat.reduceAdd, Nat.reduceSub, Nat.reduceLeDiff, Nat.reduceLT, Nat.reduceEqDiff, Int.reduceToNat, eq_self, rulesT, bne_self_eq_false, mm_min, mm_max, buOf_some, nilCheck_vp, nilCheck_ptr, nilCheck_yld, nilCheck_func, *]
      | (refine allK_intro fun n hn => ?_; try simp only [fresh_set] at hn)
      | (refine ifK_intro (fun h => ?_) (fun h => ?_) <;> (try simp only [decide_eq_true_eq, decide_eq_false_iff_not, Bool.not_eq_true', Bool.not_eq_false'] at h) <;> try (exfalso; (try simp only [beq_iff_eq, beq_eq_false_iff_ne, bne_iff_ne, bne_eq_false_iff_eq, ne_eq] at h); omega))
      | (refine keeps_sub (Mem.sub_set ?_) ?_; focus (simp [Mem.set_at, nomem, *]; done))
    exact .val
theorem F26 (l : List Obj) (x : Bool) (nm : List UInt8) (hfit : fitB l = true) : F Try.prog 26 [.vs (l.map Obj.cells) x, .val (.string ⟨nm.toArray⟩)] (.tup [.agg (oAt l nm).cells, .val (.bool (foundB l nm (placeN l nm)))]) := by
  have hl16 := fit_len hfit
  refine F26_of ?_
  unfold k26
  repeat' first
    | simp -dsimp (disch := omega) only [↓rulesA, rulesB, rulesC, Int.reduceLT, nth, upd, put, storeN, AV.one, Nat.reduceBEq, Nat.reduceBNe, Int.reduceBEq, Int.reduceBNe, Int.reduceLE, Int.reduceEq, Int.reduceMod, Int.reduceNeg, boolBin, strBin, intBin, unA, fillA, ne_eq, reduceCtorEq, Nat.reduceAdd, Nat.reduceSub, Nat.reduceLeDiff, Nat.reduceLT, Nat.reduceEqDiff, Int.reduceToNat, eq_self, rulesT, bne_self_eq_false, mm_min, mm_max, buOf_some, nilCheck_vp, nilCheck_ptr, nilCheck_yld, nilCheck_func, *]
    | (refine allK_intro fun n hn => ?_; try simp only [fresh_set] at hn)
    | (refine ifK_intro (fun h => ?_) (fun h => ?_) <;> (try simp only [decide_eq_true_eq, decide_eq_false_iff_not, Bool.not_eq_true', Bool.not_eq_false'] at h) <;> try (exfalso; (try simp only [beq_iff_eq, beq_eq_false_iff_ne, bne_iff_ne, bne_eq_false_iff_eq, ne_eq] at h); omega))
    | (refine keeps_sub (Mem.sub_set ?_) ?_; focus (simp [Mem.set_at, nomem, *]; done))
  refine loop_intro (fun j env m => ∃ i : Nat, i ≤ l.length ∧ j = l.length - i ∧ m = nomem.set n (.cells false 43 noObj.cells) ∧ Kept (∀ q, q < i → (l.getD q default).name ≠ nm) ∧ env.length = 25 ∧ nth env 0 = .vs (l.map Obj.cells) x ∧ nth env 1 = .val (.string ⟨nm.toArray⟩) ∧ nth env 4 = .ptr n 0 ∧ nth env 6 = .val (.int .i64 i)) l.length _ (fun _ _ h => h) ⟨0, by omega, rfl, rfl, fun q hq => absurd hq (Nat.not_lt_zero _), rfl, rfl, rfl, rfl, rfl⟩ ?_
  rintro j env m ⟨i, hi, rfl, rfl, hno, hlen, e0, e1, e4, e6⟩
  by_cases hil : i < l.length
  · by_cases hn' : (l.getD i default).name = nm
    · have hx : l.getD i default ∈ l := by rw [getD_get l i hil]; exact List.getElem_mem hil
      obtain ⟨q1, q2, _⟩ := find_mem hfit hx
      rw [hn'] at q1 q2
      rw [q1, q2]
      have hb : ((l.getD i default).name == nm) = true := by rw [hn']; exact beq_self_eq_true _
      clear q1 q2 hno hn' hx
      repeat' first
        | simp -dsimp (disch := omega) only [↓rulesA, rulesB, rulesC, Int.reduceLT, nth, upd, put, storeN, AV.one, Nat.reduceBEq, Nat.reduceBNe, Int.reduceBEq, Int.reduceBNe, Int.reduceLE, Int.reduceEq, Int.reduceMod, Int.reduceNeg, boolBin, strBin, intBin, unA, fillA, ne_eq, reduceCtorEq, Nat.reduceAdd, Nat.reduceSub, Nat.reduceLeDiff, Nat.reduceLT, Nat.reduceEqDiff, Int.reduceToNat, eq_self, rulesT, bne_self_eq_false, mm_min, mm_max, buOf_some, nilCheck_vp, nilCheck_ptr, nilCheck_yld, nilCheck_func, ix_24, Obj.all, Obj.len, Obj.take, Obj.sall, Obj.g0, text_tl, *]
        | (refine allK_intro fun n hn => ?_; try simp only [fresh_set] at hn)
        | (refine ifK_intro (fun h => ?_) (fun h => ?_) <;> (try simp only [decide_eq_true_eq, decide_eq_false_iff_not, Bool.not_eq_true', Bool.not_eq_false'] at h) <;> try (exfalso; (try simp only [beq_iff_eq, beq_eq_false_iff_ne, bne_iff_ne, bne_eq_false_iff_eq, ne_eq] at h); omega))
        | (refine keeps_sub (Mem.sub_set ?_) ?_; focus (simp [Mem.set_at, nomem, *]; done))
      exact New.eq rfl rfl
    · have hb : ((l.getD i default).name == nm) = false := by rw [beq_eq_false_iff_ne]; exact hn'
      have hno' : Kept (∀ q, q < i + 1 → (l.getD q default).name ≠ nm) := fun q hq => by
        rcases Nat.lt_or_ge q i with h | h
        · exact (hno : ∀ q, _) q h
        · have : q = i := by omega
          rw [this]; exact hn'
      clear hno hn'
      repeat' first
        | simp -dsimp (disch := omega) only [↓rulesA, rulesB, rulesC, Int.reduceLT, nth, upd, put, storeN, AV.one, Nat.reduceBEq, Nat.reduceBNe, Int.reduceBEq, Int.reduceBNe, Int.reduceLE, Int.reduceEq, Int.reduceMod, Int.reduceNeg, boolBin, strBin, intBin, unA, fillA, ne_eq, reduceCtorEq, Nat.reduceAdd, Nat.reduceSub, Nat.reduceLeDiff, Nat.reduceLT, Nat.reduceEqDiff, Int.reduceToNat, eq_self, rulesT, bne_self_eq_false, mm_min, mm_max, buOf_some, nilCheck_vp, nilCheck_ptr, nilCheck_yld, nilCheck_func, ix_24, Obj.all, Obj.len, Obj.take, Obj.sall, Obj.g0, text_tl, *]
        | (refine allK_intro fun n hn => ?_; try simp only [fresh_set] at hn)
        | (refine ifK_intro (fun h => ?_) (fun h => ?_) <;> (try simp only [decide_eq_true_eq, decide_eq_false_iff_not, Bool.not_eq_true', Bool.not_eq_false'] at h) <;> try (exfalso; (try simp only [beq_iff_eq, beq_eq_false_iff_ne, bne_iff_ne, bne_eq_false_iff_eq, ne_eq] at h); omega))
        | (refine keeps_sub (Mem.sub_set ?_) ?_; focus (simp [Mem.set_at, nomem, *]; done))
      refine again_intro (l.length - (i + 1)) (by omega) (nomem.set n (.cells false 43 noObj.cells)) (fun _ _ h => h) ⟨i + 1, by omega, rfl, rfl, hno', ?_, ?_, ?_, ?_, ?_⟩
      all_goals try (simp (disch := omega) only [nth_upd, pickB_true, pickB_false, inB_lt, upd_len, cast_succ, Int.cast_ofNat_Int, Nat.reduceBEq, beq_self_eq_true, reduceCtorEq, *]; done)
  · have hf : foundB l nm (placeN l nm) = false := by
      cases hf : foundB l nm (placeN l nm) with
      | false => rfl
      | true =>
        obtain ⟨h1, h2, _⟩ := found_name hf
        exact absurd h2 ((hno : ∀ q, _) _ (by omega))
    have ho : oAt l nm = noObj := by unfold oAt; rw [hf]; rfl
    rw [hf, ho]
    clear hno
    repeat' first
      | simp -dsimp (disch := omega) only [↓rulesA, rulesB, rulesC, Int.reduceLT, nth, upd, put, storeN, AV.one, Nat.reduceBEq, Nat.reduceBNe, Int.reduceBEq, Int.reduceBNe, Int.reduceLE, Int.reduceEq, Int.reduceMod, Int.reduceNeg, boolBin, strBin, intBin, unA, fillA, ne_eq, reduceCtorEq, Nat.reduceAdd, Nat.reduceSub, Nat.reduceLeDiff, Nat.reduceLT, Nat.reduceEqDiff, Int.reduceToNat, eq_self, rulesT, bne_self_eq_false, mm_min, mm_max, buOf_some, nilCheck_vp, nilCheck_ptr, nilCheck_yld, nilCheck_func, Obj.all, Obj.len, Obj.take, Obj.sall, Obj.slit, *]
      | (refine allK_intro fun n hn => ?_; try simp only [fresh_set] at hn)
      | (refine ifK_intro (fun h => ?_) (fun h => ?_) <;> (try simp only [decide_eq_true_eq, decide_eq_false_iff_not, Bool.not_eq_true', Bool.not_eq_false'] at h) <;> try (exfalso; (try simp only [beq_iff_eq, beq_eq_false_iff_ne, bne_iff_ne, bne_eq_false_iff_eq, ne_eq] at h); omega))
      | (refine keeps_sub (Mem.sub_set ?_) ?_; focus (simp [Mem.set_at, nomem, *]; done))
    exact New.eq rfl rfl
theorem src_24 (m : Mem) (l : List Obj) (x : Bool) : srcA Try.prog m 24 5 (.vs (l.map Obj.cells) x) = some (l.length, (l.map Obj.cells).flatten) := src_vs Obj.cells ti_24 rfl (fun _ => ⟨rfl, rfl⟩) m l x
theorem obj_snoc (L : List Obj) (d : Obj) : (L.map Obj.cells).flatten ++ [d.cells].flatten = ((L ++ [d]).map Obj.cells).flatten := by simp
theorem O38 (l : List Obj) (x : Bool) (nm : List UInt8) (o : Obj) (b : Bool) (hl : l.length ≤ 16) : O Try.prog 38 [.vs (l.map Obj.cells) x, .val (.string ⟨nm.toArray⟩), .agg o.cells, .val (.bool b)] 43 (putL l nm o b).length ((putL l nm o b).map Obj.cells).flatten := by
  refine C38_of ?_
  unfold k38
  repeat' first
    | simp -dsimp (disch := omega) only [↓rulesA, rulesB, rulesC, Int.reduceLT, nth, upd, put, storeN, AV.one, Nat.reduceBEq, Nat.reduceBNe, Int.reduceBEq, Int.reduceBNe, Int.reduceLE, Int.reduceEq, Int.reduceMod, Int.reduceNeg, boolBin, strBin, intBin, unA, fillA, ne_eq, reduceCtorEq, Nat.reduceAdd, Nat.reduceSub, Nat.reduceLeDiff, Nat.reduceLT, Nat.reduceEqDiff, Int.reduceToNat, eq_self, rulesT, bne_self_eq_false, mm_min, mm_max, buOf_some, nilCheck_vp, nilCheck_ptr, nilCheck_yld, nilCheck_func, Obj.all, Obj.len, Obj.take, Obj.sall, *]
    | (refine allK_intro fun n hn => ?_; try simp only [fresh_set] at hn)
    | (refine ifK_intro (fun h => ?_) (fun h => ?_) <;> (try simp only [decide_eq_true_eq, decide_eq_false_iff_not, Bool.not_eq_true', Bool.not_eq_false'] at h) <;> try (exfalso; (try simp only [beq_iff_eq, beq_eq_false_iff_ne, bne_iff_ne, bne_eq_false_iff_eq, ne_eq] at h); omega))
    | (refine keeps_sub (Mem.sub_set ?_) ?_; focus (simp [Mem.set_at, nomem, *]; done))
  refine loop_introG (fun j env m => ∃ (i N : Nat), i ≤ l.length ∧ j = l.length - i ∧ N ≠ n ∧ m = (nomem.set n (.cells false 43 o.cells)).set N (.cells true 43 (((putTo (l.take i) nm o b).1).map Obj.cells).flatten) ∧ env.length = 56 ∧ nth env 0 = .vs (l.map Obj.cells) x ∧ nth env 1 = .val (.string ⟨nm.toArray⟩) ∧ nth env 6 = .ptr n 0 ∧ nth env 9 = .sl N 0 (putTo (l.take i) nm o b).1.length (putTo (l.take i) nm o b).1.length ∧ nth env 10 = .val (.bool (putTo (l.take i) nm o b).2) ∧ nth env 11 = .val (.int .i64 i)) l.length ?_ ?_
  · refine Ghosts.nil 9 43 (Nat.le_of_ble_eq_true rfl) rfl fun n1 hn1 => .mk ?_
    simp only [fresh_set] at hn1
    exact ⟨0, n1, by omega, by omega, hn1.1, rfl, rfl, rfl, rfl, rfl, rfl, rfl, rfl⟩
  rintro j env m ⟨i, N, hi, rfl, hNn, rfl, hlen, e0, e1, e6, e9, e10, e11⟩
  have hnN := Ne.symm hNn
  have hpl := put_len l nm o b i hi
  by_cases hil : i < l.length
  · have hnx := putTo_next l nm o b hil
    generalize hq0 : putTo (l.take i) nm o b = q at *
    obtain ⟨L, dn⟩ := q
    dsimp only at *
    clear hn
    generalize hy : l.getD i default = y at *
    by_cases hn' : y.name = nm
    · have hb : (y.name == nm) = true := by rw [hn']; exact beq_self_eq_true _
      cases dn with
      | true =>
        have hq : putTo (l.take (i + 1)) nm o b = _ := hnx.trans ((putS_by o (fun c => by cases c.1)).trans (if_pos hn'))
        clear hnx hq0 hn'
        repeat' first
          | simp -dsimp (disch := omega) only [↓rulesA, rulesB, rulesC, Int.reduceLT, nth, upd, put, storeN, AV.one, Nat.reduceBEq, Nat.reduceBNe, Int.reduceBEq, Int.reduceBNe, Int.reduceLE, Int.reduceEq, Int.reduceMod, Int.reduceNeg, boolBin, strBin, intBin, unA, fillA, ne_eq, reduceCtorEq, Nat.reduceAdd, Nat.reduceSub, Nat.reduceLeDiff, Nat.reduceLT, Nat.reduceEqDiff, Int.reduceToNat, eq_self, rulesT, bne_self_eq_false, mm_min, mm_max, buOf_some, nilCheck_vp, nilCheck_ptr, nilCheck_yld, nilCheck_func, ix_24, Obj.all, Obj.len, Obj.take, Obj.sall, Obj.g0, text_tl, lessT_def, *]
          | (refine allK_intro fun n hn => ?_; try simp only [fresh_set] at hn)
          | (refine ifK_intro (fun h => ?_) (fun h => ?_) <;> (try simp only [decide_eq_true_eq, decide_eq_false_iff_not, Bool.not_eq_true', Bool.not_eq_false'] at h) <;> try (exfalso; (try simp only [beq_iff_eq, beq_eq_false_iff_ne, bne_iff_ne, bne_eq_false_iff_eq, ne_eq] at h); omega))
          | (refine keeps_sub (Mem.sub_set ?_) ?_; focus (simp [Mem.set_at, nomem, *]; done))
        have hql : (putTo (l.take (i + 1)) nm o b).1.length = L.length := by rw [hq]
        have hqd : (putTo (l.take (i + 1)) nm o b).2 = _ := congrArg Prod.snd hq
        dsimp only at hqd
        refine again_intro (l.length - (i + 1)) (by omega) ((nomem.set n (.cells false 43 o.cells)).set N (.cells true 43 ((L).map Obj.cells).flatten)) ?_ ⟨i + 1, N, by omega, rfl, ?_, by rw [hq], ?_, ?_, ?_, ?_, ?_, ?_, ?_⟩
        · ((repeat' first | exact Mem.sub.refl _ | exact nomem_sub _ | refine Mem.set_sub ?_ ?_ | refine Mem.sub_set_new ?_ ?_ | refine Mem.sub_del ?_ ?_) <;> simp [Mem.set_at, Mem.del_at, nomem, *])
        · simp [*]
        all_goals clear hq
        all_goals try (simp (disch := omega) only [nth_upd, pickB_true, pickB_false, inB_lt, upd_len, cast_succ, Int.cast_ofNat_Int, Nat.reduceBEq, beq_self_eq_true, reduceCtorEq, *]; done)
      | false =>
        cases hlt : lessT y.name nm with
        | true =>
          have hq : putTo (l.take (i + 1)) nm o b = _ := hnx.trans ((putS_by o (fun c => by rw [hlt] at c; cases c.2)).trans (if_pos hn'))
          clear hnx hq0 hn'
          repeat' first
            | simp -dsimp (disch := omega) only [↓rulesA, rulesB, rulesC, Int.reduceLT, nth, upd, put, storeN, AV.one, Nat.reduceBEq, Nat.reduceBNe, Int.reduceBEq, Int.reduceBNe, Int.reduceLE, Int.reduceEq, Int.reduceMod, Int.reduceNeg, boolBin, strBin, intBin, unA, fillA, ne_eq, reduceCtorEq, Nat.reduceAdd, Nat.reduceSub, Nat.reduceLeDiff, Nat.reduceLT, Nat.reduceEqDiff, Int.reduceToNat, eq_self, rulesT, bne_self_eq_false, mm_min, mm_max, buOf_some, nilCheck_vp, nilCheck_ptr, nilCheck_yld, nilCheck_func, ix_24, Obj.all, Obj.len, Obj.take, Obj.sall, Obj.g0, text_tl, lessT_def, *]
            | (refine allK_intro fun n hn => ?_; try simp only [fresh_set] at hn)
            | (refine ifK_intro (fun h => ?_) (fun h => ?_) <;> (try simp only [decide_eq_true_eq, decide_eq_false_iff_not, Bool.not_eq_true', Bool.not_eq_false'] at h) <;> try (exfalso; (try simp only [beq_iff_eq, beq_eq_false_iff_ne, bne_iff_ne, bne_eq_false_iff_eq, ne_eq] at h); omega))
            | (refine keeps_sub (Mem.sub_set ?_) ?_; focus (simp [Mem.set_at, nomem, *]; done))
          have hql : (putTo (l.take (i + 1)) nm o b).1.length = L.length := by rw [hq]
          have hqd : (putTo (l.take (i + 1)) nm o b).2 = _ := congrArg Prod.snd hq
          dsimp only at hqd
          refine again_intro (l.length - (i + 1)) (by omega) ((nomem.set n (.cells false 43 o.cells)).set N (.cells true 43 ((L).map Obj.cells).flatten)) ?_ ⟨i + 1, N, by omega, rfl, ?_, by rw [hq], ?_, ?_, ?_, ?_, ?_, ?_, ?_⟩
          · ((repeat' first | exact Mem.sub.refl _ | exact nomem_sub _ | refine Mem.set_sub ?_ ?_ | refine Mem.sub_set_new ?_ ?_ | refine Mem.sub_del ?_ ?_) <;> simp [Mem.set_at, Mem.del_at, nomem, *])
          · simp [*]
          all_goals clear hq
          all_goals try (simp (disch := omega) only [nth_upd, pickB_true, pickB_false, inB_lt, upd_len, cast_succ, Int.cast_ofNat_Int, Nat.reduceBEq, beq_self_eq_true, reduceCtorEq, *]; done)
        | false =>
          have hq : putTo (l.take (i + 1)) nm o b = _ := hnx.trans ((putS_in o rfl hlt).trans (if_pos hn'))
          clear hnx hq0 hn'
          repeat' first
            | simp -dsimp (disch := omega) only [↓rulesA, rulesB, rulesC, Int.reduceLT, nth, upd, put, storeN, AV.one, Nat.reduceBEq, Nat.reduceBNe, Int.reduceBEq, Int.reduceBNe, Int.reduceLE, Int.reduceEq, Int.reduceMod, Int.reduceNeg, boolBin, strBin, intBin, unA, fillA, ne_eq, reduceCtorEq, Nat.reduceAdd, Nat.reduceSub, Nat.reduceLeDiff, Nat.reduceLT, Nat.reduceEqDiff, Int.reduceToNat, eq_self, rulesT, bne_self_eq_false, mm_min, mm_max, buOf_some, nilCheck_vp, nilCheck_ptr, nilCheck_yld, nilCheck_func, ix_24, Obj.all, Obj.len, Obj.take, Obj.sall, Obj.g0, text_tl, lessT_def, *]
            | (refine allK_intro fun n hn => ?_; try simp only [fresh_set] at hn)
            | (refine ifK_intro (fun h => ?_) (fun h => ?_) <;> (try simp only [decide_eq_true_eq, decide_eq_false_iff_not, Bool.not_eq_true', Bool.not_eq_false'] at h) <;> try (exfalso; (try simp only [beq_iff_eq, beq_eq_false_iff_ne, bne_iff_ne, bne_eq_false_iff_eq, ne_eq] at h); omega))
            | (refine keeps_sub (Mem.sub_set ?_) ?_; focus (simp [Mem.set_at, nomem, *]; done))
          refine lit_vs (lit1_24 _) rfl ?_
          repeat' first
            | simp -dsimp (disch := omega) only [↓rulesA, rulesB, rulesC, Int.reduceLT, nth, upd, put, storeN, AV.one, Nat.reduceBEq, Nat.reduceBNe, Int.reduceBEq, Int.reduceBNe, Int.reduceLE, Int.reduceEq, Int.reduceMod, Int.reduceNeg, boolBin, strBin, intBin, unA, fillA, ne_eq, reduceCtorEq, Nat.reduceAdd, Nat.reduceSub, Nat.reduceLeDiff, Nat.reduceLT, Nat.reduceEqDiff, Int.reduceToNat, eq_self, rulesT, bne_self_eq_false, mm_min, mm_max, buOf_some, nilCheck_vp, nilCheck_ptr, nilCheck_yld, nilCheck_func, ix_24, Obj.all, Obj.len, Obj.take, Obj.sall, Obj.g0, text_tl, lessT_def, *]
            | (refine allK_intro fun n hn => ?_; try simp only [fresh_set] at hn)
            | (refine ifK_intro (fun h => ?_) (fun h => ?_) <;> (try simp only [decide_eq_true_eq, decide_eq_false_iff_not, Bool.not_eq_true', Bool.not_eq_false'] at h) <;> try (exfalso; (try simp only [beq_iff_eq, beq_eq_false_iff_ne, bne_iff_ne, bne_eq_false_iff_eq, ne_eq] at h); omega))
            | (refine keeps_sub (Mem.sub_set ?_) ?_; focus (simp [Mem.set_at, nomem, *]; done))
          refine append_open app_24 (src_24 _ [o] _) (Mem.set_same _ _ _) cs_43 (by rw [Obj.rlen]; simp) (by simp; omega) fun n1 hn1 => ?_
          simp only [fresh_set] at hn1
          repeat' first
            | simp -dsimp (disch := omega) only [↓rulesA, rulesB, rulesC, Int.reduceLT, nth, upd, put, storeN, AV.one, Nat.reduceBEq, Nat.reduceBNe, Int.reduceBEq, Int.reduceBNe, Int.reduceLE, Int.reduceEq, Int.reduceMod, Int.reduceNeg, boolBin, strBin, intBin, unA, fillA, ne_eq, reduceCtorEq, Nat.reduceAdd, Nat.reduceSub, Nat.reduceLeDiff, Nat.reduceLT, Nat.reduceEqDiff, Int.reduceToNat, eq_self, rulesT, bne_self_eq_false, mm_min, mm_max, buOf_some, nilCheck_vp, nilCheck_ptr, nilCheck_yld, nilCheck_func, ix_24, Obj.all, Obj.len, Obj.take, Obj.sall, Obj.g0, text_tl, lessT_def, *]
            | (refine allK_intro fun n hn => ?_; try simp only [fresh_set] at hn)
            | (refine ifK_intro (fun h => ?_) (fun h => ?_) <;> (try simp only [decide_eq_true_eq, decide_eq_false_iff_not, Bool.not_eq_true', Bool.not_eq_false'] at h) <;> try (exfalso; (try simp only [beq_iff_eq, beq_eq_false_iff_ne, bne_iff_ne, bne_eq_false_iff_eq, ne_eq] at h); omega))
            | (refine keeps_sub (Mem.sub_set ?_) ?_; focus (simp [Mem.set_at, nomem, *]; done))
          try simp only [obj_snoc]
          have hql : (putTo (l.take (i + 1)) nm o b).1.length = L.length + 1 := by rw [hq]; simp
          have hqd : (putTo (l.take (i + 1)) nm o b).2 = _ := congrArg Prod.snd hq
          dsimp only at hqd
          refine again_intro (l.length - (i + 1)) (by omega) ((nomem.set n (.cells false 43 o.cells)).set n1 (.cells true 43 ((L ++ [o]).map Obj.cells).flatten)) ?_ ⟨i + 1, n1, by omega, rfl, ?_, by rw [hq], ?_, ?_, ?_, ?_, ?_, ?_, ?_⟩
          · ((repeat' first | exact Mem.sub.refl _ | exact nomem_sub _ | refine Mem.set_sub ?_ ?_ | refine Mem.sub_set_new ?_ ?_ | refine Mem.sub_del ?_ ?_) <;> simp [Mem.set_at, Mem.del_at, nomem, *])
          · simp [*]
          all_goals clear hq
          all_goals try (simp (disch := omega) only [nth_upd, pickB_true, pickB_false, inB_lt, upd_len, cast_succ, Int.cast_ofNat_Int, Nat.reduceBEq, beq_self_eq_true, reduceCtorEq, *]; done)
    · have hb : (y.name == nm) = false := by rw [beq_eq_false_iff_ne]; exact hn'
      cases dn with
      | true =>
        have hq : putTo (l.take (i + 1)) nm o b = _ := hnx.trans ((putS_by o (fun c => by cases c.1)).trans (if_neg hn'))
        clear hnx hq0 hn'
        repeat' first
          | simp -dsimp (disch := omega) only [↓rulesA, rulesB, rulesC, Int.reduceLT, nth, upd, put, storeN, AV.one, Nat.reduceBEq, Nat.reduceBNe, Int.reduceBEq, Int.reduceBNe, Int.reduceLE, Int.reduceEq, Int.reduceMod, Int.reduceNeg, boolBin, strBin, intBin, unA, fillA, ne_eq, reduceCtorEq, Nat.reduceAdd, Nat.reduceSub, Nat.reduceLeDiff, Nat.reduceLT, Nat.reduceEqDiff, Int.reduceToNat, eq_self, rulesT, bne_self_eq_false, mm_min, mm_max, buOf_some, nilCheck_vp, nilCheck_ptr, nilCheck_yld, nilCheck_func, ix_24, Obj.all, Obj.len, Obj.take, Obj.sall, Obj.g0, text_tl, lessT_def, *]
          | (refine allK_intro fun n hn => ?_; try simp only [fresh_set] at hn)
          | (refine ifK_intro (fun h => ?_) (fun h => ?_) <;> (try simp only [decide_eq_true_eq, decide_eq_false_iff_not, Bool.not_eq_true', Bool.not_eq_false'] at h) <;> try (exfalso; (try simp only [beq_iff_eq, beq_eq_false_iff_ne, bne_iff_ne, bne_eq_false_iff_eq, ne_eq] at h); omega))
          | (refine keeps_sub (Mem.sub_set ?_) ?_; focus (simp [Mem.set_at, nomem, *]; done))
        refine lit_vs (lit1_24 _) rfl ?_
        repeat' first
          | simp -dsimp (disch := omega) only [↓rulesA, rulesB, rulesC, Int.reduceLT, nth, upd, put, storeN, AV.one, Nat.reduceBEq, Nat.reduceBNe, Int.reduceBEq, Int.reduceBNe, Int.reduceLE, Int.reduceEq, Int.reduceMod, Int.reduceNeg, boolBin, strBin, intBin, unA, fillA, ne_eq, reduceCtorEq, Nat.reduceAdd, Nat.reduceSub, Nat.reduceLeDiff, Nat.reduceLT, Nat.reduceEqDiff, Int.reduceToNat, eq_self, rulesT, bne_self_eq_false, mm_min, mm_max, buOf_some, nilCheck_vp, nilCheck_ptr, nilCheck_yld, nilCheck_func, ix_24, Obj.all, Obj.len, Obj.take, Obj.sall, Obj.g0, text_tl, lessT_def, *]
          | (refine allK_intro fun n hn => ?_; try simp only [fresh_set] at hn)
          | (refine ifK_intro (fun h => ?_) (fun h => ?_) <;> (try simp only [decide_eq_true_eq, decide_eq_false_iff_not, Bool.not_eq_true', Bool.not_eq_false'] at h) <;> try (exfalso; (try simp only [beq_iff_eq, beq_eq_false_iff_ne, bne_iff_ne, bne_eq_false_iff_eq, ne_eq] at h); omega))
          | (refine keeps_sub (Mem.sub_set ?_) ?_; focus (simp [Mem.set_at, nomem, *]; done))
        refine append_open app_24 (src_24 _ [y] _) (Mem.set_same _ _ _) cs_43 (by rw [Obj.rlen]; simp) (by simp; omega) fun n2 hn2 => ?_
        simp only [fresh_set] at hn2
        repeat' first
          | simp -dsimp (disch := omega) only [↓rulesA, rulesB, rulesC, Int.reduceLT, nth, upd, put, storeN, AV.one, Nat.reduceBEq, Nat.reduceBNe, Int.reduceBEq, Int.reduceBNe, Int.reduceLE, Int.reduceEq, Int.reduceMod, Int.reduceNeg, boolBin, strBin, intBin, unA, fillA, ne_eq, reduceCtorEq, Nat.reduceAdd, Nat.reduceSub, Nat.reduceLeDiff, Nat.reduceLT, Nat.reduceEqDiff, Int.reduceToNat, eq_self, rulesT, bne_self_eq_false, mm_min, mm_max, buOf_some, nilCheck_vp, nilCheck_ptr, nilCheck_yld, nilCheck_func, ix_24, Obj.all, Obj.len, Obj.take, Obj.sall, Obj.g0, text_tl, lessT_def, *]
          | (refine allK_intro fun n hn => ?_; try simp only [fresh_set] at hn)
          | (refine ifK_intro (fun h => ?_) (fun h => ?_) <;> (try simp only [decide_eq_true_eq, decide_eq_false_iff_not, Bool.not_eq_true', Bool.not_eq_false'] at h) <;> try (exfalso; (try simp only [beq_iff_eq, beq_eq_false_iff_ne, bne_iff_ne, bne_eq_false_iff_eq, ne_eq] at h); omega))
          | (refine keeps_sub (Mem.sub_set ?_) ?_; focus (simp [Mem.set_at, nomem, *]; done))
        try simp only [obj_snoc]
        have hql : (putTo (l.take (i + 1)) nm o b).1.length = L.length + 1 := by rw [hq]; simp
        have hqd : (putTo (l.take (i + 1)) nm o b).2 = _ := congrArg Prod.snd hq
        dsimp only at hqd
        refine again_intro (l.length - (i + 1)) (by omega) ((nomem.set n (.cells false 43 o.cells)).set n2 (.cells true 43 ((L ++ [y]).map Obj.cells).flatten)) ?_ ⟨i + 1, n2, by omega, rfl, ?_, by rw [hq], ?_, ?_, ?_, ?_, ?_, ?_, ?_⟩
        · ((repeat' first | exact Mem.sub.refl _ | exact nomem_sub _ | refine Mem.set_sub ?_ ?_ | refine Mem.sub_set_new ?_ ?_ | refine Mem.sub_del ?_ ?_) <;> simp [Mem.set_at, Mem.del_at, nomem, *])
        · simp [*]
        all_goals clear hq
        all_goals try (simp (disch := omega) only [nth_upd, pickB_true, pickB_false, inB_lt, upd_len, cast_succ, Int.cast_ofNat_Int, Nat.reduceBEq, beq_self_eq_true, reduceCtorEq, *]; done)
      | false =>
        cases hlt : lessT y.name nm with
        | true =>
          have hq : putTo (l.take (i + 1)) nm o b = _ := hnx.trans ((putS_by o (fun c => by rw [hlt] at c; cases c.2)).trans (if_neg hn'))
          clear hnx hq0 hn'
          repeat' first
            | simp -dsimp (disch := omega) only [↓rulesA, rulesB, rulesC, Int.reduceLT, nth, upd, put, storeN, AV.one, Nat.reduceBEq, Nat.reduceBNe, Int.reduceBEq, Int.reduceBNe, Int.reduceLE, Int.reduceEq, Int.reduceMod, Int.reduceNeg, boolBin, strBin, intBin, unA, fillA, ne_eq, reduceCtorEq, Nat.reduceAdd, Nat.reduceSub, Nat.reduceLeDiff, Nat.reduceLT, Nat.reduceEqDiff, Int.reduceToNat, eq_self, rulesT, bne_self_eq_false, mm_min, mm_max, buOf_some, nilCheck_vp, nilCheck_ptr, nilCheck_yld, nilCheck_func, ix_24, Obj.all, Obj.len, Obj.take, Obj.sall, Obj.g0, text_tl, lessT_def, *]
            | (refine allK_intro fun n hn => ?_; try simp only [fresh_set] at hn)
            | (refine ifK_intro (fun h => ?_) (fun h => ?_) <;> (try simp only [decide_eq_true_eq, decide_eq_false_iff_not, Bool.not_eq_true', Bool.not_eq_false'] at h) <;> try (exfalso; (try simp only [beq_iff_eq, beq_eq_false_iff_ne, bne_iff_ne, bne_eq_false_iff_eq, ne_eq] at h); omega))
            | (refine keeps_sub (Mem.sub_set ?_) ?_; focus (simp [Mem.set_at, nomem, *]; done))
          refine lit_vs (lit1_24 _) rfl ?_
          repeat' first
            | simp -dsimp (disch := omega) only [↓rulesA, rulesB, rulesC, Int.reduceLT, nth, upd, put, storeN, AV.one, Nat.reduceBEq, Nat.reduceBNe, Int.reduceBEq, Int.reduceBNe, Int.reduceLE, Int.reduceEq, Int.reduceMod, Int.reduceNeg, boolBin, strBin, intBin, unA, fillA, ne_eq, reduceCtorEq, Nat.reduceAdd, Nat.reduceSub, Nat.reduceLeDiff, Nat.reduceLT, Nat.reduceEqDiff, Int.reduceToNat, eq_self, rulesT, bne_self_eq_false, mm_min, mm_max, buOf_some, nilCheck_vp, nilCheck_ptr, nilCheck_yld, nilCheck_func, ix_24, Obj.all, Obj.len, Obj.take, Obj.sall, Obj.g0, text_tl, lessT_def, *]
            | (refine allK_intro fun n hn => ?_; try simp only [fresh_set] at hn)
            | (refine ifK_intro (fun h => ?_) (fun h => ?_) <;> (try simp only [decide_eq_true_eq, decide_eq_false_iff_not, Bool.not_eq_true', Bool.not_eq_false'] at h) <;> try (exfalso; (try simp only [beq_iff_eq, beq_eq_false_iff_ne, bne_iff_ne, bne_eq_false_iff_eq, ne_eq] at h); omega))
            | (refine keeps_sub (Mem.sub_set ?_) ?_; focus (simp [Mem.set_at, nomem, *]; done))
          refine append_open app_24 (src_24 _ [y] _) (Mem.set_same _ _ _) cs_43 (by rw [Obj.rlen]; simp) (by simp; omega) fun n2 hn2 => ?_
          simp only [fresh_set] at hn2
          repeat' first
            | simp -dsimp (disch := omega) only [↓rulesA, rulesB, rulesC, Int.reduceLT, nth, upd, put, storeN, AV.one, Nat.reduceBEq, Nat.reduceBNe, Int.reduceBEq, Int.reduceBNe, Int.reduceLE, Int.reduceEq, Int.reduceMod, Int.reduceNeg, boolBin, strBin, intBin, unA, fillA, ne_eq, reduceCtorEq, Nat.reduceAdd, Nat.reduceSub, Nat.reduceLeDiff, Nat.reduceLT, Nat.reduceEqDiff, Int.reduceToNat, eq_self, rulesT, bne_self_eq_false, mm_min, mm_max, buOf_some, nilCheck_vp, nilCheck_ptr, nilCheck_yld, nilCheck_func, ix_24, Obj.all, Obj.len, Obj.take, Obj.sall, Obj.g0, text_tl, lessT_def, *]
            | (refine allK_intro fun n hn => ?_; try simp only [fresh_set] at hn)
            | (refine ifK_intro (fun h => ?_) (fun h => ?_) <;> (try simp only [decide_eq_true_eq, decide_eq_false_iff_not, Bool.not_eq_true', Bool.not_eq_false'] at h) <;> try (exfalso; (try simp only [beq_iff_eq, beq_eq_false_iff_ne, bne_iff_ne, bne_eq_false_iff_eq, ne_eq] at h); omega))
            | (refine keeps_sub (Mem.sub_set ?_) ?_; focus (simp [Mem.set_at, nomem, *]; done))
          try simp only [obj_snoc]
          have hql : (putTo (l.take (i + 1)) nm o b).1.length = L.length + 1 := by rw [hq]; simp
          have hqd : (putTo (l.take (i + 1)) nm o b).2 = _ := congrArg Prod.snd hq
          dsimp only at hqd
          refine again_intro (l.length - (i + 1)) (by omega) ((nomem.set n (.cells false 43 o.cells)).set n2 (.cells true 43 ((L ++ [y]).map Obj.cells).flatten)) ?_ ⟨i + 1, n2, by omega, rfl, ?_, by rw [hq], ?_, ?_, ?_, ?_, ?_, ?_, ?_⟩
          · ((repeat' first | exact Mem.sub.refl _ | exact nomem_sub _ | refine Mem.set_sub ?_ ?_ | refine Mem.sub_set_new ?_ ?_ | refine Mem.sub_del ?_ ?_) <;> simp [Mem.set_at, Mem.del_at, nomem, *])
          · simp [*]
          all_goals clear hq
          all_goals try (simp (disch := omega) only [nth_upd, pickB_true, pickB_false, inB_lt, upd_len, cast_succ, Int.cast_ofNat_Int, Nat.reduceBEq, beq_self_eq_true, reduceCtorEq, *]; done)
        | false =>
          have hq : putTo (l.take (i + 1)) nm o b = _ := hnx.trans ((putS_in o rfl hlt).trans (if_neg hn'))
          clear hnx hq0 hn'
          repeat' first
            | simp -dsimp (disch := omega) only [↓rulesA, rulesB, rulesC, Int.reduceLT, nth, upd, put, storeN, AV.one, Nat.reduceBEq, Nat.reduceBNe, Int.reduceBEq, Int.reduceBNe, Int.reduceLE, Int.reduceEq, Int.reduceMod, Int.reduceNeg, boolBin, strBin, intBin, unA, fillA, ne_eq, reduceCtorEq, Nat.reduceAdd, Nat.reduceSub, Nat.reduceLeDiff, Nat.reduceLT, Nat.reduceEqDiff, Int.reduceToNat, eq_self, rulesT, bne_self_eq_false, mm_min, mm_max, buOf_some, nilCheck_vp, nilCheck_ptr, nilCheck_yld, nilCheck_func, ix_24, Obj.all, Obj.len, Obj.take, Obj.sall, Obj.g0, text_tl, lessT_def, *]
            | (refine allK_intro fun n hn => ?_; try simp only [fresh_set] at hn)
            | (refine ifK_intro (fun h => ?_) (fun h => ?_) <;> (try simp only [decide_eq_true_eq, decide_eq_false_iff_not, Bool.not_eq_true', Bool.not_eq_false'] at h) <;> try (exfalso; (try simp only [beq_iff_eq, beq_eq_false_iff_ne, bne_iff_ne, bne_eq_false_iff_eq, ne_eq] at h); omega))
            | (refine keeps_sub (Mem.sub_set ?_) ?_; focus (simp [Mem.set_at, nomem, *]; done))
          refine lit_vs (lit1_24 _) rfl ?_
          repeat' first
            | simp -dsimp (disch := omega) only [↓rulesA, rulesB, rulesC, Int.reduceLT, nth, upd, put, storeN, AV.one, Nat.reduceBEq, Nat.reduceBNe, Int.reduceBEq, Int.reduceBNe, Int.reduceLE, Int.reduceEq, Int.reduceMod, Int.reduceNeg, boolBin, strBin, intBin, unA, fillA, ne_eq, reduceCtorEq, Nat.reduceAdd, Nat.reduceSub, Nat.reduceLeDiff, Nat.reduceLT, Nat.reduceEqDiff, Int.reduceToNat, eq_self, rulesT, bne_self_eq_false, mm_min, mm_max, buOf_some, nilCheck_vp, nilCheck_ptr, nilCheck_yld, nilCheck_func, ix_24, Obj.all, Obj.len, Obj.take, Obj.sall, Obj.g0, text_tl, lessT_def, *]
            | (refine allK_intro fun n hn => ?_; try simp only [fresh_set] at hn)
            | (refine ifK_intro (fun h => ?_) (fun h => ?_) <;> (try simp only [decide_eq_true_eq, decide_eq_false_iff_not, Bool.not_eq_true', Bool.not_eq_false'] at h) <;> try (exfalso; (try simp only [beq_iff_eq, beq_eq_false_iff_ne, bne_iff_ne, bne_eq_false_iff_eq, ne_eq] at h); omega))
            | (refine keeps_sub (Mem.sub_set ?_) ?_; focus (simp [Mem.set_at, nomem, *]; done))
          refine append_open app_24 (src_24 _ [o] _) (Mem.set_same _ _ _) cs_43 (by rw [Obj.rlen]; simp) (by simp; omega) fun n1 hn1 => ?_
          simp only [fresh_set] at hn1
          repeat' first
            | simp -dsimp (disch := omega) only [↓rulesA, rulesB, rulesC, Int.reduceLT, nth, upd, put, storeN, AV.one, Nat.reduceBEq, Nat.reduceBNe, Int.reduceBEq, Int.reduceBNe, Int.reduceLE, Int.reduceEq, Int.reduceMod, Int.reduceNeg, boolBin, strBin, intBin, unA, fillA, ne_eq, reduceCtorEq, Nat.reduceAdd, Nat.reduceSub, Nat.reduceLeDiff, Nat.reduceLT, Nat.reduceEqDiff, Int.reduceToNat, eq_self, rulesT, bne_self_eq_false, mm_min, mm_max, buOf_some, nilCheck_vp, nilCheck_ptr, nilCheck_yld, nilCheck_func, ix_24, Obj.all, Obj.len, Obj.take, Obj.sall, Obj.g0, text_tl, lessT_def, *]
            | (refine allK_intro fun n hn => ?_; try simp only [fresh_set] at hn)
            | (refine ifK_intro (fun h => ?_) (fun h => ?_) <;> (try simp only [decide_eq_true_eq, decide_eq_false_iff_not, Bool.not_eq_true', Bool.not_eq_false'] at h) <;> try (exfalso; (try simp only [beq_iff_eq, beq_eq_false_iff_ne, bne_iff_ne, bne_eq_false_iff_eq, ne_eq] at h); omega))
            | (refine keeps_sub (Mem.sub_set ?_) ?_; focus (simp [Mem.set_at, nomem, *]; done))
          try simp only [obj_snoc]
          refine lit_vs (lit1_24 _) rfl ?_
          repeat' first
            | simp -dsimp (disch := omega) only [↓rulesA, rulesB, rulesC, Int.reduceLT, nth, upd, put, storeN, AV.one, Nat.reduceBEq, Nat.reduceBNe, Int.reduceBEq, Int.reduceBNe, Int.reduceLE, Int.reduceEq, Int.reduceMod, Int.reduceNeg, boolBin, strBin, intBin, unA, fillA, ne_eq, reduceCtorEq, Nat.reduceAdd, Nat.reduceSub, Nat.reduceLeDiff, Nat.reduceLT, Nat.reduceEqDiff, Int.reduceToNat, eq_self, rulesT, bne_self_eq_false, mm_min, mm_max, buOf_some, nilCheck_vp, nilCheck_ptr, nilCheck_yld, nilCheck_func, ix_24, Obj.all, Obj.len, Obj.take, Obj.sall, Obj.g0, text_tl, lessT_def, *]
            | (refine allK_intro fun n hn => ?_; try simp only [fresh_set] at hn)
            | (refine ifK_intro (fun h => ?_) (fun h => ?_) <;> (try simp only [decide_eq_true_eq, decide_eq_false_iff_not, Bool.not_eq_true', Bool.not_eq_false'] at h) <;> try (exfalso; (try simp only [beq_iff_eq, beq_eq_false_iff_ne, bne_iff_ne, bne_eq_false_iff_eq, ne_eq] at h); omega))
            | (refine keeps_sub (Mem.sub_set ?_) ?_; focus (simp [Mem.set_at, nomem, *]; done))
          refine append_open app_24 (src_24 _ [y] _) (Mem.set_same _ _ _) cs_43 (by rw [Obj.rlen]; simp) (by simp; omega) fun n2 hn2 => ?_
          simp only [fresh_set] at hn2
          repeat' first
            | simp -dsimp (disch := omega) only [↓rulesA, rulesB, rulesC, Int.reduceLT, nth, upd, put, storeN, AV.one, Nat.reduceBEq, Nat.reduceBNe, Int.reduceBEq, Int.reduceBNe, Int.reduceLE, Int.reduceEq, Int.reduceMod, Int.reduceNeg, boolBin, strBin, intBin, unA, fillA, ne_eq, reduceCtorEq, Nat.reduceAdd, Nat.reduceSub, Nat.reduceLeDiff, Nat.reduceLT, Nat.reduceEqDiff, Int.reduceToNat, eq_self, rulesT, bne_self_eq_false, mm_min, mm_max, buOf_some, nilCheck_vp, nilCheck_ptr, nilCheck_yld, nilCheck_func, ix_24, Obj.all, Obj.len, Obj.take, Obj.sall, Obj.g0, text_tl, lessT_def, *]
            | (refine allK_intro fun n hn => ?_; try simp only [fresh_set] at hn)
            | (refine ifK_intro (fun h => ?_) (fun h => ?_) <;> (try simp only [decide_eq_true_eq, decide_eq_false_iff_not, Bool.not_eq_true', Bool.not_eq_false'] at h) <;> try (exfalso; (try simp only [beq_iff_eq, beq_eq_false_iff_ne, bne_iff_ne, bne_eq_false_iff_eq, ne_eq] at h); omega))
            | (refine keeps_sub (Mem.sub_set ?_) ?_; focus (simp [Mem.set_at, nomem, *]; done))
          try simp only [obj_snoc]
          have hql : (putTo (l.take (i + 1)) nm o b).1.length = L.length + 1 + 1 := by rw [hq]; simp
          have hqd : (putTo (l.take (i + 1)) nm o b).2 = _ := congrArg Prod.snd hq
          dsimp only at hqd
          refine again_intro (l.length - (i + 1)) (by omega) ((nomem.set n (.cells false 43 o.cells)).set n2 (.cells true 43 ((L ++ [o] ++ [y]).map Obj.cells).flatten)) ?_ ⟨i + 1, n2, by omega, rfl, ?_, by rw [hq], ?_, ?_, ?_, ?_, ?_, ?_, ?_⟩
          · ((repeat' first | exact Mem.sub.refl _ | exact nomem_sub _ | refine Mem.set_sub ?_ ?_ | refine Mem.sub_set_new ?_ ?_ | refine Mem.sub_del ?_ ?_) <;> simp [Mem.set_at, Mem.del_at, nomem, *])
          · simp [*]
          all_goals clear hq
          all_goals try (simp (disch := omega) only [nth_upd, pickB_true, pickB_false, inB_lt, upd_len, cast_succ, Int.cast_ofNat_Int, Nat.reduceBEq, beq_self_eq_true, reduceCtorEq, *]; done)
  · have hil' : i = l.length := by omega
    subst hil'
    rw [List.take_length] at e9 e10 hpl
    simp only [List.take_length]
    unfold putL
    clear hn
    generalize putTo l nm o b = q at *
    obtain ⟨L, dn⟩ := q
    dsimp only at *
    cases dn with
    | true =>
      repeat' first
        | simp -dsimp (disch := omega) only [↓rulesA, rulesB, rulesC, Int.reduceLT, nth, upd, put, storeN, AV.one, Nat.reduceBEq, Nat.reduceBNe, Int.reduceBEq, Int.reduceBNe, Int.reduceLE, Int.reduceEq, Int.reduceMod, Int.reduceNeg, boolBin, strBin, intBin, unA, fillA, ne_eq, reduceCtorEq, Nat.reduceAdd, Nat.reduceSub, Nat.reduceLeDiff, Nat.reduceLT, Nat.reduceEqDiff, Int.reduceToNat, eq_self, rulesT, bne_self_eq_false, mm_min, mm_max, buOf_some, nilCheck_vp, nilCheck_ptr, nilCheck_yld, nilCheck_func, ix_24, Obj.all, Obj.len, Obj.take, Obj.sall, Obj.g0, text_tl, lessT_def, *]
        | (refine allK_intro fun n hn => ?_; try simp only [fresh_set] at hn)
        | (refine ifK_intro (fun h => ?_) (fun h => ?_) <;> (try simp only [decide_eq_true_eq, decide_eq_false_iff_not, Bool.not_eq_true', Bool.not_eq_false'] at h) <;> try (exfalso; (try simp only [beq_iff_eq, beq_eq_false_iff_ne, bne_iff_ne, bne_eq_false_iff_eq, ne_eq] at h); omega))
        | (refine keeps_sub (Mem.sub_set ?_) ?_; focus (simp [Mem.set_at, nomem, *]; done))
      exact ⟨N, rfl, if_pos rfl⟩
    | false =>
      repeat' first
        | simp -dsimp (disch := omega) only [↓rulesA, rulesB, rulesC, Int.reduceLT, nth, upd, put, storeN, AV.one, Nat.reduceBEq, Nat.reduceBNe, Int.reduceBEq, Int.reduceBNe, Int.reduceLE, Int.reduceEq, Int.reduceMod, Int.reduceNeg, boolBin, strBin, intBin, unA, fillA, ne_eq, reduceCtorEq, Nat.reduceAdd, Nat.reduceSub, Nat.reduceLeDiff, Nat.reduceLT, Nat.reduceEqDiff, Int.reduceToNat, eq_self, rulesT, bne_self_eq_false, mm_min, mm_max, buOf_some, nilCheck_vp, nilCheck_ptr, nilCheck_yld, nilCheck_func, ix_24, Obj.all, Obj.len, Obj.take, Obj.sall, Obj.g0, text_tl, lessT_def, *]
        | (refine allK_intro fun n hn => ?_; try simp only [fresh_set] at hn)
        | (refine ifK_intro (fun h => ?_) (fun h => ?_) <;> (try simp only [decide_eq_true_eq, decide_eq_false_iff_not, Bool.not_eq_true', Bool.not_eq_false'] at h) <;> try (exfalso; (try simp only [beq_iff_eq, beq_eq_false_iff_ne, bne_iff_ne, bne_eq_false_iff_eq, ne_eq] at h); omega))
        | (refine keeps_sub (Mem.sub_set ?_) ?_; focus (simp [Mem.set_at, nomem, *]; done))
      refine lit_vs (lit1_24 _) rfl ?_
      repeat' first
        | simp -dsimp (disch := omega) only [↓rulesA, rulesB, rulesC, Int.reduceLT, nth, upd, put, storeN, AV.one, Nat.reduceBEq, Nat.reduceBNe, Int.reduceBEq, Int.reduceBNe, Int.reduceLE, Int.reduceEq, Int.reduceMod, Int.reduceNeg, boolBin, strBin, intBin, unA, fillA, ne_eq, reduceCtorEq, Nat.reduceAdd, Nat.reduceSub, Nat.reduceLeDiff, Nat.reduceLT, Nat.reduceEqDiff, Int.reduceToNat, eq_self, rulesT, bne_self_eq_false, mm_min, mm_max, buOf_some, nilCheck_vp, nilCheck_ptr, nilCheck_yld, nilCheck_func, ix_24, Obj.all, Obj.len, Obj.take, Obj.sall, Obj.g0, text_tl, lessT_def, *]
        | (refine allK_intro fun n hn => ?_; try simp only [fresh_set] at hn)
        | (refine ifK_intro (fun h => ?_) (fun h => ?_) <;> (try simp only [decide_eq_true_eq, decide_eq_false_iff_not, Bool.not_eq_true', Bool.not_eq_false'] at h) <;> try (exfalso; (try simp only [beq_iff_eq, beq_eq_false_iff_ne, bne_iff_ne, bne_eq_false_iff_eq, ne_eq] at h); omega))
        | (refine keeps_sub (Mem.sub_set ?_) ?_; focus (simp [Mem.set_at, nomem, *]; done))
      refine append_open app_24 (src_24 _ [o] _) (Mem.set_same _ _ _) cs_43 (by rw [Obj.rlen]; simp) (by simp; omega) fun n1 hn1 => ?_
      simp only [fresh_set] at hn1
      repeat' first
        | simp -dsimp (disch := omega) only [↓rulesA, rulesB, rulesC, Int.reduceLT, nth, upd, put, storeN, AV.one, Nat.reduceBEq, Nat.reduceBNe, Int.reduceBEq, Int.reduceBNe, Int.reduceLE, Int.reduceEq, Int.reduceMod, Int.reduceNeg, boolBin, strBin, intBin, unA, fillA, ne_eq, reduceCtorEq, Nat.reduceAdd, Nat.reduceSub, Nat.reduceLeDiff, Nat.reduceLT, Nat.reduceEqDiff, Int.reduceToNat, eq_self, rulesT, bne_self_eq_false, mm_min, mm_max, buOf_some, nilCheck_vp, nilCheck_ptr, nilCheck_yld, nilCheck_func, ix_24, Obj.all, Obj.len, Obj.take, Obj.sall, Obj.g0, text_tl, lessT_def, *]
        | (refine allK_intro fun n hn => ?_; try simp only [fresh_set] at hn)
        | (refine ifK_intro (fun h => ?_) (fun h => ?_) <;> (try simp only [decide_eq_true_eq, decide_eq_false_iff_not, Bool.not_eq_true', Bool.not_eq_false'] at h) <;> try (exfalso; (try simp only [beq_iff_eq, beq_eq_false_iff_ne, bne_iff_ne, bne_eq_false_iff_eq, ne_eq] at h); omega))
        | (refine keeps_sub (Mem.sub_set ?_) ?_; focus (simp [Mem.set_at, nomem, *]; done))
      try simp only [obj_snoc]
      have hln : (L ++ [o]).length = L.length + 1 := by simp
      refine ⟨n1, ?_, ?_⟩
      · rw [hln]
      · rw [← obj_snoc]; exact if_pos rfl
end Go.Proofs.Ytanfgfclpjmngaa

set_option maxRecDepth 100000
set_option maxHeartbeats 1000000
set_option linter.unusedSimpArgs false
set_option linter.unusedVariables false
namespace Go.Proofs.Ytanfgfclpjmngaa
open Go.Abs
attribute [local irreducible] C X CC Y CV CW binK litK AppK PureC PureCV againK loopV rangeV allK ifK got onB condK V stepsK planK opK firstK seeE keepsK
theorem room0 (a : Nat) (h : a ≤ 9223372036854775807) : ((a : Int) ≤ 9223372036854775807) = True := eq_true (by omega)
theorem no0 : [AV.val (.string ⟨#[]⟩), .val (.string ⟨#[]⟩), .val (.bool false), .val (.int .i64 0), .val (.int .i64 0)] = noObj.cells := rfl
theorem sl0 (m : Mem) : sliceA Try.prog m 9 (.val (.string ⟨#[]⟩)) none (some (.val (.int .i64 0))) none = some (.val (.string ⟨#[]⟩)) := thi m [] 0 (Nat.le_refl _)
theorem nm0 (n : List UInt8) : setRange noObj.cells 0 [.val (.string (.mk (List.toArray n)))] = Obj.cells ⟨n, [], false, 0, 0⟩ := rfl
theorem Oset3 (o : Obj) (c i : Int) : setRange o.cells 3 [.val (.int .i64 c), .val (.int .i64 i)] = Obj.cells { o with client := c, inst := i } := rfl
theorem Oset3b (o : Obj) (b : Ban) : setRange o.cells 3 b.cells = Obj.cells { o with client := b.client, inst := b.inst } := rfl
def res25 (s : Sheet) (r : Res) : AV := .tup [.agg (outO s).cells, .val (.bool s.there), .agg r.cells]
theorem toldT (o : Obj) (e num : Int) : F Try.prog 49 [.agg o.cells, .val (.bool true), .val (.int .i64 e), .val (.int .i64 num)] (.tup [.agg o.cells, .val (.bool true), .agg (Res.cells ⟨e, num, 0, []⟩)]) := F49 o true e num
theorem toldN (o : Obj) (e num : Int) : F Try.prog 49 [.agg o.cells, .val (.bool false), .val (.int .i64 e), .val (.int .i64 num)] (.tup [.agg noObj.cells, .val (.bool false), .agg (Res.cells ⟨e, num, 0, []⟩)]) := F49 o false e num
theorem g51 (o : Obj) : F Try.prog 51 [.agg o.cells] (.val (.int .i64 o.data.length)) := F51 o
theorem F25_k1t (o : Obj) (who : Ban) (op : Opr) (hop : op.ok) (hd : o.data.length ≤ 64) (hdo : doOk who op = true) (hk : op.kind = 1) : F Try.prog 25 [.agg o.cells, .val (.bool true), .agg who.cells, .agg op.cells] (res25 (doS o true who op) (doR o true who op)) := by
  have hd2 : opOk op = true ∧ whoB who = true := by unfold doOk at hdo; simpa using hdo
  have f11 := F11 op hop
  have f19 := F19 who
  rw [hd2.1] at f11
  rw [hd2.2] at f19
  have eS : doS o true who op = actS ⟨o, true, who, op⟩ := if_pos hdo
  have eR : doR o true who op = actR ⟨o, true, who, op⟩ := if_pos hdo
  have aS : actS ⟨o, true, who, op⟩ = writeS ⟨o, true, who, op⟩ := by simp [actS, hk]
  have aR : actR ⟨o, true, who, op⟩ = writeR ⟨o, true, who, op⟩ := by simp [actR, hk]
  rw [eS, eR, aS, aR]
  clear eS eR aS aR hdo
  obtain ⟨⟨u1, u2⟩, ⟨u3, u4⟩, u5⟩ := op_small hd2.1 (by omega)
  obtain ⟨k, hkk⟩ : ∃ k : Nat, op.off = k := ⟨op.off.toNat, by omega⟩
  have hw : wEnd ⟨o, true, who, op⟩ = k + op.data.length := by show op.off.toNat + op.data.length = _; omega
  have tl := toldT o 28 0
  by_cases hend : 64 < wEnd ⟨o, true, who, op⟩
  · have e1 : writeR ⟨o, true, who, op⟩ = errR 28 := if_pos hend
    have e2 : writeS ⟨o, true, who, op⟩ = ⟨o, true, who, op⟩ := if_pos hend
    rw [e1, e2]
    rw [hw] at hend
    clear e1 e2 hw
    refine F25_of ?_
    unfold k25
    repeat' first
      | simp -dsimp (disch := omega) only [↓rulesA, rulesB, rulesC, Int.reduceLT, nth, upd, put, storeN, AV.one, Nat.reduceBEq, Nat.reduceBNe, Int.reduceBEq, Int.reduceBNe, Int.reduceLE, Int.reduceEq, Int.reduceMod, Int.reduceNeg, boolBin, strBin, intBin, unA, fillA, ne_eq, reduceCtorEq, Nat.reduceAdd, Nat.reduceSub, Nat.reduceLeDiff, Nat.reduceLT, Nat.reduceEqDiff, Int.reduceToNat, eq_self, rulesT, bne_self_eq_false, mm_min, mm_max, buOf_some, nilCheck_vp, nilCheck_ptr, nilCheck_yld, nilCheck_func, Obj.g0, Obj.g1, Obj.g2, Obj.g3, Obj.g4, nm0, Obj.s1, Obj.s2, Obj.all, Obj.len, Obj.take, Obj.drop, Obj.sall, Ban.g0, Ban.g1, Ban.all, Ban.len, Ban.take, Ban.drop, Ban.sall, Opr.g0, Opr.g1, Opr.g2, Opr.g3, Opr.g4, Opr.all, Opr.len, Opr.take, Opr.drop, Opr.sall, Res.all, Res.len, Res.take, Res.sall, obj_hold, neb, nebb, no0, Oset3, Oset3b, text_size, text_cat, room0, room1, room2, sl0, thi, tlo, tlo2, tlohi, mm_min, hk, resL_three, three_some, hkk, *]
      | (refine allK_intro fun n hn => ?_; try simp only [fresh_set] at hn)
      | (refine ifK_intro (fun h => ?_) (fun h => ?_) <;> (try simp only [decide_eq_true_eq, decide_eq_false_iff_not, Bool.not_eq_true', Bool.not_eq_false'] at h) <;> try (exfalso; (try simp only [beq_iff_eq, beq_eq_false_iff_ne, bne_iff_ne, bne_eq_false_iff_eq, ne_eq] at h); omega))
      | (refine keeps_sub (Mem.sub_set ?_) ?_; focus (simp [Mem.set_at, nomem, *]; done))
      | (refine keeps_stab ?_ ?_; focus ((repeat' first | exact stabK_nil _ _ | refine stabK_cons ?_ ?_ | (simp (disch := omega) only [quietA, Option.isSome_some, ↓rulesA, rulesB, rulesC, Int.reduceLT, nth, upd, put, storeN, AV.one, Nat.reduceBEq, Nat.reduceBNe, Int.reduceBEq, Int.reduceBNe, Int.reduceLE, Int.reduceEq, Int.reduceMod, Int.reduceNeg, boolBin, strBin, intBin, unA, fillA, ne_eq, reduceCtorEq, Nat.reduceAdd, Nat.reduceSub, Nat.reduceLeDiff, Nat.reduceLT, Nat.reduceEqDiff, Int.reduceToNat, eq_self, rulesT, bne_self_eq_false, mm_min, mm_max, buOf_some, nilCheck_vp, nilCheck_ptr, nilCheck_yld, nilCheck_func, Obj.g0, Obj.g1, Obj.g2, Obj.g3, Obj.g4, nm0, Obj.s1, Obj.s2, Obj.all, Obj.len, Obj.take, Obj.drop, Obj.sall, Ban.g0, Ban.g1, Ban.all, Ban.len, Ban.take, Ban.drop, Ban.sall, Opr.g0, Opr.g1, Opr.g2, Opr.g3, Opr.g4, Opr.all, Opr.len, Opr.take, Opr.drop, Opr.sall, Res.all, Res.len, Res.take, Res.sall, obj_hold, neb, nebb, no0, Oset3, Oset3b, text_size, text_cat, room0, room1, room2, sl0, thi, tlo, tlo2, tlohi, mm_min, hk, resL_three, three_some, hkk, *]; done)); done))
      | (refine call_F (f11) (Seens.refl _ _) ?_)
      | (refine pure_F (f11) (Seens.refl _ _) ?_)
      | (refine call_F (f19) (Seens.refl _ _) ?_)
      | (refine pure_F (f19) (Seens.refl _ _) ?_)
      | (refine call_F (tl) (Seens.refl _ _) ?_)
      | (refine pure_F (tl) (Seens.refl _ _) ?_)
    exact New.eq rfl rfl
  · have e1 : writeR ⟨o, true, who, op⟩ = sizeR (writeS ⟨o, true, who, op⟩) := if_neg hend
    have e2 : writeS ⟨o, true, who, op⟩ = { mk0 ⟨o, true, who, op⟩ with o := { (mk0 ⟨o, true, who, op⟩).o with data := writeData (mk0 ⟨o, true, who, op⟩) } } := if_neg hend
    rw [e1, e2]
    rw [hw] at hend
    clear e1 e2 hw
    have hq : mk0 ⟨o, true, who, op⟩ = ⟨o, true, who, op⟩ := rfl
    rw [hq]
    clear hq
    have hwd : Kept (writeData ⟨o, true, who, op⟩ = ((o.data ++ zs ((k : Int) - o.data.length)).take k ++ op.data ++ (o.data ++ zs ((k : Int) - o.data.length)).drop (k + op.data.length))) := by
      show _ = _
      unfold writeData oldS wEnd
      show (o.data ++ zs (op.off - o.data.length)).take op.off.toNat ++ op.data ++ (o.data ++ zs (op.off - o.data.length)).drop (op.off.toNat + op.data.length) = _
      rw [hkk]; rfl
    by_cases hlt : o.data.length < k
    · have f50 : F Try.prog 50 [.val (.int .i64 ((k : Int) - (o.data.length : Nat)))] (.val (.string ⟨(zs ((k : Int) - (o.data.length : Nat))).toArray⟩)) := by
        have := F50 (k - o.data.length) (by omega)
        have e : ((k - o.data.length : Nat) : Int) = (k : Int) - (o.data.length : Nat) := by omega
        rw [e] at this
        exact this
      have z1 := zs_len ((k : Int) - (o.data.length : Nat))
      generalize zs ((k : Int) - (o.data.length : Nat)) = Z at *
      clear tl
      have z2 : k ≤ (o.data ++ Z).length := by rw [List.length_append]; omega
      have z3 : (o.data ++ Z).length ≤ 128 := by rw [List.length_append]; omega
      have z5 : ((o.data ++ Z).take k).length ≤ 64 := by rw [List.length_take]; omega
      have z6 : ((o.data ++ Z).take k ++ op.data).length ≤ 128 := by rw [List.length_append]; omega
      have z7 : ((o.data ++ Z).drop (k + op.data.length)).length ≤ 128 := by rw [List.length_drop]; omega
      have z8 : Kept (¬ k + op.data.length < (o.data ++ Z).length → (o.data ++ Z).drop (k + op.data.length) = []) := fun h => List.drop_of_length_le (by omega)
      refine F25_of ?_
      unfold k25
      repeat' first
        | simp -dsimp (disch := omega) only [↓rulesA, rulesB, rulesC, Int.reduceLT, nth, upd, put, storeN, AV.one, Nat.reduceBEq, Nat.reduceBNe, Int.reduceBEq, Int.reduceBNe, Int.reduceLE, Int.reduceEq, Int.reduceMod, Int.reduceNeg, boolBin, strBin, intBin, unA, fillA, ne_eq, reduceCtorEq, Nat.reduceAdd, Nat.reduceSub, Nat.reduceLeDiff, Nat.reduceLT, Nat.reduceEqDiff, Int.reduceToNat, eq_self, rulesT, bne_self_eq_false, mm_min, mm_max, buOf_some, nilCheck_vp, nilCheck_ptr, nilCheck_yld, nilCheck_func, Obj.g0, Obj.g1, Obj.g2, Obj.g3, Obj.g4, nm0, Obj.s1, Obj.s2, Obj.all, Obj.len, Obj.take, Obj.drop, Obj.sall, Ban.g0, Ban.g1, Ban.all, Ban.len, Ban.take, Ban.drop, Ban.sall, Opr.g0, Opr.g1, Opr.g2, Opr.g3, Opr.g4, Opr.all, Opr.len, Opr.take, Opr.drop, Opr.sall, Res.all, Res.len, Res.take, Res.sall, obj_hold, neb, nebb, no0, Oset3, Oset3b, text_size, text_cat, room0, room1, room2, sl0, thi, tlo, tlo2, tlohi, mm_min, hk, resL_three, three_some, hkk, *]
        | (refine allK_intro fun n hn => ?_; try simp only [fresh_set] at hn)
        | (refine ifK_intro (fun h => ?_) (fun h => ?_) <;> (try simp only [decide_eq_true_eq, decide_eq_false_iff_not, Bool.not_eq_true', Bool.not_eq_false'] at h) <;> try (exfalso; (try simp only [beq_iff_eq, beq_eq_false_iff_ne, bne_iff_ne, bne_eq_false_iff_eq, ne_eq] at h); omega))
        | (refine keeps_sub (Mem.sub_set ?_) ?_; focus (simp [Mem.set_at, nomem, *]; done))
        | (refine keeps_stab ?_ ?_; focus ((repeat' first | exact stabK_nil _ _ | refine stabK_cons ?_ ?_ | (simp (disch := omega) only [quietA, Option.isSome_some, ↓rulesA, rulesB, rulesC, Int.reduceLT, nth, upd, put, storeN, AV.one, Nat.reduceBEq, Nat.reduceBNe, Int.reduceBEq, Int.reduceBNe, Int.reduceLE, Int.reduceEq, Int.reduceMod, Int.reduceNeg, boolBin, strBin, intBin, unA, fillA, ne_eq, reduceCtorEq, Nat.reduceAdd, Nat.reduceSub, Nat.reduceLeDiff, Nat.reduceLT, Nat.reduceEqDiff, Int.reduceToNat, eq_self, rulesT, bne_self_eq_false, mm_min, mm_max, buOf_some, nilCheck_vp, nilCheck_ptr, nilCheck_yld, nilCheck_func, Obj.g0, Obj.g1, Obj.g2, Obj.g3, Obj.g4, nm0, Obj.s1, Obj.s2, Obj.all, Obj.len, Obj.take, Obj.drop, Obj.sall, Ban.g0, Ban.g1, Ban.all, Ban.len, Ban.take, Ban.drop, Ban.sall, Opr.g0, Opr.g1, Opr.g2, Opr.g3, Opr.g4, Opr.all, Opr.len, Opr.take, Opr.drop, Opr.sall, Res.all, Res.len, Res.take, Res.sall, obj_hold, neb, nebb, no0, Oset3, Oset3b, text_size, text_cat, room0, room1, room2, sl0, thi, tlo, tlo2, tlohi, mm_min, hk, resL_three, three_some, hkk, *]; done)); done))
        | (refine call_F (f11) (Seens.refl _ _) ?_)
        | (refine pure_F (f11) (Seens.refl _ _) ?_)
        | (refine call_F (f19) (Seens.refl _ _) ?_)
        | (refine pure_F (f19) (Seens.refl _ _) ?_)
        | (refine call_F (f50) (Seens.refl _ _) ?_)
        | (refine pure_F (f50) (Seens.refl _ _) ?_)
        | (refine call_F (g51 _) (Seens.refl _ _) ?_)
        | (refine pure_F (g51 _) (Seens.refl _ _) ?_)
      all_goals first
        | (have hl := (z8 : _ → _) (by omega)
           rw [hl, List.append_nil] at hwd
           rw [show writeData ⟨o, true, who, op⟩ = _ from hwd]
           exact New.eq rfl rfl)
        | (rw [show writeData ⟨o, true, who, op⟩ = _ from hwd]
           exact New.eq rfl rfl)
    · have hZ : zs ((k : Int) - o.data.length) = [] := by unfold zs; rw [show ((k : Int) - o.data.length).toNat = 0 by omega]; rfl
      rw [hZ, List.append_nil] at hwd
      clear tl
      have z2 : k ≤ (o.data).length := by omega
      have z3 : (o.data).length ≤ 128 := by omega
      have z5 : ((o.data).take k).length ≤ 64 := by rw [List.length_take]; omega
      have z6 : ((o.data).take k ++ op.data).length ≤ 128 := by rw [List.length_append]; omega
      have z7 : ((o.data).drop (k + op.data.length)).length ≤ 128 := by rw [List.length_drop]; omega
      have z8 : Kept (¬ k + op.data.length < (o.data).length → (o.data).drop (k + op.data.length) = []) := fun h => List.drop_of_length_le (by omega)
      refine F25_of ?_
      unfold k25
      repeat' first
        | simp -dsimp (disch := omega) only [↓rulesA, rulesB, rulesC, Int.reduceLT, nth, upd, put, storeN, AV.one, Nat.reduceBEq, Nat.reduceBNe, Int.reduceBEq, Int.reduceBNe, Int.reduceLE, Int.reduceEq, Int.reduceMod, Int.reduceNeg, boolBin, strBin, intBin, unA, fillA, ne_eq, reduceCtorEq, Nat.reduceAdd, Nat.reduceSub, Nat.reduceLeDiff, Nat.reduceLT, Nat.reduceEqDiff, Int.reduceToNat, eq_self, rulesT, bne_self_eq_false, mm_min, mm_max, buOf_some, nilCheck_vp, nilCheck_ptr, nilCheck_yld, nilCheck_func, Obj.g0, Obj.g1, Obj.g2, Obj.g3, Obj.g4, nm0, Obj.s1, Obj.s2, Obj.all, Obj.len, Obj.take, Obj.drop, Obj.sall, Ban.g0, Ban.g1, Ban.all, Ban.len, Ban.take, Ban.drop, Ban.sall, Opr.g0, Opr.g1, Opr.g2, Opr.g3, Opr.g4, Opr.all, Opr.len, Opr.take, Opr.drop, Opr.sall, Res.all, Res.len, Res.take, Res.sall, obj_hold, neb, nebb, no0, Oset3, Oset3b, text_size, text_cat, room0, room1, room2, sl0, thi, tlo, tlo2, tlohi, mm_min, hk, resL_three, three_some, hkk, *]
        | (refine allK_intro fun n hn => ?_; try simp only [fresh_set] at hn)
        | (refine ifK_intro (fun h => ?_) (fun h => ?_) <;> (try simp only [decide_eq_true_eq, decide_eq_false_iff_not, Bool.not_eq_true', Bool.not_eq_false'] at h) <;> try (exfalso; (try simp only [beq_iff_eq, beq_eq_false_iff_ne, bne_iff_ne, bne_eq_false_iff_eq, ne_eq] at h); omega))
        | (refine keeps_sub (Mem.sub_set ?_) ?_; focus (simp [Mem.set_at, nomem, *]; done))
        | (refine keeps_stab ?_ ?_; focus ((repeat' first | exact stabK_nil _ _ | refine stabK_cons ?_ ?_ | (simp (disch := omega) only [quietA, Option.isSome_some, ↓rulesA, rulesB, rulesC, Int.reduceLT, nth, upd, put, storeN, AV.one, Nat.reduceBEq, Nat.reduceBNe, Int.reduceBEq, Int.reduceBNe, Int.reduceLE, Int.reduceEq, Int.reduceMod, Int.reduceNeg, boolBin, strBin, intBin, unA, fillA, ne_eq, reduceCtorEq, Nat.reduceAdd, Nat.reduceSub, Nat.reduceLeDiff, Nat.reduceLT, Nat.reduceEqDiff, Int.reduceToNat, eq_self, rulesT, bne_self_eq_false, mm_min, mm_max, buOf_some, nilCheck_vp, nilCheck_ptr, nilCheck_yld, nilCheck_func, Obj.g0, Obj.g1, Obj.g2, Obj.g3, Obj.g4, nm0, Obj.s1, Obj.s2, Obj.all, Obj.len, Obj.take, Obj.drop, Obj.sall, Ban.g0, Ban.g1, Ban.all, Ban.len, Ban.take, Ban.drop, Ban.sall, Opr.g0, Opr.g1, Opr.g2, Opr.g3, Opr.g4, Opr.all, Opr.len, Opr.take, Opr.drop, Opr.sall, Res.all, Res.len, Res.take, Res.sall, obj_hold, neb, nebb, no0, Oset3, Oset3b, text_size, text_cat, room0, room1, room2, sl0, thi, tlo, tlo2, tlohi, mm_min, hk, resL_three, three_some, hkk, *]; done)); done))
        | (refine call_F (f11) (Seens.refl _ _) ?_)
        | (refine pure_F (f11) (Seens.refl _ _) ?_)
        | (refine call_F (f19) (Seens.refl _ _) ?_)
        | (refine pure_F (f19) (Seens.refl _ _) ?_)
        | (refine call_F (g51 _) (Seens.refl _ _) ?_)
        | (refine pure_F (g51 _) (Seens.refl _ _) ?_)
      all_goals first
        | (have hl := (z8 : _ → _) (by omega)
           rw [hl, List.append_nil] at hwd
           rw [show writeData ⟨o, true, who, op⟩ = _ from hwd]
           exact New.eq rfl rfl)
        | (rw [show writeData ⟨o, true, who, op⟩ = _ from hwd]
           exact New.eq rfl rfl)
theorem F25_k1n (o : Obj) (who : Ban) (op : Opr) (hop : op.ok) (hdo : doOk who op = true) (hk : op.kind = 1) : F Try.prog 25 [.agg o.cells, .val (.bool false), .agg who.cells, .agg op.cells] (res25 (doS o false who op) (doR o false who op)) := by
  have hd2 : opOk op = true ∧ whoB who = true := by unfold doOk at hdo; simpa using hdo
  have f11 := F11 op hop
  have f19 := F19 who
  rw [hd2.1] at f11
  rw [hd2.2] at f19
  have eS : doS o false who op = actS ⟨noObj, false, who, op⟩ := if_pos hdo
  have eR : doR o false who op = actR ⟨noObj, false, who, op⟩ := if_pos hdo
  have aS : actS ⟨noObj, false, who, op⟩ = writeS ⟨noObj, false, who, op⟩ := by simp [actS, hk]
  have aR : actR ⟨noObj, false, who, op⟩ = writeR ⟨noObj, false, who, op⟩ := by simp [actR, hk]
  rw [eS, eR, aS, aR]
  clear eS eR aS aR hdo
  obtain ⟨⟨u1, u2⟩, ⟨u3, u4⟩, u5⟩ := op_small hd2.1 (by omega)
  obtain ⟨k, hkk⟩ : ∃ k : Nat, op.off = k := ⟨op.off.toNat, by omega⟩
  have hw : wEnd ⟨noObj, false, who, op⟩ = k + op.data.length := by show op.off.toNat + op.data.length = _; omega
  have tl := toldN (⟨op.name, [], false, 0, 0⟩ : Obj) 28 0
  by_cases hend : 64 < wEnd ⟨noObj, false, who, op⟩
  · have e1 : writeR ⟨noObj, false, who, op⟩ = errR 28 := if_pos hend
    have e2 : writeS ⟨noObj, false, who, op⟩ = ⟨noObj, false, who, op⟩ := if_pos hend
    rw [e1, e2]
    rw [hw] at hend
    clear e1 e2 hw
    refine F25_of ?_
    unfold k25
    repeat' first
      | simp -dsimp (disch := omega) only [↓rulesA, rulesB, rulesC, Int.reduceLT, nth, upd, put, storeN, AV.one, Nat.reduceBEq, Nat.reduceBNe, Int.reduceBEq, Int.reduceBNe, Int.reduceLE, Int.reduceEq, Int.reduceMod, Int.reduceNeg, boolBin, strBin, intBin, unA, fillA, ne_eq, reduceCtorEq, Nat.reduceAdd, Nat.reduceSub, Nat.reduceLeDiff, Nat.reduceLT, Nat.reduceEqDiff, Int.reduceToNat, eq_self, rulesT, bne_self_eq_false, mm_min, mm_max, buOf_some, nilCheck_vp, nilCheck_ptr, nilCheck_yld, nilCheck_func, Obj.g0, Obj.g1, Obj.g2, Obj.g3, Obj.g4, nm0, Obj.s1, Obj.s2, Obj.all, Obj.len, Obj.take, Obj.drop, Obj.sall, Ban.g0, Ban.g1, Ban.all, Ban.len, Ban.take, Ban.drop, Ban.sall, Opr.g0, Opr.g1, Opr.g2, Opr.g3, Opr.g4, Opr.all, Opr.len, Opr.take, Opr.drop, Opr.sall, Res.all, Res.len, Res.take, Res.sall, obj_hold, neb, nebb, no0, Oset3, Oset3b, text_size, text_cat, room0, room1, room2, sl0, thi, tlo, tlo2, tlohi, mm_min, hk, resL_three, three_some, hkk, *]
      | (refine allK_intro fun n hn => ?_; try simp only [fresh_set] at hn)
      | (refine ifK_intro (fun h => ?_) (fun h => ?_) <;> (try simp only [decide_eq_true_eq, decide_eq_false_iff_not, Bool.not_eq_true', Bool.not_eq_false'] at h) <;> try (exfalso; (try simp only [beq_iff_eq, beq_eq_false_iff_ne, bne_iff_ne, bne_eq_false_iff_eq, ne_eq] at h); omega))
      | (refine keeps_sub (Mem.sub_set ?_) ?_; focus (simp [Mem.set_at, nomem, *]; done))
      | (refine keeps_stab ?_ ?_; focus ((repeat' first | exact stabK_nil _ _ | refine stabK_cons ?_ ?_ | (simp (disch := omega) only [quietA, Option.isSome_some, ↓rulesA, rulesB, rulesC, Int.reduceLT, nth, upd, put, storeN, AV.one, Nat.reduceBEq, Nat.reduceBNe, Int.reduceBEq, Int.reduceBNe, Int.reduceLE, Int.reduceEq, Int.reduceMod, Int.reduceNeg, boolBin, strBin, intBin, unA, fillA, ne_eq, reduceCtorEq, Nat.reduceAdd, Nat.reduceSub, Nat.reduceLeDiff, Nat.reduceLT, Nat.reduceEqDiff, Int.reduceToNat, eq_self, rulesT, bne_self_eq_false, mm_min, mm_max, buOf_some, nilCheck_vp, nilCheck_ptr, nilCheck_yld, nilCheck_func, Obj.g0, Obj.g1, Obj.g2, Obj.g3, Obj.g4, nm0, Obj.s1, Obj.s2, Obj.all, Obj.len, Obj.take, Obj.drop, Obj.sall, Ban.g0, Ban.g1, Ban.all, Ban.len, Ban.take, Ban.drop, Ban.sall, Opr.g0, Opr.g1, Opr.g2, Opr.g3, Opr.g4, Opr.all, Opr.len, Opr.take, Opr.drop, Opr.sall, Res.all, Res.len, Res.take, Res.sall, obj_hold, neb, nebb, no0, Oset3, Oset3b, text_size, text_cat, room0, room1, room2, sl0, thi, tlo, tlo2, tlohi, mm_min, hk, resL_three, three_some, hkk, *]; done)); done))
      | (refine call_F (f11) (Seens.refl _ _) ?_)
      | (refine pure_F (f11) (Seens.refl _ _) ?_)
      | (refine call_F (f19) (Seens.refl _ _) ?_)
      | (refine pure_F (f19) (Seens.refl _ _) ?_)
      | (refine call_F (tl) (Seens.refl _ _) ?_)
      | (refine pure_F (tl) (Seens.refl _ _) ?_)
    exact New.eq rfl rfl
  · have e1 : writeR ⟨noObj, false, who, op⟩ = sizeR (writeS ⟨noObj, false, who, op⟩) := if_neg hend
    have e2 : writeS ⟨noObj, false, who, op⟩ = { mk0 ⟨noObj, false, who, op⟩ with o := { (mk0 ⟨noObj, false, who, op⟩).o with data := writeData (mk0 ⟨noObj, false, who, op⟩) } } := if_neg hend
    rw [e1, e2]
    rw [hw] at hend
    clear e1 e2 hw
    have hq : mk0 ⟨noObj, false, who, op⟩ = ⟨(⟨op.name, [], false, 0, 0⟩ : Obj), true, who, op⟩ := rfl
    rw [hq]
    clear hq
    have hwd : Kept (writeData ⟨(⟨op.name, [], false, 0, 0⟩ : Obj), true, who, op⟩ = (((⟨op.name, [], false, 0, 0⟩ : Obj).data ++ zs ((k : Int) - (⟨op.name, [], false, 0, 0⟩ : Obj).data.length)).take k ++ op.data ++ ((⟨op.name, [], false, 0, 0⟩ : Obj).data ++ zs ((k : Int) - (⟨op.name, [], false, 0, 0⟩ : Obj).data.length)).drop (k + op.data.length))) := by
      show _ = _
      unfold writeData oldS wEnd
      show ((⟨op.name, [], false, 0, 0⟩ : Obj).data ++ zs (op.off - (⟨op.name, [], false, 0, 0⟩ : Obj).data.length)).take op.off.toNat ++ op.data ++ ((⟨op.name, [], false, 0, 0⟩ : Obj).data ++ zs (op.off - (⟨op.name, [], false, 0, 0⟩ : Obj).data.length)).drop (op.off.toNat + op.data.length) = _
      rw [hkk]; rfl
    by_cases hlt : 0 < k
    · have f50 : F Try.prog 50 [.val (.int .i64 ((k : Int) - 0))] (.val (.string ⟨(zs ((k : Int) - 0)).toArray⟩)) := by
        have := F50 (k - 0) (by omega)
        have e : ((k - 0 : Nat) : Int) = (k : Int) - 0 := by omega
        rw [e] at this
        exact this
      have z1 := zs_len ((k : Int) - 0)
      replace hwd : Kept (writeData ⟨(⟨op.name, [], false, 0, 0⟩ : Obj), true, who, op⟩ = ((zs ((k : Int) - 0)).take k ++ op.data ++ (zs ((k : Int) - 0)).drop (k + op.data.length))) := hwd
      generalize zs ((k : Int) - 0) = Z at *
      clear tl
      have z2 : k ≤ (Z).length := by omega
      have z3 : (Z).length ≤ 128 := by omega
      have z5 : ((Z).take k).length ≤ 64 := by rw [List.length_take]; omega
      have z6 : ((Z).take k ++ op.data).length ≤ 128 := by rw [List.length_append]; omega
      have z7 : ((Z).drop (k + op.data.length)).length ≤ 128 := by rw [List.length_drop]; omega
      have z8 : Kept (¬ k + op.data.length < (Z).length → (Z).drop (k + op.data.length) = []) := fun h => List.drop_of_length_le (by omega)
      refine F25_of ?_
      unfold k25
      repeat' first
        | simp -dsimp (disch := omega) only [↓rulesA, rulesB, rulesC, Int.reduceLT, nth, upd, put, storeN, AV.one, Nat.reduceBEq, Nat.reduceBNe, Int.reduceBEq, Int.reduceBNe, Int.reduceLE, Int.reduceEq, Int.reduceMod, Int.reduceNeg, boolBin, strBin, intBin, unA, fillA, ne_eq, reduceCtorEq, Nat.reduceAdd, Nat.reduceSub, Nat.reduceLeDiff, Nat.reduceLT, Nat.reduceEqDiff, Int.reduceToNat, eq_self, rulesT, bne_self_eq_false, mm_min, mm_max, buOf_some, nilCheck_vp, nilCheck_ptr, nilCheck_yld, nilCheck_func, Obj.g0, Obj.g1, Obj.g2, Obj.g3, Obj.g4, nm0, Obj.s1, Obj.s2, Obj.all, Obj.len, Obj.take, Obj.drop, Obj.sall, Ban.g0, Ban.g1, Ban.all, Ban.len, Ban.take, Ban.drop, Ban.sall, Opr.g0, Opr.g1, Opr.g2, Opr.g3, Opr.g4, Opr.all, Opr.len, Opr.take, Opr.drop, Opr.sall, Res.all, Res.len, Res.take, Res.sall, obj_hold, neb, nebb, no0, Oset3, Oset3b, text_size, text_cat, room0, room1, room2, sl0, thi, tlo, tlo2, tlohi, mm_min, hk, resL_three, three_some, hkk, *]
        | (refine allK_intro fun n hn => ?_; try simp only [fresh_set] at hn)
        | (refine ifK_intro (fun h => ?_) (fun h => ?_) <;> (try simp only [decide_eq_true_eq, decide_eq_false_iff_not, Bool.not_eq_true', Bool.not_eq_false'] at h) <;> try (exfalso; (try simp only [beq_iff_eq, beq_eq_false_iff_ne, bne_iff_ne, bne_eq_false_iff_eq, ne_eq] at h); omega))
        | (refine keeps_sub (Mem.sub_set ?_) ?_; focus (simp [Mem.set_at, nomem, *]; done))
        | (refine keeps_stab ?_ ?_; focus ((repeat' first | exact stabK_nil _ _ | refine stabK_cons ?_ ?_ | (simp (disch := omega) only [quietA, Option.isSome_some, ↓rulesA, rulesB, rulesC, Int.reduceLT, nth, upd, put, storeN, AV.one, Nat.reduceBEq, Nat.reduceBNe, Int.reduceBEq, Int.reduceBNe, Int.reduceLE, Int.reduceEq, Int.reduceMod, Int.reduceNeg, boolBin, strBin, intBin, unA, fillA, ne_eq, reduceCtorEq, Nat.reduceAdd, Nat.reduceSub, Nat.reduceLeDiff, Nat.reduceLT, Nat.reduceEqDiff, Int.reduceToNat, eq_self, rulesT, bne_self_eq_false, mm_min, mm_max, buOf_some, nilCheck_vp, nilCheck_ptr, nilCheck_yld, nilCheck_func, Obj.g0, Obj.g1, Obj.g2, Obj.g3, Obj.g4, nm0, Obj.s1, Obj.s2, Obj.all, Obj.len, Obj.take, Obj.drop, Obj.sall, Ban.g0, Ban.g1, Ban.all, Ban.len, Ban.take, Ban.drop, Ban.sall, Opr.g0, Opr.g1, Opr.g2, Opr.g3, Opr.g4, Opr.all, Opr.len, Opr.take, Opr.drop, Opr.sall, Res.all, Res.len, Res.take, Res.sall, obj_hold, neb, nebb, no0, Oset3, Oset3b, text_size, text_cat, room0, room1, room2, sl0, thi, tlo, tlo2, tlohi, mm_min, hk, resL_three, three_some, hkk, *]; done)); done))
        | (refine call_F (f11) (Seens.refl _ _) ?_)
        | (refine pure_F (f11) (Seens.refl _ _) ?_)
        | (refine call_F (f19) (Seens.refl _ _) ?_)
        | (refine pure_F (f19) (Seens.refl _ _) ?_)
        | (refine call_F (f50) (Seens.refl _ _) ?_)
        | (refine pure_F (f50) (Seens.refl _ _) ?_)
        | (refine call_F (g51 _) (Seens.refl _ _) ?_)
        | (refine pure_F (g51 _) (Seens.refl _ _) ?_)
      all_goals first
        | (have hl := (z8 : _ → _) (by omega)
           rw [hl, List.append_nil] at hwd
           rw [show writeData ⟨(⟨op.name, [], false, 0, 0⟩ : Obj), true, who, op⟩ = _ from hwd]
           exact New.eq rfl rfl)
        | (rw [show writeData ⟨(⟨op.name, [], false, 0, 0⟩ : Obj), true, who, op⟩ = _ from hwd]
           exact New.eq rfl rfl)
    · have hk0 : k = 0 := by omega
      subst hk0
      have hwd' : writeData ⟨(⟨op.name, [], false, 0, 0⟩ : Obj), true, who, op⟩ = op.data := by
        rw [show writeData ⟨(⟨op.name, [], false, 0, 0⟩ : Obj), true, who, op⟩ = _ from hwd]
        show ([] ++ zs 0).take 0 ++ op.data ++ ([] ++ zs 0).drop (0 + op.data.length) = op.data
        rw [show zs 0 = [] from rfl]; simp
      rw [hwd']
      clear hwd hwd' tl
      refine F25_of ?_
      unfold k25
      repeat' first
        | simp -dsimp (disch := omega) only [↓rulesA, rulesB, rulesC, Int.reduceLT, nth, upd, put, storeN, AV.one, Nat.reduceBEq, Nat.reduceBNe, Int.reduceBEq, Int.reduceBNe, Int.reduceLE, Int.reduceEq, Int.reduceMod, Int.reduceNeg, boolBin, strBin, intBin, unA, fillA, ne_eq, reduceCtorEq, Nat.reduceAdd, Nat.reduceSub, Nat.reduceLeDiff, Nat.reduceLT, Nat.reduceEqDiff, Int.reduceToNat, eq_self, rulesT, bne_self_eq_false, mm_min, mm_max, buOf_some, nilCheck_vp, nilCheck_ptr, nilCheck_yld, nilCheck_func, Obj.g0, Obj.g1, Obj.g2, Obj.g3, Obj.g4, nm0, Obj.s1, Obj.s2, Obj.all, Obj.len, Obj.take, Obj.drop, Obj.sall, Ban.g0, Ban.g1, Ban.all, Ban.len, Ban.take, Ban.drop, Ban.sall, Opr.g0, Opr.g1, Opr.g2, Opr.g3, Opr.g4, Opr.all, Opr.len, Opr.take, Opr.drop, Opr.sall, Res.all, Res.len, Res.take, Res.sall, obj_hold, neb, nebb, no0, Oset3, Oset3b, text_size, text_cat, room0, room1, room2, sl0, thi, tlo, tlo2, tlohi, mm_min, hk, resL_three, three_some, hkk, *]
        | (refine allK_intro fun n hn => ?_; try simp only [fresh_set] at hn)
        | (refine ifK_intro (fun h => ?_) (fun h => ?_) <;> (try simp only [decide_eq_true_eq, decide_eq_false_iff_not, Bool.not_eq_true', Bool.not_eq_false'] at h) <;> try (exfalso; (try simp only [beq_iff_eq, beq_eq_false_iff_ne, bne_iff_ne, bne_eq_false_iff_eq, ne_eq] at h); omega))
        | (refine keeps_sub (Mem.sub_set ?_) ?_; focus (simp [Mem.set_at, nomem, *]; done))
        | (refine keeps_stab ?_ ?_; focus ((repeat' first | exact stabK_nil _ _ | refine stabK_cons ?_ ?_ | (simp (disch := omega) only [quietA, Option.isSome_some, ↓rulesA, rulesB, rulesC, Int.reduceLT, nth, upd, put, storeN, AV.one, Nat.reduceBEq, Nat.reduceBNe, Int.reduceBEq, Int.reduceBNe, Int.reduceLE, Int.reduceEq, Int.reduceMod, Int.reduceNeg, boolBin, strBin, intBin, unA, fillA, ne_eq, reduceCtorEq, Nat.reduceAdd, Nat.reduceSub, Nat.reduceLeDiff, Nat.reduceLT, Nat.reduceEqDiff, Int.reduceToNat, eq_self, rulesT, bne_self_eq_false, mm_min, mm_max, buOf_some, nilCheck_vp, nilCheck_ptr, nilCheck_yld, nilCheck_func, Obj.g0, Obj.g1, Obj.g2, Obj.g3, Obj.g4, nm0, Obj.s1, Obj.s2, Obj.all, Obj.len, Obj.take, Obj.drop, Obj.sall, Ban.g0, Ban.g1, Ban.all, Ban.len, Ban.take, Ban.drop, Ban.sall, Opr.g0, Opr.g1, Opr.g2, Opr.g3, Opr.g4, Opr.all, Opr.len, Opr.take, Opr.drop, Opr.sall, Res.all, Res.len, Res.take, Res.sall, obj_hold, neb, nebb, no0, Oset3, Oset3b, text_size, text_cat, room0, room1, room2, sl0, thi, tlo, tlo2, tlohi, mm_min, hk, resL_three, three_some, hkk, *]; done)); done))
        | (refine call_F (f11) (Seens.refl _ _) ?_)
        | (refine pure_F (f11) (Seens.refl _ _) ?_)
        | (refine call_F (f19) (Seens.refl _ _) ?_)
        | (refine pure_F (f19) (Seens.refl _ _) ?_)
        | (refine call_F (g51 _) (Seens.refl _ _) ?_)
        | (refine pure_F (g51 _) (Seens.refl _ _) ?_)
      exact New.eq rfl rfl
end Go.Proofs.Ytanfgfclpjmngaa

set_option maxRecDepth 100000
set_option maxHeartbeats 1000000
set_option linter.unusedSimpArgs false
set_option linter.unusedVariables false
namespace Go.Proofs.Ytanfgfclpjmngaa
open Go.Abs
attribute [local irreducible] C X CC Y CV CW binK litK AppK PureC PureCV againK loopV rangeV allK ifK got onB condK V stepsK planK opK firstK seeE keepsK
theorem F25_k2n (o : Obj) (who : Ban) (op : Opr) (hop : op.ok) (hdo : doOk who op = true) (hk : op.kind = 2) : F Try.prog 25 [.agg o.cells, .val (.bool false), .agg who.cells, .agg op.cells] (res25 (doS o false who op) (doR o false who op)) := by
  have hd2 : opOk op = true ∧ whoB who = true := by unfold doOk at hdo; simpa using hdo
  have f11 := F11 op hop
  have f19 := F19 who
  rw [hd2.1] at f11
  rw [hd2.2] at f19
  have eS : doS o false who op = actS ⟨noObj, false, who, op⟩ := if_pos hdo
  have eR : doR o false who op = actR ⟨noObj, false, who, op⟩ := if_pos hdo
  have aS : actS ⟨noObj, false, who, op⟩ = zeroS ⟨noObj, false, who, op⟩ := by simp [actS, hk]
  have aR : actR ⟨noObj, false, who, op⟩ = zeroR ⟨noObj, false, who, op⟩ := by simp [actR, hk]
  rw [eS, eR, aS, aR]
  clear eS eR aS aR hdo
  have tl := toldN noObj 24 0
  refine F25_of ?_
  unfold k25
  repeat' first
    | simp -dsimp (disch := omega) only [↓rulesA, rulesB, rulesC, Int.reduceLT, nth, upd, put, storeN, AV.one, Nat.reduceBEq, Nat.reduceBNe, Int.reduceBEq, Int.reduceBNe, Int.reduceLE, Int.reduceEq, Int.reduceMod, Int.reduceNeg, boolBin, strBin, intBin, unA, fillA, ne_eq, reduceCtorEq, Nat.reduceAdd, Nat.reduceSub, Nat.reduceLeDiff, Nat.reduceLT, Nat.reduceEqDiff, Int.reduceToNat, eq_self, rulesT, bne_self_eq_false, mm_min, mm_max, buOf_some, nilCheck_vp, nilCheck_ptr, nilCheck_yld, nilCheck_func, Obj.g0, Obj.g1, Obj.g2, Obj.g3, Obj.g4, nm0, Obj.s1, Obj.s2, Obj.all, Obj.len, Obj.take, Obj.drop, Obj.sall, Ban.g0, Ban.g1, Ban.all, Ban.len, Ban.take, Ban.drop, Ban.sall, Opr.g0, Opr.g1, Opr.g2, Opr.g3, Opr.g4, Opr.all, Opr.len, Opr.take, Opr.drop, Opr.sall, Res.all, Res.len, Res.take, Res.sall, obj_hold, neb, nebb, no0, Oset3, Oset3b, text_size, text_cat, room0, room1, room2, sl0, thi, tlo, tlo2, tlohi, mm_min, hk, resL_three, three_some, *]
    | (refine allK_intro fun n hn => ?_; try simp only [fresh_set] at hn)
    | (refine ifK_intro (fun h => ?_) (fun h => ?_) <;> (try simp only [decide_eq_true_eq, decide_eq_false_iff_not, Bool.not_eq_true', Bool.not_eq_false'] at h) <;> try (exfalso; (try simp only [beq_iff_eq, beq_eq_false_iff_ne, bne_iff_ne, bne_eq_false_iff_eq, ne_eq] at h); omega))
    | (refine keeps_sub (Mem.sub_set ?_) ?_; focus (simp [Mem.set_at, nomem, *]; done))
    | (refine keeps_stab ?_ ?_; focus ((repeat' first | exact stabK_nil _ _ | refine stabK_cons ?_ ?_ | (simp (disch := omega) only [quietA, Option.isSome_some, ↓rulesA, rulesB, rulesC, Int.reduceLT, nth, upd, put, storeN, AV.one, Nat.reduceBEq, Nat.reduceBNe, Int.reduceBEq, Int.reduceBNe, Int.reduceLE, Int.reduceEq, Int.reduceMod, Int.reduceNeg, boolBin, strBin, intBin, unA, fillA, ne_eq, reduceCtorEq, Nat.reduceAdd, Nat.reduceSub, Nat.reduceLeDiff, Nat.reduceLT, Nat.reduceEqDiff, Int.reduceToNat, eq_self, rulesT, bne_self_eq_false, mm_min, mm_max, buOf_some, nilCheck_vp, nilCheck_ptr, nilCheck_yld, nilCheck_func, Obj.g0, Obj.g1, Obj.g2, Obj.g3, Obj.g4, nm0, Obj.s1, Obj.s2, Obj.all, Obj.len, Obj.take, Obj.drop, Obj.sall, Ban.g0, Ban.g1, Ban.all, Ban.len, Ban.take, Ban.drop, Ban.sall, Opr.g0, Opr.g1, Opr.g2, Opr.g3, Opr.g4, Opr.all, Opr.len, Opr.take, Opr.drop, Opr.sall, Res.all, Res.len, Res.take, Res.sall, obj_hold, neb, nebb, no0, Oset3, Oset3b, text_size, text_cat, room0, room1, room2, sl0, thi, tlo, tlo2, tlohi, mm_min, hk, resL_three, three_some, *]; done)); done))
    | (refine call_F (f11) (Seens.refl _ _) ?_)
    | (refine pure_F (f11) (Seens.refl _ _) ?_)
    | (refine call_F (f19) (Seens.refl _ _) ?_)
    | (refine pure_F (f19) (Seens.refl _ _) ?_)
    | (refine call_F (tl) (Seens.refl _ _) ?_)
    | (refine pure_F (tl) (Seens.refl _ _) ?_)
  exact New.eq rfl rfl
theorem F25_k4n (o : Obj) (who : Ban) (op : Opr) (hop : op.ok) (hdo : doOk who op = true) (hk : op.kind = 4) : F Try.prog 25 [.agg o.cells, .val (.bool false), .agg who.cells, .agg op.cells] (res25 (doS o false who op) (doR o false who op)) := by
  have hd2 : opOk op = true ∧ whoB who = true := by unfold doOk at hdo; simpa using hdo
  have f11 := F11 op hop
  have f19 := F19 who
  rw [hd2.1] at f11
  rw [hd2.2] at f19
  have eS : doS o false who op = actS ⟨noObj, false, who, op⟩ := if_pos hdo
  have eR : doR o false who op = actR ⟨noObj, false, who, op⟩ := if_pos hdo
  have aS : actS ⟨noObj, false, who, op⟩ = ⟨noObj, false, who, op⟩ := by simp [actS, hk]
  have aR : actR ⟨noObj, false, who, op⟩ = errR 24 := by simp [actR, hk]
  rw [eS, eR, aS, aR]
  clear eS eR aS aR hdo
  have tl := toldN noObj 24 0
  refine F25_of ?_
  unfold k25
  repeat' first
    | simp -dsimp (disch := omega) only [↓rulesA, rulesB, rulesC, Int.reduceLT, nth, upd, put, storeN, AV.one, Nat.reduceBEq, Nat.reduceBNe, Int.reduceBEq, Int.reduceBNe, Int.reduceLE, Int.reduceEq, Int.reduceMod, Int.reduceNeg, boolBin, strBin, intBin, unA, fillA, ne_eq, reduceCtorEq, Nat.reduceAdd, Nat.reduceSub, Nat.reduceLeDiff, Nat.reduceLT, Nat.reduceEqDiff, Int.reduceToNat, eq_self, rulesT, bne_self_eq_false, mm_min, mm_max, buOf_some, nilCheck_vp, nilCheck_ptr, nilCheck_yld, nilCheck_func, Obj.g0, Obj.g1, Obj.g2, Obj.g3, Obj.g4, nm0, Obj.s1, Obj.s2, Obj.all, Obj.len, Obj.take, Obj.drop, Obj.sall, Ban.g0, Ban.g1, Ban.all, Ban.len, Ban.take, Ban.drop, Ban.sall, Opr.g0, Opr.g1, Opr.g2, Opr.g3, Opr.g4, Opr.all, Opr.len, Opr.take, Opr.drop, Opr.sall, Res.all, Res.len, Res.take, Res.sall, obj_hold, neb, nebb, no0, Oset3, Oset3b, text_size, text_cat, room0, room1, room2, sl0, thi, tlo, tlo2, tlohi, mm_min, hk, resL_three, three_some, *]
    | (refine allK_intro fun n hn => ?_; try simp only [fresh_set] at hn)
    | (refine ifK_intro (fun h => ?_) (fun h => ?_) <;> (try simp only [decide_eq_true_eq, decide_eq_false_iff_not, Bool.not_eq_true', Bool.not_eq_false'] at h) <;> try (exfalso; (try simp only [beq_iff_eq, beq_eq_false_iff_ne, bne_iff_ne, bne_eq_false_iff_eq, ne_eq] at h); omega))
    | (refine keeps_sub (Mem.sub_set ?_) ?_; focus (simp [Mem.set_at, nomem, *]; done))
    | (refine keeps_stab ?_ ?_; focus ((repeat' first | exact stabK_nil _ _ | refine stabK_cons ?_ ?_ | (simp (disch := omega) only [quietA, Option.isSome_some, ↓rulesA, rulesB, rulesC, Int.reduceLT, nth, upd, put, storeN, AV.one, Nat.reduceBEq, Nat.reduceBNe, Int.reduceBEq, Int.reduceBNe, Int.reduceLE, Int.reduceEq, Int.reduceMod, Int.reduceNeg, boolBin, strBin, intBin, unA, fillA, ne_eq, reduceCtorEq, Nat.reduceAdd, Nat.reduceSub, Nat.reduceLeDiff, Nat.reduceLT, Nat.reduceEqDiff, Int.reduceToNat, eq_self, rulesT, bne_self_eq_false, mm_min, mm_max, buOf_some, nilCheck_vp, nilCheck_ptr, nilCheck_yld, nilCheck_func, Obj.g0, Obj.g1, Obj.g2, Obj.g3, Obj.g4, nm0, Obj.s1, Obj.s2, Obj.all, Obj.len, Obj.take, Obj.drop, Obj.sall, Ban.g0, Ban.g1, Ban.all, Ban.len, Ban.take, Ban.drop, Ban.sall, Opr.g0, Opr.g1, Opr.g2, Opr.g3, Opr.g4, Opr.all, Opr.len, Opr.take, Opr.drop, Opr.sall, Res.all, Res.len, Res.take, Res.sall, obj_hold, neb, nebb, no0, Oset3, Oset3b, text_size, text_cat, room0, room1, room2, sl0, thi, tlo, tlo2, tlohi, mm_min, hk, resL_three, three_some, *]; done)); done))
    | (refine call_F (f11) (Seens.refl _ _) ?_)
    | (refine pure_F (f11) (Seens.refl _ _) ?_)
    | (refine call_F (f19) (Seens.refl _ _) ?_)
    | (refine pure_F (f19) (Seens.refl _ _) ?_)
    | (refine call_F (tl) (Seens.refl _ _) ?_)
    | (refine pure_F (tl) (Seens.refl _ _) ?_)
  exact New.eq rfl rfl
theorem F25_k5n (o : Obj) (who : Ban) (op : Opr) (hop : op.ok) (hdo : doOk who op = true) (hk : op.kind = 5) : F Try.prog 25 [.agg o.cells, .val (.bool false), .agg who.cells, .agg op.cells] (res25 (doS o false who op) (doR o false who op)) := by
  have hd2 : opOk op = true ∧ whoB who = true := by unfold doOk at hdo; simpa using hdo
  have f11 := F11 op hop
  have f19 := F19 who
  rw [hd2.1] at f11
  rw [hd2.2] at f19
  have eS : doS o false who op = actS ⟨noObj, false, who, op⟩ := if_pos hdo
  have eR : doR o false who op = actR ⟨noObj, false, who, op⟩ := if_pos hdo
  have aS : actS ⟨noObj, false, who, op⟩ = ⟨noObj, false, who, op⟩ := by simp [actS, hk]
  have aR : actR ⟨noObj, false, who, op⟩ = readR ⟨noObj, false, who, op⟩ := by simp [actR, hk]
  rw [eS, eR, aS, aR]
  clear eS eR aS aR hdo
  have tl := toldN noObj 24 0
  refine F25_of ?_
  unfold k25
  repeat' first
    | simp -dsimp (disch := omega) only [↓rulesA, rulesB, rulesC, Int.reduceLT, nth, upd, put, storeN, AV.one, Nat.reduceBEq, Nat.reduceBNe, Int.reduceBEq, Int.reduceBNe, Int.reduceLE, Int.reduceEq, Int.reduceMod, Int.reduceNeg, boolBin, strBin, intBin, unA, fillA, ne_eq, reduceCtorEq, Nat.reduceAdd, Nat.reduceSub, Nat.reduceLeDiff, Nat.reduceLT, Nat.reduceEqDiff, Int.reduceToNat, eq_self, rulesT, bne_self_eq_false, mm_min, mm_max, buOf_some, nilCheck_vp, nilCheck_ptr, nilCheck_yld, nilCheck_func, Obj.g0, Obj.g1, Obj.g2, Obj.g3, Obj.g4, nm0, Obj.s1, Obj.s2, Obj.all, Obj.len, Obj.take, Obj.drop, Obj.sall, Ban.g0, Ban.g1, Ban.all, Ban.len, Ban.take, Ban.drop, Ban.sall, Opr.g0, Opr.g1, Opr.g2, Opr.g3, Opr.g4, Opr.all, Opr.len, Opr.take, Opr.drop, Opr.sall, Res.all, Res.len, Res.take, Res.sall, obj_hold, neb, nebb, no0, Oset3, Oset3b, text_size, text_cat, room0, room1, room2, sl0, thi, tlo, tlo2, tlohi, mm_min, hk, resL_three, three_some, *]
    | (refine allK_intro fun n hn => ?_; try simp only [fresh_set] at hn)
    | (refine ifK_intro (fun h => ?_) (fun h => ?_) <;> (try simp only [decide_eq_true_eq, decide_eq_false_iff_not, Bool.not_eq_true', Bool.not_eq_false'] at h) <;> try (exfalso; (try simp only [beq_iff_eq, beq_eq_false_iff_ne, bne_iff_ne, bne_eq_false_iff_eq, ne_eq] at h); omega))
    | (refine keeps_sub (Mem.sub_set ?_) ?_; focus (simp [Mem.set_at, nomem, *]; done))
    | (refine keeps_stab ?_ ?_; focus ((repeat' first | exact stabK_nil _ _ | refine stabK_cons ?_ ?_ | (simp (disch := omega) only [quietA, Option.isSome_some, ↓rulesA, rulesB, rulesC, Int.reduceLT, nth, upd, put, storeN, AV.one, Nat.reduceBEq, Nat.reduceBNe, Int.reduceBEq, Int.reduceBNe, Int.reduceLE, Int.reduceEq, Int.reduceMod, Int.reduceNeg, boolBin, strBin, intBin, unA, fillA, ne_eq, reduceCtorEq, Nat.reduceAdd, Nat.reduceSub, Nat.reduceLeDiff, Nat.reduceLT, Nat.reduceEqDiff, Int.reduceToNat, eq_self, rulesT, bne_self_eq_false, mm_min, mm_max, buOf_some, nilCheck_vp, nilCheck_ptr, nilCheck_yld, nilCheck_func, Obj.g0, Obj.g1, Obj.g2, Obj.g3, Obj.g4, nm0, Obj.s1, Obj.s2, Obj.all, Obj.len, Obj.take, Obj.drop, Obj.sall, Ban.g0, Ban.g1, Ban.all, Ban.len, Ban.take, Ban.drop, Ban.sall, Opr.g0, Opr.g1, Opr.g2, Opr.g3, Opr.g4, Opr.all, Opr.len, Opr.take, Opr.drop, Opr.sall, Res.all, Res.len, Res.take, Res.sall, obj_hold, neb, nebb, no0, Oset3, Oset3b, text_size, text_cat, room0, room1, room2, sl0, thi, tlo, tlo2, tlohi, mm_min, hk, resL_three, three_some, *]; done)); done))
    | (refine call_F (f11) (Seens.refl _ _) ?_)
    | (refine pure_F (f11) (Seens.refl _ _) ?_)
    | (refine call_F (f19) (Seens.refl _ _) ?_)
    | (refine pure_F (f19) (Seens.refl _ _) ?_)
    | (refine call_F (tl) (Seens.refl _ _) ?_)
    | (refine pure_F (tl) (Seens.refl _ _) ?_)
  exact New.eq rfl rfl
theorem F25_k6n (o : Obj) (who : Ban) (op : Opr) (hop : op.ok) (hdo : doOk who op = true) (hk : op.kind = 6) : F Try.prog 25 [.agg o.cells, .val (.bool false), .agg who.cells, .agg op.cells] (res25 (doS o false who op) (doR o false who op)) := by
  have hd2 : opOk op = true ∧ whoB who = true := by unfold doOk at hdo; simpa using hdo
  have f11 := F11 op hop
  have f19 := F19 who
  rw [hd2.1] at f11
  rw [hd2.2] at f19
  have eS : doS o false who op = actS ⟨noObj, false, who, op⟩ := if_pos hdo
  have eR : doR o false who op = actR ⟨noObj, false, who, op⟩ := if_pos hdo
  have aS : actS ⟨noObj, false, who, op⟩ = ⟨noObj, false, who, op⟩ := by simp [actS, hk]
  have aR : actR ⟨noObj, false, who, op⟩ = errR 24 := by simp [actR, hk]
  rw [eS, eR, aS, aR]
  clear eS eR aS aR hdo
  have tl := toldN noObj 24 0
  refine F25_of ?_
  unfold k25
  repeat' first
    | simp -dsimp (disch := omega) only [↓rulesA, rulesB, rulesC, Int.reduceLT, nth, upd, put, storeN, AV.one, Nat.reduceBEq, Nat.reduceBNe, Int.reduceBEq, Int.reduceBNe, Int.reduceLE, Int.reduceEq, Int.reduceMod, Int.reduceNeg, boolBin, strBin, intBin, unA, fillA, ne_eq, reduceCtorEq, Nat.reduceAdd, Nat.reduceSub, Nat.reduceLeDiff, Nat.reduceLT, Nat.reduceEqDiff, Int.reduceToNat, eq_self, rulesT, bne_self_eq_false, mm_min, mm_max, buOf_some, nilCheck_vp, nilCheck_ptr, nilCheck_yld, nilCheck_func, Obj.g0, Obj.g1, Obj.g2, Obj.g3, Obj.g4, nm0, Obj.s1, Obj.s2, Obj.all, Obj.len, Obj.take, Obj.drop, Obj.sall, Ban.g0, Ban.g1, Ban.all, Ban.len, Ban.take, Ban.drop, Ban.sall, Opr.g0, Opr.g1, Opr.g2, Opr.g3, Opr.g4, Opr.all, Opr.len, Opr.take, Opr.drop, Opr.sall, Res.all, Res.len, Res.take, Res.sall, obj_hold, neb, nebb, no0, Oset3, Oset3b, text_size, text_cat, room0, room1, room2, sl0, thi, tlo, tlo2, tlohi, mm_min, hk, resL_three, three_some, *]
    | (refine allK_intro fun n hn => ?_; try simp only [fresh_set] at hn)
    | (refine ifK_intro (fun h => ?_) (fun h => ?_) <;> (try simp only [decide_eq_true_eq, decide_eq_false_iff_not, Bool.not_eq_true', Bool.not_eq_false'] at h) <;> try (exfalso; (try simp only [beq_iff_eq, beq_eq_false_iff_ne, bne_iff_ne, bne_eq_false_iff_eq, ne_eq] at h); omega))
    | (refine keeps_sub (Mem.sub_set ?_) ?_; focus (simp [Mem.set_at, nomem, *]; done))
    | (refine keeps_stab ?_ ?_; focus ((repeat' first | exact stabK_nil _ _ | refine stabK_cons ?_ ?_ | (simp (disch := omega) only [quietA, Option.isSome_some, ↓rulesA, rulesB, rulesC, Int.reduceLT, nth, upd, put, storeN, AV.one, Nat.reduceBEq, Nat.reduceBNe, Int.reduceBEq, Int.reduceBNe, Int.reduceLE, Int.reduceEq, Int.reduceMod, Int.reduceNeg, boolBin, strBin, intBin, unA, fillA, ne_eq, reduceCtorEq, Nat.reduceAdd, Nat.reduceSub, Nat.reduceLeDiff, Nat.reduceLT, Nat.reduceEqDiff, Int.reduceToNat, eq_self, rulesT, bne_self_eq_false, mm_min, mm_max, buOf_some, nilCheck_vp, nilCheck_ptr, nilCheck_yld, nilCheck_func, Obj.g0, Obj.g1, Obj.g2, Obj.g3, Obj.g4, nm0, Obj.s1, Obj.s2, Obj.all, Obj.len, Obj.take, Obj.drop, Obj.sall, Ban.g0, Ban.g1, Ban.all, Ban.len, Ban.take, Ban.drop, Ban.sall, Opr.g0, Opr.g1, Opr.g2, Opr.g3, Opr.g4, Opr.all, Opr.len, Opr.take, Opr.drop, Opr.sall, Res.all, Res.len, Res.take, Res.sall, obj_hold, neb, nebb, no0, Oset3, Oset3b, text_size, text_cat, room0, room1, room2, sl0, thi, tlo, tlo2, tlohi, mm_min, hk, resL_three, three_some, *]; done)); done))
    | (refine call_F (f11) (Seens.refl _ _) ?_)
    | (refine pure_F (f11) (Seens.refl _ _) ?_)
    | (refine call_F (f19) (Seens.refl _ _) ?_)
    | (refine pure_F (f19) (Seens.refl _ _) ?_)
    | (refine call_F (tl) (Seens.refl _ _) ?_)
    | (refine pure_F (tl) (Seens.refl _ _) ?_)
  exact New.eq rfl rfl
theorem F25_k8n (o : Obj) (who : Ban) (op : Opr) (hop : op.ok) (hdo : doOk who op = true) (hk : op.kind = 8) : F Try.prog 25 [.agg o.cells, .val (.bool false), .agg who.cells, .agg op.cells] (res25 (doS o false who op) (doR o false who op)) := by
  have hd2 : opOk op = true ∧ whoB who = true := by unfold doOk at hdo; simpa using hdo
  have f11 := F11 op hop
  have f19 := F19 who
  rw [hd2.1] at f11
  rw [hd2.2] at f19
  have eS : doS o false who op = actS ⟨noObj, false, who, op⟩ := if_pos hdo
  have eR : doR o false who op = actR ⟨noObj, false, who, op⟩ := if_pos hdo
  have aS : actS ⟨noObj, false, who, op⟩ = freeS ⟨noObj, false, who, op⟩ who := by simp [actS, hk]
  have aR : actR ⟨noObj, false, who, op⟩ = freeR ⟨noObj, false, who, op⟩ who := by simp [actR, hk]
  rw [eS, eR, aS, aR]
  clear eS eR aS aR hdo
  have tl := toldN noObj 24 0
  refine F25_of ?_
  unfold k25
  repeat' first
    | simp -dsimp (disch := omega) only [↓rulesA, rulesB, rulesC, Int.reduceLT, nth, upd, put, storeN, AV.one, Nat.reduceBEq, Nat.reduceBNe, Int.reduceBEq, Int.reduceBNe, Int.reduceLE, Int.reduceEq, Int.reduceMod, Int.reduceNeg, boolBin, strBin, intBin, unA, fillA, ne_eq, reduceCtorEq, Nat.reduceAdd, Nat.reduceSub, Nat.reduceLeDiff, Nat.reduceLT, Nat.reduceEqDiff, Int.reduceToNat, eq_self, rulesT, bne_self_eq_false, mm_min, mm_max, buOf_some, nilCheck_vp, nilCheck_ptr, nilCheck_yld, nilCheck_func, Obj.g0, Obj.g1, Obj.g2, Obj.g3, Obj.g4, nm0, Obj.s1, Obj.s2, Obj.all, Obj.len, Obj.take, Obj.drop, Obj.sall, Ban.g0, Ban.g1, Ban.all, Ban.len, Ban.take, Ban.drop, Ban.sall, Opr.g0, Opr.g1, Opr.g2, Opr.g3, Opr.g4, Opr.all, Opr.len, Opr.take, Opr.drop, Opr.sall, Res.all, Res.len, Res.take, Res.sall, obj_hold, neb, nebb, no0, Oset3, Oset3b, text_size, text_cat, room0, room1, room2, sl0, thi, tlo, tlo2, tlohi, mm_min, hk, resL_three, three_some, *]
    | (refine allK_intro fun n hn => ?_; try simp only [fresh_set] at hn)
    | (refine ifK_intro (fun h => ?_) (fun h => ?_) <;> (try simp only [decide_eq_true_eq, decide_eq_false_iff_not, Bool.not_eq_true', Bool.not_eq_false'] at h) <;> try (exfalso; (try simp only [beq_iff_eq, beq_eq_false_iff_ne, bne_iff_ne, bne_eq_false_iff_eq, ne_eq] at h); omega))
    | (refine keeps_sub (Mem.sub_set ?_) ?_; focus (simp [Mem.set_at, nomem, *]; done))
    | (refine keeps_stab ?_ ?_; focus ((repeat' first | exact stabK_nil _ _ | refine stabK_cons ?_ ?_ | (simp (disch := omega) only [quietA, Option.isSome_some, ↓rulesA, rulesB, rulesC, Int.reduceLT, nth, upd, put, storeN, AV.one, Nat.reduceBEq, Nat.reduceBNe, Int.reduceBEq, Int.reduceBNe, Int.reduceLE, Int.reduceEq, Int.reduceMod, Int.reduceNeg, boolBin, strBin, intBin, unA, fillA, ne_eq, reduceCtorEq, Nat.reduceAdd, Nat.reduceSub, Nat.reduceLeDiff, Nat.reduceLT, Nat.reduceEqDiff, Int.reduceToNat, eq_self, rulesT, bne_self_eq_false, mm_min, mm_max, buOf_some, nilCheck_vp, nilCheck_ptr, nilCheck_yld, nilCheck_func, Obj.g0, Obj.g1, Obj.g2, Obj.g3, Obj.g4, nm0, Obj.s1, Obj.s2, Obj.all, Obj.len, Obj.take, Obj.drop, Obj.sall, Ban.g0, Ban.g1, Ban.all, Ban.len, Ban.take, Ban.drop, Ban.sall, Opr.g0, Opr.g1, Opr.g2, Opr.g3, Opr.g4, Opr.all, Opr.len, Opr.take, Opr.drop, Opr.sall, Res.all, Res.len, Res.take, Res.sall, obj_hold, neb, nebb, no0, Oset3, Oset3b, text_size, text_cat, room0, room1, room2, sl0, thi, tlo, tlo2, tlohi, mm_min, hk, resL_three, three_some, *]; done)); done))
    | (refine call_F (f11) (Seens.refl _ _) ?_)
    | (refine pure_F (f11) (Seens.refl _ _) ?_)
    | (refine call_F (f19) (Seens.refl _ _) ?_)
    | (refine pure_F (f19) (Seens.refl _ _) ?_)
    | (refine call_F (tl) (Seens.refl _ _) ?_)
    | (refine pure_F (tl) (Seens.refl _ _) ?_)
  exact New.eq rfl rfl
theorem F25_k9n (o : Obj) (who : Ban) (op : Opr) (hop : op.ok) (hdo : doOk who op = true) (hk : op.kind = 9) : F Try.prog 25 [.agg o.cells, .val (.bool false), .agg who.cells, .agg op.cells] (res25 (doS o false who op) (doR o false who op)) := by
  have hd2 : opOk op = true ∧ whoB who = true := by unfold doOk at hdo; simpa using hdo
  have f11 := F11 op hop
  have f19 := F19 who
  rw [hd2.1] at f11
  rw [hd2.2] at f19
  have eS : doS o false who op = actS ⟨noObj, false, who, op⟩ := if_pos hdo
  have eR : doR o false who op = actR ⟨noObj, false, who, op⟩ := if_pos hdo
  have aS : actS ⟨noObj, false, who, op⟩ = freeS ⟨noObj, false, who, op⟩ ⟨op.num, op.off⟩ := by simp [actS, hk]
  have aR : actR ⟨noObj, false, who, op⟩ = freeR ⟨noObj, false, who, op⟩ ⟨op.num, op.off⟩ := by simp [actR, hk]
  rw [eS, eR, aS, aR]
  clear eS eR aS aR hdo
  have tl := toldN noObj 24 0
  refine F25_of ?_
  unfold k25
  repeat' first
    | simp -dsimp (disch := omega) only [↓rulesA, rulesB, rulesC, Int.reduceLT, nth, upd, put, storeN, AV.one, Nat.reduceBEq, Nat.reduceBNe, Int.reduceBEq, Int.reduceBNe, Int.reduceLE, Int.reduceEq, Int.reduceMod, Int.reduceNeg, boolBin, strBin, intBin, unA, fillA, ne_eq, reduceCtorEq, Nat.reduceAdd, Nat.reduceSub, Nat.reduceLeDiff, Nat.reduceLT, Nat.reduceEqDiff, Int.reduceToNat, eq_self, rulesT, bne_self_eq_false, mm_min, mm_max, buOf_some, nilCheck_vp, nilCheck_ptr, nilCheck_yld, nilCheck_func, Obj.g0, Obj.g1, Obj.g2, Obj.g3, Obj.g4, nm0, Obj.s1, Obj.s2, Obj.all, Obj.len, Obj.take, Obj.drop, Obj.sall, Ban.g0, Ban.g1, Ban.all, Ban.len, Ban.take, Ban.drop, Ban.sall, Opr.g0, Opr.g1, Opr.g2, Opr.g3, Opr.g4, Opr.all, Opr.len, Opr.take, Opr.drop, Opr.sall, Res.all, Res.len, Res.take, Res.sall, obj_hold, neb, nebb, no0, Oset3, Oset3b, text_size, text_cat, room0, room1, room2, sl0, thi, tlo, tlo2, tlohi, mm_min, hk, resL_three, three_some, *]
    | (refine allK_intro fun n hn => ?_; try simp only [fresh_set] at hn)
    | (refine ifK_intro (fun h => ?_) (fun h => ?_) <;> (try simp only [decide_eq_true_eq, decide_eq_false_iff_not, Bool.not_eq_true', Bool.not_eq_false'] at h) <;> try (exfalso; (try simp only [beq_iff_eq, beq_eq_false_iff_ne, bne_iff_ne, bne_eq_false_iff_eq, ne_eq] at h); omega))
    | (refine keeps_sub (Mem.sub_set ?_) ?_; focus (simp [Mem.set_at, nomem, *]; done))
    | (refine keeps_stab ?_ ?_; focus ((repeat' first | exact stabK_nil _ _ | refine stabK_cons ?_ ?_ | (simp (disch := omega) only [quietA, Option.isSome_some, ↓rulesA, rulesB, rulesC, Int.reduceLT, nth, upd, put, storeN, AV.one, Nat.reduceBEq, Nat.reduceBNe, Int.reduceBEq, Int.reduceBNe, Int.reduceLE, Int.reduceEq, Int.reduceMod, Int.reduceNeg, boolBin, strBin, intBin, unA, fillA, ne_eq, reduceCtorEq, Nat.reduceAdd, Nat.reduceSub, Nat.reduceLeDiff, Nat.reduceLT, Nat.reduceEqDiff, Int.reduceToNat, eq_self, rulesT, bne_self_eq_false, mm_min, mm_max, buOf_some, nilCheck_vp, nilCheck_ptr, nilCheck_yld, nilCheck_func, Obj.g0, Obj.g1, Obj.g2, Obj.g3, Obj.g4, nm0, Obj.s1, Obj.s2, Obj.all, Obj.len, Obj.take, Obj.drop, Obj.sall, Ban.g0, Ban.g1, Ban.all, Ban.len, Ban.take, Ban.drop, Ban.sall, Opr.g0, Opr.g1, Opr.g2, Opr.g3, Opr.g4, Opr.all, Opr.len, Opr.take, Opr.drop, Opr.sall, Res.all, Res.len, Res.take, Res.sall, obj_hold, neb, nebb, no0, Oset3, Oset3b, text_size, text_cat, room0, room1, room2, sl0, thi, tlo, tlo2, tlohi, mm_min, hk, resL_three, three_some, *]; done)); done))
    | (refine call_F (f11) (Seens.refl _ _) ?_)
    | (refine pure_F (f11) (Seens.refl _ _) ?_)
    | (refine call_F (f19) (Seens.refl _ _) ?_)
    | (refine pure_F (f19) (Seens.refl _ _) ?_)
    | (refine call_F (tl) (Seens.refl _ _) ?_)
    | (refine pure_F (tl) (Seens.refl _ _) ?_)
  exact New.eq rfl rfl
theorem F25_k3t (o : Obj) (who : Ban) (op : Opr) (hop : op.ok) (hd : o.data.length ≤ 64) (hdo : doOk who op = true) (hk : op.kind = 3) : F Try.prog 25 [.agg o.cells, .val (.bool true), .agg who.cells, .agg op.cells] (res25 (doS o true who op) (doR o true who op)) := by
  have hd2 : opOk op = true ∧ whoB who = true := by unfold doOk at hdo; simpa using hdo
  have f11 := F11 op hop
  have f19 := F19 who
  rw [hd2.1] at f11
  rw [hd2.2] at f19
  have eS : doS o true who op = actS ⟨o, true, who, op⟩ := if_pos hdo
  have eR : doR o true who op = actR ⟨o, true, who, op⟩ := if_pos hdo
  have aS : actS ⟨o, true, who, op⟩ = truncS ⟨o, true, who, op⟩ := by simp [actS, hk]
  have aR : actR ⟨o, true, who, op⟩ = sizeR (truncS ⟨o, true, who, op⟩) := by simp [actR, hk]
  rw [eS, eR, aS, aR]
  clear eS eR aS aR hdo
  obtain ⟨⟨u1, u2⟩, ⟨u3, u4⟩, u5⟩ := op_small hd2.1 (by omega)
  obtain ⟨k, hkk⟩ : ∃ k : Nat, op.num = k := ⟨op.num.toNat, by omega⟩
  have hts : truncS ⟨o, true, who, op⟩ = ⟨{ o with data := (o.data ++ zs ((k : Int) - o.data.length)).take k }, true, who, op⟩ := by
    show (⟨{ o with data := (o.data ++ zs (op.num - o.data.length)).take op.num.toNat }, true, who, op⟩ : Sheet) = _
    rw [hkk]; rfl
  rw [hts]
  clear hts
  by_cases hlt : k < o.data.length
  · have hZ : (o.data ++ zs ((k : Int) - o.data.length)).take k = o.data.take k := by
      rw [show zs ((k : Int) - o.data.length) = [] by unfold zs; rw [show ((k : Int) - o.data.length).toNat = 0 by omega]; rfl, List.append_nil]
    rw [hZ]
    clear hZ
    have f50 := F50 0 (by decide)
    rw [show (zs ((0 : Nat) : Int)) = [] from rfl] at f50
    have e0 : (k : Int) - ((o.data.take k).length : Nat) = ((0 : Nat) : Int) := by rw [List.length_take]; omega
    have hl64 : (o.data.take k).length ≤ 64 := by rw [List.length_take]; omega
    refine F25_of ?_
    unfold k25
    repeat' first
      | simp -dsimp (disch := omega) only [↓rulesA, rulesB, rulesC, Int.reduceLT, nth, upd, put, storeN, AV.one, Nat.reduceBEq, Nat.reduceBNe, Int.reduceBEq, Int.reduceBNe, Int.reduceLE, Int.reduceEq, Int.reduceMod, Int.reduceNeg, boolBin, strBin, intBin, unA, fillA, ne_eq, reduceCtorEq, Nat.reduceAdd, Nat.reduceSub, Nat.reduceLeDiff, Nat.reduceLT, Nat.reduceEqDiff, Int.reduceToNat, eq_self, rulesT, bne_self_eq_false, mm_min, mm_max, buOf_some, nilCheck_vp, nilCheck_ptr, nilCheck_yld, nilCheck_func, Obj.g0, Obj.g1, Obj.g2, Obj.g3, Obj.g4, nm0, Obj.s1, Obj.s2, Obj.all, Obj.len, Obj.take, Obj.drop, Obj.sall, Ban.g0, Ban.g1, Ban.all, Ban.len, Ban.take, Ban.drop, Ban.sall, Opr.g0, Opr.g1, Opr.g2, Opr.g3, Opr.g4, Opr.all, Opr.len, Opr.take, Opr.drop, Opr.sall, Res.all, Res.len, Res.take, Res.sall, obj_hold, neb, nebb, no0, Oset3, Oset3b, text_size, text_cat, room0, room1, room2, sl0, thi, tlo, tlo2, tlohi, mm_min, hk, resL_three, three_some, hkk, e0, *]
      | (refine allK_intro fun n hn => ?_; try simp only [fresh_set] at hn)
      | (refine ifK_intro (fun h => ?_) (fun h => ?_) <;> (try simp only [decide_eq_true_eq, decide_eq_false_iff_not, Bool.not_eq_true', Bool.not_eq_false'] at h) <;> try (exfalso; (try simp only [beq_iff_eq, beq_eq_false_iff_ne, bne_iff_ne, bne_eq_false_iff_eq, ne_eq] at h); omega))
      | (refine keeps_sub (Mem.sub_set ?_) ?_; focus (simp [Mem.set_at, nomem, *]; done))
      | (refine keeps_stab ?_ ?_; focus ((repeat' first | exact stabK_nil _ _ | refine stabK_cons ?_ ?_ | (simp (disch := omega) only [quietA, Option.isSome_some, ↓rulesA, rulesB, rulesC, Int.reduceLT, nth, upd, put, storeN, AV.one, Nat.reduceBEq, Nat.reduceBNe, Int.reduceBEq, Int.reduceBNe, Int.reduceLE, Int.reduceEq, Int.reduceMod, Int.reduceNeg, boolBin, strBin, intBin, unA, fillA, ne_eq, reduceCtorEq, Nat.reduceAdd, Nat.reduceSub, Nat.reduceLeDiff, Nat.reduceLT, Nat.reduceEqDiff, Int.reduceToNat, eq_self, rulesT, bne_self_eq_false, mm_min, mm_max, buOf_some, nilCheck_vp, nilCheck_ptr, nilCheck_yld, nilCheck_func, Obj.g0, Obj.g1, Obj.g2, Obj.g3, Obj.g4, nm0, Obj.s1, Obj.s2, Obj.all, Obj.len, Obj.take, Obj.drop, Obj.sall, Ban.g0, Ban.g1, Ban.all, Ban.len, Ban.take, Ban.drop, Ban.sall, Opr.g0, Opr.g1, Opr.g2, Opr.g3, Opr.g4, Opr.all, Opr.len, Opr.take, Opr.drop, Opr.sall, Res.all, Res.len, Res.take, Res.sall, obj_hold, neb, nebb, no0, Oset3, Oset3b, text_size, text_cat, room0, room1, room2, sl0, thi, tlo, tlo2, tlohi, mm_min, hk, resL_three, three_some, hkk, e0, *]; done)); done))
      | (refine call_F (f11) (Seens.refl _ _) ?_)
      | (refine pure_F (f11) (Seens.refl _ _) ?_)
      | (refine call_F (f19) (Seens.refl _ _) ?_)
      | (refine pure_F (f19) (Seens.refl _ _) ?_)
      | (refine call_F (f50) (Seens.refl _ _) ?_)
      | (refine pure_F (f50) (Seens.refl _ _) ?_)
      | (refine call_F (F51 _) (Seens.refl _ _) ?_)
      | (refine pure_F (F51 _) (Seens.refl _ _) ?_)
    exact New.eq rfl rfl
  · have hZ : (o.data ++ zs ((k : Int) - o.data.length)).take k = o.data ++ zs ((k : Int) - o.data.length) := List.take_of_length_le (by rw [List.length_append, zs_len]; omega)
    rw [hZ]
    clear hZ
    have f50 : F Try.prog 50 [.val (.int .i64 ((k : Int) - (o.data.length : Nat)))] (.val (.string ⟨(zs ((k : Int) - (o.data.length : Nat))).toArray⟩)) := by
      have := F50 (k - o.data.length) (by omega)
      have e : ((k - o.data.length : Nat) : Int) = (k : Int) - (o.data.length : Nat) := by omega
      rw [e] at this
      exact this
    have z1 := zs_len ((k : Int) - o.data.length)
    generalize zs ((k : Int) - (o.data.length : Nat)) = Z at *
    have z4 : Z.length ≤ 64 := by rw [z1]; omega
    refine F25_of ?_
    unfold k25
    repeat' first
      | simp -dsimp (disch := omega) only [↓rulesA, rulesB, rulesC, Int.reduceLT, nth, upd, put, storeN, AV.one, Nat.reduceBEq, Nat.reduceBNe, Int.reduceBEq, Int.reduceBNe, Int.reduceLE, Int.reduceEq, Int.reduceMod, Int.reduceNeg, boolBin, strBin, intBin, unA, fillA, ne_eq, reduceCtorEq, Nat.reduceAdd, Nat.reduceSub, Nat.reduceLeDiff, Nat.reduceLT, Nat.reduceEqDiff, Int.reduceToNat, eq_self, rulesT, bne_self_eq_false, mm_min, mm_max, buOf_some, nilCheck_vp, nilCheck_ptr, nilCheck_yld, nilCheck_func, Obj.g0, Obj.g1, Obj.g2, Obj.g3, Obj.g4, nm0, Obj.s1, Obj.s2, Obj.all, Obj.len, Obj.take, Obj.drop, Obj.sall, Ban.g0, Ban.g1, Ban.all, Ban.len, Ban.take, Ban.drop, Ban.sall, Opr.g0, Opr.g1, Opr.g2, Opr.g3, Opr.g4, Opr.all, Opr.len, Opr.take, Opr.drop, Opr.sall, Res.all, Res.len, Res.take, Res.sall, obj_hold, neb, nebb, no0, Oset3, Oset3b, text_size, text_cat, room0, room1, room2, sl0, thi, tlo, tlo2, tlohi, mm_min, hk, resL_three, three_some, hkk, *]
      | (refine allK_intro fun n hn => ?_; try simp only [fresh_set] at hn)
      | (refine ifK_intro (fun h => ?_) (fun h => ?_) <;> (try simp only [decide_eq_true_eq, decide_eq_false_iff_not, Bool.not_eq_true', Bool.not_eq_false'] at h) <;> try (exfalso; (try simp only [beq_iff_eq, beq_eq_false_iff_ne, bne_iff_ne, bne_eq_false_iff_eq, ne_eq] at h); omega))
      | (refine keeps_sub (Mem.sub_set ?_) ?_; focus (simp [Mem.set_at, nomem, *]; done))
      | (refine keeps_stab ?_ ?_; focus ((repeat' first | exact stabK_nil _ _ | refine stabK_cons ?_ ?_ | (simp (disch := omega) only [quietA, Option.isSome_some, ↓rulesA, rulesB, rulesC, Int.reduceLT, nth, upd, put, storeN, AV.one, Nat.reduceBEq, Nat.reduceBNe, Int.reduceBEq, Int.reduceBNe, Int.reduceLE, Int.reduceEq, Int.reduceMod, Int.reduceNeg, boolBin, strBin, intBin, unA, fillA, ne_eq, reduceCtorEq, Nat.reduceAdd, Nat.reduceSub, Nat.reduceLeDiff, Nat.reduceLT, Nat.reduceEqDiff, Int.reduceToNat, eq_self, rulesT, bne_self_eq_false, mm_min, mm_max, buOf_some, nilCheck_vp, nilCheck_ptr, nilCheck_yld, nilCheck_func, Obj.g0, Obj.g1, Obj.g2, Obj.g3, Obj.g4, nm0, Obj.s1, Obj.s2, Obj.all, Obj.len, Obj.take, Obj.drop, Obj.sall, Ban.g0, Ban.g1, Ban.all, Ban.len, Ban.take, Ban.drop, Ban.sall, Opr.g0, Opr.g1, Opr.g2, Opr.g3, Opr.g4, Opr.all, Opr.len, Opr.take, Opr.drop, Opr.sall, Res.all, Res.len, Res.take, Res.sall, obj_hold, neb, nebb, no0, Oset3, Oset3b, text_size, text_cat, room0, room1, room2, sl0, thi, tlo, tlo2, tlohi, mm_min, hk, resL_three, three_some, hkk, *]; done)); done))
      | (refine call_F (f11) (Seens.refl _ _) ?_)
      | (refine pure_F (f11) (Seens.refl _ _) ?_)
      | (refine call_F (f19) (Seens.refl _ _) ?_)
      | (refine pure_F (f19) (Seens.refl _ _) ?_)
      | (refine call_F (f50) (Seens.refl _ _) ?_)
      | (refine pure_F (f50) (Seens.refl _ _) ?_)
      | (refine call_F (F51 _) (Seens.refl _ _) ?_)
      | (refine pure_F (F51 _) (Seens.refl _ _) ?_)
    exact New.eq rfl rfl
theorem F25_k3n (o : Obj) (who : Ban) (op : Opr) (hop : op.ok) (hdo : doOk who op = true) (hk : op.kind = 3) : F Try.prog 25 [.agg o.cells, .val (.bool false), .agg who.cells, .agg op.cells] (res25 (doS o false who op) (doR o false who op)) := by
  have hd2 : opOk op = true ∧ whoB who = true := by unfold doOk at hdo; simpa using hdo
  have f11 := F11 op hop
  have f19 := F19 who
  rw [hd2.1] at f11
  rw [hd2.2] at f19
  have eS : doS o false who op = actS ⟨noObj, false, who, op⟩ := if_pos hdo
  have eR : doR o false who op = actR ⟨noObj, false, who, op⟩ := if_pos hdo
  have aS : actS ⟨noObj, false, who, op⟩ = truncS ⟨noObj, false, who, op⟩ := by simp [actS, hk]
  have aR : actR ⟨noObj, false, who, op⟩ = sizeR (truncS ⟨noObj, false, who, op⟩) := by simp [actR, hk]
  rw [eS, eR, aS, aR]
  clear eS eR aS aR hdo
  obtain ⟨⟨u1, u2⟩, ⟨u3, u4⟩, u5⟩ := op_small hd2.1 (by omega)
  obtain ⟨k, hkk⟩ : ∃ k : Nat, op.num = k := ⟨op.num.toNat, by omega⟩
  have hts : truncS ⟨noObj, false, who, op⟩ = ⟨{ (⟨op.name, [], false, 0, 0⟩ : Obj) with data := ((⟨op.name, [], false, 0, 0⟩ : Obj).data ++ zs ((k : Int) - (⟨op.name, [], false, 0, 0⟩ : Obj).data.length)).take k }, true, who, op⟩ := by
    show (⟨{ (⟨op.name, [], false, 0, 0⟩ : Obj) with data := ((⟨op.name, [], false, 0, 0⟩ : Obj).data ++ zs (op.num - (⟨op.name, [], false, 0, 0⟩ : Obj).data.length)).take op.num.toNat }, true, who, op⟩ : Sheet) = _
    rw [hkk]; rfl
  rw [hts]
  clear hts
  have hZ : (([] : List UInt8) ++ zs ((k : Int) - (0 : Nat))).take k = zs ((k : Int)) := by
    rw [List.nil_append, show ((k : Int) - (0 : Nat)) = k by omega]; exact List.take_of_length_le (by rw [zs_len]; omega)
  rw [show ((⟨op.name, [], false, 0, 0⟩ : Obj).data ++ zs ((k : Int) - ((⟨op.name, [], false, 0, 0⟩ : Obj).data.length : Nat))).take k = zs (k : Int) from hZ]
  clear hZ
  have f50 := F50 k (by omega)
  have z1 := zs_len (k : Int)
  generalize zs (k : Int) = Z at *
  have e0 : (k : Int) - 0 = k := by omega
  have z4 : Z.length ≤ 64 := by rw [z1]; omega
  refine F25_of ?_
  unfold k25
  repeat' first
    | simp -dsimp (disch := omega) only [↓rulesA, rulesB, rulesC, Int.reduceLT, nth, upd, put, storeN, AV.one, Nat.reduceBEq, Nat.reduceBNe, Int.reduceBEq, Int.reduceBNe, Int.reduceLE, Int.reduceEq, Int.reduceMod, Int.reduceNeg, boolBin, strBin, intBin, unA, fillA, ne_eq, reduceCtorEq, Nat.reduceAdd, Nat.reduceSub, Nat.reduceLeDiff, Nat.reduceLT, Nat.reduceEqDiff, Int.reduceToNat, eq_self, rulesT, bne_self_eq_false, mm_min, mm_max, buOf_some, nilCheck_vp, nilCheck_ptr, nilCheck_yld, nilCheck_func, Obj.g0, Obj.g1, Obj.g2, Obj.g3, Obj.g4, nm0, Obj.s1, Obj.s2, Obj.all, Obj.len, Obj.take, Obj.drop, Obj.sall, Ban.g0, Ban.g1, Ban.all, Ban.len, Ban.take, Ban.drop, Ban.sall, Opr.g0, Opr.g1, Opr.g2, Opr.g3, Opr.g4, Opr.all, Opr.len, Opr.take, Opr.drop, Opr.sall, Res.all, Res.len, Res.take, Res.sall, obj_hold, neb, nebb, no0, Oset3, Oset3b, text_size, text_cat, room0, room1, room2, sl0, thi, tlo, tlo2, tlohi, mm_min, hk, resL_three, three_some, hkk, e0, *]
    | (refine allK_intro fun n hn => ?_; try simp only [fresh_set] at hn)
    | (refine ifK_intro (fun h => ?_) (fun h => ?_) <;> (try simp only [decide_eq_true_eq, decide_eq_false_iff_not, Bool.not_eq_true', Bool.not_eq_false'] at h) <;> try (exfalso; (try simp only [beq_iff_eq, beq_eq_false_iff_ne, bne_iff_ne, bne_eq_false_iff_eq, ne_eq] at h); omega))
    | (refine keeps_sub (Mem.sub_set ?_) ?_; focus (simp [Mem.set_at, nomem, *]; done))
    | (refine keeps_stab ?_ ?_; focus ((repeat' first | exact stabK_nil _ _ | refine stabK_cons ?_ ?_ | (simp (disch := omega) only [quietA, Option.isSome_some, ↓rulesA, rulesB, rulesC, Int.reduceLT, nth, upd, put, storeN, AV.one, Nat.reduceBEq, Nat.reduceBNe, Int.reduceBEq, Int.reduceBNe, Int.reduceLE, Int.reduceEq, Int.reduceMod, Int.reduceNeg, boolBin, strBin, intBin, unA, fillA, ne_eq, reduceCtorEq, Nat.reduceAdd, Nat.reduceSub, Nat.reduceLeDiff, Nat.reduceLT, Nat.reduceEqDiff, Int.reduceToNat, eq_self, rulesT, bne_self_eq_false, mm_min, mm_max, buOf_some, nilCheck_vp, nilCheck_ptr, nilCheck_yld, nilCheck_func, Obj.g0, Obj.g1, Obj.g2, Obj.g3, Obj.g4, nm0, Obj.s1, Obj.s2, Obj.all, Obj.len, Obj.take, Obj.drop, Obj.sall, Ban.g0, Ban.g1, Ban.all, Ban.len, Ban.take, Ban.drop, Ban.sall, Opr.g0, Opr.g1, Opr.g2, Opr.g3, Opr.g4, Opr.all, Opr.len, Opr.take, Opr.drop, Opr.sall, Res.all, Res.len, Res.take, Res.sall, obj_hold, neb, nebb, no0, Oset3, Oset3b, text_size, text_cat, room0, room1, room2, sl0, thi, tlo, tlo2, tlohi, mm_min, hk, resL_three, three_some, hkk, e0, *]; done)); done))
    | (refine call_F (f11) (Seens.refl _ _) ?_)
    | (refine pure_F (f11) (Seens.refl _ _) ?_)
    | (refine call_F (f19) (Seens.refl _ _) ?_)
    | (refine pure_F (f19) (Seens.refl _ _) ?_)
    | (refine call_F (f50) (Seens.refl _ _) ?_)
    | (refine pure_F (f50) (Seens.refl _ _) ?_)
    | (refine call_F (F51 _) (Seens.refl _ _) ?_)
    | (refine pure_F (F51 _) (Seens.refl _ _) ?_)
  have hz : Z.length = k := by omega
  subst hz
  exact New.eq rfl rfl
theorem F25_k4t (o : Obj) (who : Ban) (op : Opr) (hop : op.ok) (hd : o.data.length ≤ 64) (hdo : doOk who op = true) (hk : op.kind = 4) : F Try.prog 25 [.agg o.cells, .val (.bool true), .agg who.cells, .agg op.cells] (res25 (doS o true who op) (doR o true who op)) := by
  have hd2 : opOk op = true ∧ whoB who = true := by unfold doOk at hdo; simpa using hdo
  have f11 := F11 op hop
  have f19 := F19 who
  rw [hd2.1] at f11
  rw [hd2.2] at f19
  have eS : doS o true who op = actS ⟨o, true, who, op⟩ := if_pos hdo
  have eR : doR o true who op = actR ⟨o, true, who, op⟩ := if_pos hdo
  have aS : actS ⟨o, true, who, op⟩ = ⟨o, false, who, op⟩ := by simp [actS, hk]
  have aR : actR ⟨o, true, who, op⟩ = errR 0 := by simp [actR, hk]
  rw [eS, eR, aS, aR]
  clear eS eR aS aR hdo
  refine F25_of ?_
  unfold k25
  repeat' first
    | simp -dsimp (disch := omega) only [↓rulesA, rulesB, rulesC, Int.reduceLT, nth, upd, put, storeN, AV.one, Nat.reduceBEq, Nat.reduceBNe, Int.reduceBEq, Int.reduceBNe, Int.reduceLE, Int.reduceEq, Int.reduceMod, Int.reduceNeg, boolBin, strBin, intBin, unA, fillA, ne_eq, reduceCtorEq, Nat.reduceAdd, Nat.reduceSub, Nat.reduceLeDiff, Nat.reduceLT, Nat.reduceEqDiff, Int.reduceToNat, eq_self, rulesT, bne_self_eq_false, mm_min, mm_max, buOf_some, nilCheck_vp, nilCheck_ptr, nilCheck_yld, nilCheck_func, Obj.g0, Obj.g1, Obj.g2, Obj.g3, Obj.g4, nm0, Obj.s1, Obj.s2, Obj.all, Obj.len, Obj.take, Obj.drop, Obj.sall, Ban.g0, Ban.g1, Ban.all, Ban.len, Ban.take, Ban.drop, Ban.sall, Opr.g0, Opr.g1, Opr.g2, Opr.g3, Opr.g4, Opr.all, Opr.len, Opr.take, Opr.drop, Opr.sall, Res.all, Res.len, Res.take, Res.sall, obj_hold, neb, nebb, no0, Oset3, Oset3b, text_size, text_cat, room0, room1, room2, sl0, thi, tlo, tlo2, tlohi, mm_min, hk, resL_three, three_some, *]
    | (refine allK_intro fun n hn => ?_; try simp only [fresh_set] at hn)
    | (refine ifK_intro (fun h => ?_) (fun h => ?_) <;> (try simp only [decide_eq_true_eq, decide_eq_false_iff_not, Bool.not_eq_true', Bool.not_eq_false'] at h) <;> try (exfalso; (try simp only [beq_iff_eq, beq_eq_false_iff_ne, bne_iff_ne, bne_eq_false_iff_eq, ne_eq] at h); omega))
    | (refine keeps_sub (Mem.sub_set ?_) ?_; focus (simp [Mem.set_at, nomem, *]; done))
    | (refine keeps_stab ?_ ?_; focus ((repeat' first | exact stabK_nil _ _ | refine stabK_cons ?_ ?_ | (simp (disch := omega) only [quietA, Option.isSome_some, ↓rulesA, rulesB, rulesC, Int.reduceLT, nth, upd, put, storeN, AV.one, Nat.reduceBEq, Nat.reduceBNe, Int.reduceBEq, Int.reduceBNe, Int.reduceLE, Int.reduceEq, Int.reduceMod, Int.reduceNeg, boolBin, strBin, intBin, unA, fillA, ne_eq, reduceCtorEq, Nat.reduceAdd, Nat.reduceSub, Nat.reduceLeDiff, Nat.reduceLT, Nat.reduceEqDiff, Int.reduceToNat, eq_self, rulesT, bne_self_eq_false, mm_min, mm_max, buOf_some, nilCheck_vp, nilCheck_ptr, nilCheck_yld, nilCheck_func, Obj.g0, Obj.g1, Obj.g2, Obj.g3, Obj.g4, nm0, Obj.s1, Obj.s2, Obj.all, Obj.len, Obj.take, Obj.drop, Obj.sall, Ban.g0, Ban.g1, Ban.all, Ban.len, Ban.take, Ban.drop, Ban.sall, Opr.g0, Opr.g1, Opr.g2, Opr.g3, Opr.g4, Opr.all, Opr.len, Opr.take, Opr.drop, Opr.sall, Res.all, Res.len, Res.take, Res.sall, obj_hold, neb, nebb, no0, Oset3, Oset3b, text_size, text_cat, room0, room1, room2, sl0, thi, tlo, tlo2, tlohi, mm_min, hk, resL_three, three_some, *]; done)); done))
    | (refine call_F (f11) (Seens.refl _ _) ?_)
    | (refine pure_F (f11) (Seens.refl _ _) ?_)
    | (refine call_F (f19) (Seens.refl _ _) ?_)
    | (refine pure_F (f19) (Seens.refl _ _) ?_)
  exact New.eq rfl rfl
theorem F25_k6t (o : Obj) (who : Ban) (op : Opr) (hop : op.ok) (hd : o.data.length ≤ 64) (hdo : doOk who op = true) (hk : op.kind = 6) : F Try.prog 25 [.agg o.cells, .val (.bool true), .agg who.cells, .agg op.cells] (res25 (doS o true who op) (doR o true who op)) := by
  have hd2 : opOk op = true ∧ whoB who = true := by unfold doOk at hdo; simpa using hdo
  have f11 := F11 op hop
  have f19 := F19 who
  rw [hd2.1] at f11
  rw [hd2.2] at f19
  have eS : doS o true who op = actS ⟨o, true, who, op⟩ := if_pos hdo
  have eR : doR o true who op = actR ⟨o, true, who, op⟩ := if_pos hdo
  have aS : actS ⟨o, true, who, op⟩ = ⟨o, true, who, op⟩ := by simp [actS, hk]
  have aR : actR ⟨o, true, who, op⟩ = sizeR ⟨o, true, who, op⟩ := by simp [actR, hk]
  rw [eS, eR, aS, aR]
  clear eS eR aS aR hdo
  refine F25_of ?_
  unfold k25
  repeat' first
    | simp -dsimp (disch := omega) only [↓rulesA, rulesB, rulesC, Int.reduceLT, nth, upd, put, storeN, AV.one, Nat.reduceBEq, Nat.reduceBNe, Int.reduceBEq, Int.reduceBNe, Int.reduceLE, Int.reduceEq, Int.reduceMod, Int.reduceNeg, boolBin, strBin, intBin, unA, fillA, ne_eq, reduceCtorEq, Nat.reduceAdd, Nat.reduceSub, Nat.reduceLeDiff, Nat.reduceLT, Nat.reduceEqDiff, Int.reduceToNat, eq_self, rulesT, bne_self_eq_false, mm_min, mm_max, buOf_some, nilCheck_vp, nilCheck_ptr, nilCheck_yld, nilCheck_func, Obj.g0, Obj.g1, Obj.g2, Obj.g3, Obj.g4, nm0, Obj.s1, Obj.s2, Obj.all, Obj.len, Obj.take, Obj.drop, Obj.sall, Ban.g0, Ban.g1, Ban.all, Ban.len, Ban.take, Ban.drop, Ban.sall, Opr.g0, Opr.g1, Opr.g2, Opr.g3, Opr.g4, Opr.all, Opr.len, Opr.take, Opr.drop, Opr.sall, Res.all, Res.len, Res.take, Res.sall, obj_hold, neb, nebb, no0, Oset3, Oset3b, text_size, text_cat, room0, room1, room2, sl0, thi, tlo, tlo2, tlohi, mm_min, hk, resL_three, three_some, *]
    | (refine allK_intro fun n hn => ?_; try simp only [fresh_set] at hn)
    | (refine ifK_intro (fun h => ?_) (fun h => ?_) <;> (try simp only [decide_eq_true_eq, decide_eq_false_iff_not, Bool.not_eq_true', Bool.not_eq_false'] at h) <;> try (exfalso; (try simp only [beq_iff_eq, beq_eq_false_iff_ne, bne_iff_ne, bne_eq_false_iff_eq, ne_eq] at h); omega))
    | (refine keeps_sub (Mem.sub_set ?_) ?_; focus (simp [Mem.set_at, nomem, *]; done))
    | (refine keeps_stab ?_ ?_; focus ((repeat' first | exact stabK_nil _ _ | refine stabK_cons ?_ ?_ | (simp (disch := omega) only [quietA, Option.isSome_some, ↓rulesA, rulesB, rulesC, Int.reduceLT, nth, upd, put, storeN, AV.one, Nat.reduceBEq, Nat.reduceBNe, Int.reduceBEq, Int.reduceBNe, Int.reduceLE, Int.reduceEq, Int.reduceMod, Int.reduceNeg, boolBin, strBin, intBin, unA, fillA, ne_eq, reduceCtorEq, Nat.reduceAdd, Nat.reduceSub, Nat.reduceLeDiff, Nat.reduceLT, Nat.reduceEqDiff, Int.reduceToNat, eq_self, rulesT, bne_self_eq_false, mm_min, mm_max, buOf_some, nilCheck_vp, nilCheck_ptr, nilCheck_yld, nilCheck_func, Obj.g0, Obj.g1, Obj.g2, Obj.g3, Obj.g4, nm0, Obj.s1, Obj.s2, Obj.all, Obj.len, Obj.take, Obj.drop, Obj.sall, Ban.g0, Ban.g1, Ban.all, Ban.len, Ban.take, Ban.drop, Ban.sall, Opr.g0, Opr.g1, Opr.g2, Opr.g3, Opr.g4, Opr.all, Opr.len, Opr.take, Opr.drop, Opr.sall, Res.all, Res.len, Res.take, Res.sall, obj_hold, neb, nebb, no0, Oset3, Oset3b, text_size, text_cat, room0, room1, room2, sl0, thi, tlo, tlo2, tlohi, mm_min, hk, resL_three, three_some, *]; done)); done))
    | (refine call_F (f11) (Seens.refl _ _) ?_)
    | (refine pure_F (f11) (Seens.refl _ _) ?_)
    | (refine call_F (f19) (Seens.refl _ _) ?_)
    | (refine pure_F (f19) (Seens.refl _ _) ?_)
    | (refine call_F (F51 _) (Seens.refl _ _) ?_)
    | (refine pure_F (F51 _) (Seens.refl _ _) ?_)
  exact New.eq rfl rfl
theorem F25_k10t (o : Obj) (who : Ban) (op : Opr) (hop : op.ok) (hd : o.data.length ≤ 64) (hdo : doOk who op = true) (hk : op.kind = 10) : F Try.prog 25 [.agg o.cells, .val (.bool true), .agg who.cells, .agg op.cells] (res25 (doS o true who op) (doR o true who op)) := by
  have hd2 : opOk op = true ∧ whoB who = true := by unfold doOk at hdo; simpa using hdo
  have f11 := F11 op hop
  have f19 := F19 who
  rw [hd2.1] at f11
  rw [hd2.2] at f19
  have eS : doS o true who op = actS ⟨o, true, who, op⟩ := if_pos hdo
  have eR : doR o true who op = actR ⟨o, true, who, op⟩ := if_pos hdo
  have aS : actS ⟨o, true, who, op⟩ = ⟨o, true, who, op⟩ := by simp [actS, hk]
  have aR : actR ⟨o, true, who, op⟩ = errR 0 := by simp [actR, hk]
  rw [eS, eR, aS, aR]
  clear eS eR aS aR hdo
  refine F25_of ?_
  unfold k25
  repeat' first
    | simp -dsimp (disch := omega) only [↓rulesA, rulesB, rulesC, Int.reduceLT, nth, upd, put, storeN, AV.one, Nat.reduceBEq, Nat.reduceBNe, Int.reduceBEq, Int.reduceBNe, Int.reduceLE, Int.reduceEq, Int.reduceMod, Int.reduceNeg, boolBin, strBin, intBin, unA, fillA, ne_eq, reduceCtorEq, Nat.reduceAdd, Nat.reduceSub, Nat.reduceLeDiff, Nat.reduceLT, Nat.reduceEqDiff, Int.reduceToNat, eq_self, rulesT, bne_self_eq_false, mm_min, mm_max, buOf_some, nilCheck_vp, nilCheck_ptr, nilCheck_yld, nilCheck_func, Obj.g0, Obj.g1, Obj.g2, Obj.g3, Obj.g4, nm0, Obj.s1, Obj.s2, Obj.all, Obj.len, Obj.take, Obj.drop, Obj.sall, Ban.g0, Ban.g1, Ban.all, Ban.len, Ban.take, Ban.drop, Ban.sall, Opr.g0, Opr.g1, Opr.g2, Opr.g3, Opr.g4, Opr.all, Opr.len, Opr.take, Opr.drop, Opr.sall, Res.all, Res.len, Res.take, Res.sall, obj_hold, neb, nebb, no0, Oset3, Oset3b, text_size, text_cat, room0, room1, room2, sl0, thi, tlo, tlo2, tlohi, mm_min, hk, resL_three, three_some, *]
    | (refine allK_intro fun n hn => ?_; try simp only [fresh_set] at hn)
    | (refine ifK_intro (fun h => ?_) (fun h => ?_) <;> (try simp only [decide_eq_true_eq, decide_eq_false_iff_not, Bool.not_eq_true', Bool.not_eq_false'] at h) <;> try (exfalso; (try simp only [beq_iff_eq, beq_eq_false_iff_ne, bne_iff_ne, bne_eq_false_iff_eq, ne_eq] at h); omega))
    | (refine keeps_sub (Mem.sub_set ?_) ?_; focus (simp [Mem.set_at, nomem, *]; done))
    | (refine keeps_stab ?_ ?_; focus ((repeat' first | exact stabK_nil _ _ | refine stabK_cons ?_ ?_ | (simp (disch := omega) only [quietA, Option.isSome_some, ↓rulesA, rulesB, rulesC, Int.reduceLT, nth, upd, put, storeN, AV.one, Nat.reduceBEq, Nat.reduceBNe, Int.reduceBEq, Int.reduceBNe, Int.reduceLE, Int.reduceEq, Int.reduceMod, Int.reduceNeg, boolBin, strBin, intBin, unA, fillA, ne_eq, reduceCtorEq, Nat.reduceAdd, Nat.reduceSub, Nat.reduceLeDiff, Nat.reduceLT, Nat.reduceEqDiff, Int.reduceToNat, eq_self, rulesT, bne_self_eq_false, mm_min, mm_max, buOf_some, nilCheck_vp, nilCheck_ptr, nilCheck_yld, nilCheck_func, Obj.g0, Obj.g1, Obj.g2, Obj.g3, Obj.g4, nm0, Obj.s1, Obj.s2, Obj.all, Obj.len, Obj.take, Obj.drop, Obj.sall, Ban.g0, Ban.g1, Ban.all, Ban.len, Ban.take, Ban.drop, Ban.sall, Opr.g0, Opr.g1, Opr.g2, Opr.g3, Opr.g4, Opr.all, Opr.len, Opr.take, Opr.drop, Opr.sall, Res.all, Res.len, Res.take, Res.sall, obj_hold, neb, nebb, no0, Oset3, Oset3b, text_size, text_cat, room0, room1, room2, sl0, thi, tlo, tlo2, tlohi, mm_min, hk, resL_three, three_some, *]; done)); done))
    | (refine call_F (f11) (Seens.refl _ _) ?_)
    | (refine pure_F (f11) (Seens.refl _ _) ?_)
    | (refine call_F (f19) (Seens.refl _ _) ?_)
    | (refine pure_F (f19) (Seens.refl _ _) ?_)
  exact New.eq rfl rfl
theorem F25_k10n (o : Obj) (who : Ban) (op : Opr) (hop : op.ok) (hdo : doOk who op = true) (hk : op.kind = 10) : F Try.prog 25 [.agg o.cells, .val (.bool false), .agg who.cells, .agg op.cells] (res25 (doS o false who op) (doR o false who op)) := by
  have hd2 : opOk op = true ∧ whoB who = true := by unfold doOk at hdo; simpa using hdo
  have f11 := F11 op hop
  have f19 := F19 who
  rw [hd2.1] at f11
  rw [hd2.2] at f19
  have eS : doS o false who op = actS ⟨noObj, false, who, op⟩ := if_pos hdo
  have eR : doR o false who op = actR ⟨noObj, false, who, op⟩ := if_pos hdo
  have aS : actS ⟨noObj, false, who, op⟩ = ⟨noObj, false, who, op⟩ := by simp [actS, hk]
  have aR : actR ⟨noObj, false, who, op⟩ = errR 0 := by simp [actR, hk]
  rw [eS, eR, aS, aR]
  clear eS eR aS aR hdo
  refine F25_of ?_
  unfold k25
  repeat' first
    | simp -dsimp (disch := omega) only [↓rulesA, rulesB, rulesC, Int.reduceLT, nth, upd, put, storeN, AV.one, Nat.reduceBEq, Nat.reduceBNe, Int.reduceBEq, Int.reduceBNe, Int.reduceLE, Int.reduceEq, Int.reduceMod, Int.reduceNeg, boolBin, strBin, intBin, unA, fillA, ne_eq, reduceCtorEq, Nat.reduceAdd, Nat.reduceSub, Nat.reduceLeDiff, Nat.reduceLT, Nat.reduceEqDiff, Int.reduceToNat, eq_self, rulesT, bne_self_eq_false, mm_min, mm_max, buOf_some, nilCheck_vp, nilCheck_ptr, nilCheck_yld, nilCheck_func, Obj.g0, Obj.g1, Obj.g2, Obj.g3, Obj.g4, nm0, Obj.s1, Obj.s2, Obj.all, Obj.len, Obj.take, Obj.drop, Obj.sall, Ban.g0, Ban.g1, Ban.all, Ban.len, Ban.take, Ban.drop, Ban.sall, Opr.g0, Opr.g1, Opr.g2, Opr.g3, Opr.g4, Opr.all, Opr.len, Opr.take, Opr.drop, Opr.sall, Res.all, Res.len, Res.take, Res.sall, obj_hold, neb, nebb, no0, Oset3, Oset3b, text_size, text_cat, room0, room1, room2, sl0, thi, tlo, tlo2, tlohi, mm_min, hk, resL_three, three_some, *]
    | (refine allK_intro fun n hn => ?_; try simp only [fresh_set] at hn)
    | (refine ifK_intro (fun h => ?_) (fun h => ?_) <;> (try simp only [decide_eq_true_eq, decide_eq_false_iff_not, Bool.not_eq_true', Bool.not_eq_false'] at h) <;> try (exfalso; (try simp only [beq_iff_eq, beq_eq_false_iff_ne, bne_iff_ne, bne_eq_false_iff_eq, ne_eq] at h); omega))
    | (refine keeps_sub (Mem.sub_set ?_) ?_; focus (simp [Mem.set_at, nomem, *]; done))
    | (refine keeps_stab ?_ ?_; focus ((repeat' first | exact stabK_nil _ _ | refine stabK_cons ?_ ?_ | (simp (disch := omega) only [quietA, Option.isSome_some, ↓rulesA, rulesB, rulesC, Int.reduceLT, nth, upd, put, storeN, AV.one, Nat.reduceBEq, Nat.reduceBNe, Int.reduceBEq, Int.reduceBNe, Int.reduceLE, Int.reduceEq, Int.reduceMod, Int.reduceNeg, boolBin, strBin, intBin, unA, fillA, ne_eq, reduceCtorEq, Nat.reduceAdd, Nat.reduceSub, Nat.reduceLeDiff, Nat.reduceLT, Nat.reduceEqDiff, Int.reduceToNat, eq_self, rulesT, bne_self_eq_false, mm_min, mm_max, buOf_some, nilCheck_vp, nilCheck_ptr, nilCheck_yld, nilCheck_func, Obj.g0, Obj.g1, Obj.g2, Obj.g3, Obj.g4, nm0, Obj.s1, Obj.s2, Obj.all, Obj.len, Obj.take, Obj.drop, Obj.sall, Ban.g0, Ban.g1, Ban.all, Ban.len, Ban.take, Ban.drop, Ban.sall, Opr.g0, Opr.g1, Opr.g2, Opr.g3, Opr.g4, Opr.all, Opr.len, Opr.take, Opr.drop, Opr.sall, Res.all, Res.len, Res.take, Res.sall, obj_hold, neb, nebb, no0, Oset3, Oset3b, text_size, text_cat, room0, room1, room2, sl0, thi, tlo, tlo2, tlohi, mm_min, hk, resL_three, three_some, *]; done)); done))
    | (refine call_F (f11) (Seens.refl _ _) ?_)
    | (refine pure_F (f11) (Seens.refl _ _) ?_)
    | (refine call_F (f19) (Seens.refl _ _) ?_)
    | (refine pure_F (f19) (Seens.refl _ _) ?_)
  exact New.eq rfl rfl
theorem F25_k7t (o : Obj) (who : Ban) (op : Opr) (hop : op.ok) (hd : o.data.length ≤ 64) (hdo : doOk who op = true) (hk : op.kind = 7) : F Try.prog 25 [.agg o.cells, .val (.bool true), .agg who.cells, .agg op.cells] (res25 (doS o true who op) (doR o true who op)) := by
  have hd2 : opOk op = true ∧ whoB who = true := by unfold doOk at hdo; simpa using hdo
  have f11 := F11 op hop
  have f19 := F19 who
  rw [hd2.1] at f11
  rw [hd2.2] at f19
  have eS : doS o true who op = actS ⟨o, true, who, op⟩ := if_pos hdo
  have eR : doR o true who op = actR ⟨o, true, who, op⟩ := if_pos hdo
  have aS : actS ⟨o, true, who, op⟩ = lockS ⟨o, true, who, op⟩ := by simp [actS, hk]
  have aR : actR ⟨o, true, who, op⟩ = lockR ⟨o, true, who, op⟩ := by simp [actR, hk]
  rw [eS, eR, aS, aR]
  clear eS eR aS aR hdo
  have hL : lockS ⟨o, true, who, op⟩ = if o.locked = true ∧ (⟨o.client, o.inst⟩ : Ban) ≠ who then ⟨o, true, who, op⟩ else ⟨{ o with locked := true, client := who.client, inst := who.inst }, true, who, op⟩ := by
    unfold lockS
    simp [mk0]
  have hR : lockR ⟨o, true, who, op⟩ = if o.locked = true ∧ (⟨o.client, o.inst⟩ : Ban) ≠ who then ⟨29, o.client, o.inst, []⟩ else sizeR ⟨o, true, who, op⟩ := by
    unfold lockR
    simp [mk0]
  rw [hL, hR]
  clear hL hR
  by_cases hl : o.locked = true
  · by_cases hw : (⟨o.client, o.inst⟩ : Ban) = who
    · rw [if_neg (fun c => c.2 hw), if_neg (fun c => c.2 hw)]
      refine F25_of ?_
      unfold k25
      repeat' first
        | simp -dsimp (disch := omega) only [↓rulesA, rulesB, rulesC, Int.reduceLT, nth, upd, put, storeN, AV.one, Nat.reduceBEq, Nat.reduceBNe, Int.reduceBEq, Int.reduceBNe, Int.reduceLE, Int.reduceEq, Int.reduceMod, Int.reduceNeg, boolBin, strBin, intBin, unA, fillA, ne_eq, reduceCtorEq, Nat.reduceAdd, Nat.reduceSub, Nat.reduceLeDiff, Nat.reduceLT, Nat.reduceEqDiff, Int.reduceToNat, eq_self, rulesT, bne_self_eq_false, mm_min, mm_max, buOf_some, nilCheck_vp, nilCheck_ptr, nilCheck_yld, nilCheck_func, Obj.g0, Obj.g1, Obj.g2, Obj.g3, Obj.g4, nm0, Obj.s1, Obj.s2, Obj.all, Obj.len, Obj.take, Obj.drop, Obj.sall, Ban.g0, Ban.g1, Ban.all, Ban.len, Ban.take, Ban.drop, Ban.sall, Opr.g0, Opr.g1, Opr.g2, Opr.g3, Opr.g4, Opr.all, Opr.len, Opr.take, Opr.drop, Opr.sall, Res.all, Res.len, Res.take, Res.sall, obj_hold, neb, nebb, no0, Oset3, Oset3b, text_size, text_cat, room0, room1, room2, sl0, thi, tlo, tlo2, tlohi, mm_min, hk, resL_three, three_some, *]
        | (refine allK_intro fun n hn => ?_; try simp only [fresh_set] at hn)
        | (refine ifK_intro (fun h => ?_) (fun h => ?_) <;> (try simp only [decide_eq_true_eq, decide_eq_false_iff_not, Bool.not_eq_true', Bool.not_eq_false'] at h) <;> try (exfalso; (try simp only [beq_iff_eq, beq_eq_false_iff_ne, bne_iff_ne, bne_eq_false_iff_eq, ne_eq] at h); omega))
        | (refine keeps_sub (Mem.sub_set ?_) ?_; focus (simp [Mem.set_at, nomem, *]; done))
        | (refine keeps_stab ?_ ?_; focus ((repeat' first | exact stabK_nil _ _ | refine stabK_cons ?_ ?_ | (simp (disch := omega) only [quietA, Option.isSome_some, ↓rulesA, rulesB, rulesC, Int.reduceLT, nth, upd, put, storeN, AV.one, Nat.reduceBEq, Nat.reduceBNe, Int.reduceBEq, Int.reduceBNe, Int.reduceLE, Int.reduceEq, Int.reduceMod, Int.reduceNeg, boolBin, strBin, intBin, unA, fillA, ne_eq, reduceCtorEq, Nat.reduceAdd, Nat.reduceSub, Nat.reduceLeDiff, Nat.reduceLT, Nat.reduceEqDiff, Int.reduceToNat, eq_self, rulesT, bne_self_eq_false, mm_min, mm_max, buOf_some, nilCheck_vp, nilCheck_ptr, nilCheck_yld, nilCheck_func, Obj.g0, Obj.g1, Obj.g2, Obj.g3, Obj.g4, nm0, Obj.s1, Obj.s2, Obj.all, Obj.len, Obj.take, Obj.drop, Obj.sall, Ban.g0, Ban.g1, Ban.all, Ban.len, Ban.take, Ban.drop, Ban.sall, Opr.g0, Opr.g1, Opr.g2, Opr.g3, Opr.g4, Opr.all, Opr.len, Opr.take, Opr.drop, Opr.sall, Res.all, Res.len, Res.take, Res.sall, obj_hold, neb, nebb, no0, Oset3, Oset3b, text_size, text_cat, room0, room1, room2, sl0, thi, tlo, tlo2, tlohi, mm_min, hk, resL_three, three_some, *]; done)); done))
        | (refine call_F (f11) (Seens.refl _ _) ?_)
        | (refine pure_F (f11) (Seens.refl _ _) ?_)
        | (refine call_F (f19) (Seens.refl _ _) ?_)
        | (refine pure_F (f19) (Seens.refl _ _) ?_)
        | (refine call_F (F51 _) (Seens.refl _ _) ?_)
        | (refine pure_F (F51 _) (Seens.refl _ _) ?_)
      exact New.eq rfl rfl
    · rw [if_pos ⟨hl, hw⟩, if_pos ⟨hl, hw⟩]
      refine F25_of ?_
      unfold k25
      repeat' first
        | simp -dsimp (disch := omega) only [↓rulesA, rulesB, rulesC, Int.reduceLT, nth, upd, put, storeN, AV.one, Nat.reduceBEq, Nat.reduceBNe, Int.reduceBEq, Int.reduceBNe, Int.reduceLE, Int.reduceEq, Int.reduceMod, Int.reduceNeg, boolBin, strBin, intBin, unA, fillA, ne_eq, reduceCtorEq, Nat.reduceAdd, Nat.reduceSub, Nat.reduceLeDiff, Nat.reduceLT, Nat.reduceEqDiff, Int.reduceToNat, eq_self, rulesT, bne_self_eq_false, mm_min, mm_max, buOf_some, nilCheck_vp, nilCheck_ptr, nilCheck_yld, nilCheck_func, Obj.g0, Obj.g1, Obj.g2, Obj.g3, Obj.g4, nm0, Obj.s1, Obj.s2, Obj.all, Obj.len, Obj.take, Obj.drop, Obj.sall, Ban.g0, Ban.g1, Ban.all, Ban.len, Ban.take, Ban.drop, Ban.sall, Opr.g0, Opr.g1, Opr.g2, Opr.g3, Opr.g4, Opr.all, Opr.len, Opr.take, Opr.drop, Opr.sall, Res.all, Res.len, Res.take, Res.sall, obj_hold, neb, nebb, no0, Oset3, Oset3b, text_size, text_cat, room0, room1, room2, sl0, thi, tlo, tlo2, tlohi, mm_min, hk, resL_three, three_some, *]
        | (refine allK_intro fun n hn => ?_; try simp only [fresh_set] at hn)
        | (refine ifK_intro (fun h => ?_) (fun h => ?_) <;> (try simp only [decide_eq_true_eq, decide_eq_false_iff_not, Bool.not_eq_true', Bool.not_eq_false'] at h) <;> try (exfalso; (try simp only [beq_iff_eq, beq_eq_false_iff_ne, bne_iff_ne, bne_eq_false_iff_eq, ne_eq] at h); omega))
        | (refine keeps_sub (Mem.sub_set ?_) ?_; focus (simp [Mem.set_at, nomem, *]; done))
        | (refine keeps_stab ?_ ?_; focus ((repeat' first | exact stabK_nil _ _ | refine stabK_cons ?_ ?_ | (simp (disch := omega) only [quietA, Option.isSome_some, ↓rulesA, rulesB, rulesC, Int.reduceLT, nth, upd, put, storeN, AV.one, Nat.reduceBEq, Nat.reduceBNe, Int.reduceBEq, Int.reduceBNe, Int.reduceLE, Int.reduceEq, Int.reduceMod, Int.reduceNeg, boolBin, strBin, intBin, unA, fillA, ne_eq, reduceCtorEq, Nat.reduceAdd, Nat.reduceSub, Nat.reduceLeDiff, Nat.reduceLT, Nat.reduceEqDiff, Int.reduceToNat, eq_self, rulesT, bne_self_eq_false, mm_min, mm_max, buOf_some, nilCheck_vp, nilCheck_ptr, nilCheck_yld, nilCheck_func, Obj.g0, Obj.g1, Obj.g2, Obj.g3, Obj.g4, nm0, Obj.s1, Obj.s2, Obj.all, Obj.len, Obj.take, Obj.drop, Obj.sall, Ban.g0, Ban.g1, Ban.all, Ban.len, Ban.take, Ban.drop, Ban.sall, Opr.g0, Opr.g1, Opr.g2, Opr.g3, Opr.g4, Opr.all, Opr.len, Opr.take, Opr.drop, Opr.sall, Res.all, Res.len, Res.take, Res.sall, obj_hold, neb, nebb, no0, Oset3, Oset3b, text_size, text_cat, room0, room1, room2, sl0, thi, tlo, tlo2, tlohi, mm_min, hk, resL_three, three_some, *]; done)); done))
        | (refine call_F (f11) (Seens.refl _ _) ?_)
        | (refine pure_F (f11) (Seens.refl _ _) ?_)
        | (refine call_F (f19) (Seens.refl _ _) ?_)
        | (refine pure_F (f19) (Seens.refl _ _) ?_)
      exact New.eq rfl rfl
  · have hl' : o.locked = false := by simpa using hl
    rw [if_neg (fun c => hl c.1), if_neg (fun c => hl c.1)]
    clear hl
    refine F25_of ?_
    unfold k25
    repeat' first
      | simp -dsimp (disch := omega) only [↓rulesA, rulesB, rulesC, Int.reduceLT, nth, upd, put, storeN, AV.one, Nat.reduceBEq, Nat.reduceBNe, Int.reduceBEq, Int.reduceBNe, Int.reduceLE, Int.reduceEq, Int.reduceMod, Int.reduceNeg, boolBin, strBin, intBin, unA, fillA, ne_eq, reduceCtorEq, Nat.reduceAdd, Nat.reduceSub, Nat.reduceLeDiff, Nat.reduceLT, Nat.reduceEqDiff, Int.reduceToNat, eq_self, rulesT, bne_self_eq_false, mm_min, mm_max, buOf_some, nilCheck_vp, nilCheck_ptr, nilCheck_yld, nilCheck_func, Obj.g0, Obj.g1, Obj.g2, Obj.g3, Obj.g4, nm0, Obj.s1, Obj.s2, Obj.all, Obj.len, Obj.take, Obj.drop, Obj.sall, Ban.g0, Ban.g1, Ban.all, Ban.len, Ban.take, Ban.drop, Ban.sall, Opr.g0, Opr.g1, Opr.g2, Opr.g3, Opr.g4, Opr.all, Opr.len, Opr.take, Opr.drop, Opr.sall, Res.all, Res.len, Res.take, Res.sall, obj_hold, neb, nebb, no0, Oset3, Oset3b, text_size, text_cat, room0, room1, room2, sl0, thi, tlo, tlo2, tlohi, mm_min, hk, resL_three, three_some, *]
      | (refine allK_intro fun n hn => ?_; try simp only [fresh_set] at hn)
      | (refine ifK_intro (fun h => ?_) (fun h => ?_) <;> (try simp only [decide_eq_true_eq, decide_eq_false_iff_not, Bool.not_eq_true', Bool.not_eq_false'] at h) <;> try (exfalso; (try simp only [beq_iff_eq, beq_eq_false_iff_ne, bne_iff_ne, bne_eq_false_iff_eq, ne_eq] at h); omega))
      | (refine keeps_sub (Mem.sub_set ?_) ?_; focus (simp [Mem.set_at, nomem, *]; done))
      | (refine keeps_stab ?_ ?_; focus ((repeat' first | exact stabK_nil _ _ | refine stabK_cons ?_ ?_ | (simp (disch := omega) only [quietA, Option.isSome_some, ↓rulesA, rulesB, rulesC, Int.reduceLT, nth, upd, put, storeN, AV.one, Nat.reduceBEq, Nat.reduceBNe, Int.reduceBEq, Int.reduceBNe, Int.reduceLE, Int.reduceEq, Int.reduceMod, Int.reduceNeg, boolBin, strBin, intBin, unA, fillA, ne_eq, reduceCtorEq, Nat.reduceAdd, Nat.reduceSub, Nat.reduceLeDiff, Nat.reduceLT, Nat.reduceEqDiff, Int.reduceToNat, eq_self, rulesT, bne_self_eq_false, mm_min, mm_max, buOf_some, nilCheck_vp, nilCheck_ptr, nilCheck_yld, nilCheck_func, Obj.g0, Obj.g1, Obj.g2, Obj.g3, Obj.g4, nm0, Obj.s1, Obj.s2, Obj.all, Obj.len, Obj.take, Obj.drop, Obj.sall, Ban.g0, Ban.g1, Ban.all, Ban.len, Ban.take, Ban.drop, Ban.sall, Opr.g0, Opr.g1, Opr.g2, Opr.g3, Opr.g4, Opr.all, Opr.len, Opr.take, Opr.drop, Opr.sall, Res.all, Res.len, Res.take, Res.sall, obj_hold, neb, nebb, no0, Oset3, Oset3b, text_size, text_cat, room0, room1, room2, sl0, thi, tlo, tlo2, tlohi, mm_min, hk, resL_three, three_some, *]; done)); done))
      | (refine call_F (f11) (Seens.refl _ _) ?_)
      | (refine pure_F (f11) (Seens.refl _ _) ?_)
      | (refine call_F (f19) (Seens.refl _ _) ?_)
      | (refine pure_F (f19) (Seens.refl _ _) ?_)
      | (refine call_F (F51 _) (Seens.refl _ _) ?_)
      | (refine pure_F (F51 _) (Seens.refl _ _) ?_)
    exact New.eq rfl rfl
theorem F25_k7n (o : Obj) (who : Ban) (op : Opr) (hop : op.ok) (hdo : doOk who op = true) (hk : op.kind = 7) : F Try.prog 25 [.agg o.cells, .val (.bool false), .agg who.cells, .agg op.cells] (res25 (doS o false who op) (doR o false who op)) := by
  have hd2 : opOk op = true ∧ whoB who = true := by unfold doOk at hdo; simpa using hdo
  have f11 := F11 op hop
  have f19 := F19 who
  rw [hd2.1] at f11
  rw [hd2.2] at f19
  have eS : doS o false who op = actS ⟨noObj, false, who, op⟩ := if_pos hdo
  have eR : doR o false who op = actR ⟨noObj, false, who, op⟩ := if_pos hdo
  have aS : actS ⟨noObj, false, who, op⟩ = lockS ⟨noObj, false, who, op⟩ := by simp [actS, hk]
  have aR : actR ⟨noObj, false, who, op⟩ = lockR ⟨noObj, false, who, op⟩ := by simp [actR, hk]
  rw [eS, eR, aS, aR]
  clear eS eR aS aR hdo
  refine F25_of ?_
  unfold k25
  repeat' first
    | simp -dsimp (disch := omega) only [↓rulesA, rulesB, rulesC, Int.reduceLT, nth, upd, put, storeN, AV.one, Nat.reduceBEq, Nat.reduceBNe, Int.reduceBEq, Int.reduceBNe, Int.reduceLE, Int.reduceEq, Int.reduceMod, Int.reduceNeg, boolBin, strBin, intBin, unA, fillA, ne_eq, reduceCtorEq, Nat.reduceAdd, Nat.reduceSub, Nat.reduceLeDiff, Nat.reduceLT, Nat.reduceEqDiff, Int.reduceToNat, eq_self, rulesT, bne_self_eq_false, mm_min, mm_max, buOf_some, nilCheck_vp, nilCheck_ptr, nilCheck_yld, nilCheck_func, Obj.g0, Obj.g1, Obj.g2, Obj.g3, Obj.g4, nm0, Obj.s1, Obj.s2, Obj.all, Obj.len, Obj.take, Obj.drop, Obj.sall, Ban.g0, Ban.g1, Ban.all, Ban.len, Ban.take, Ban.drop, Ban.sall, Opr.g0, Opr.g1, Opr.g2, Opr.g3, Opr.g4, Opr.all, Opr.len, Opr.take, Opr.drop, Opr.sall, Res.all, Res.len, Res.take, Res.sall, obj_hold, neb, nebb, no0, Oset3, Oset3b, text_size, text_cat, room0, room1, room2, sl0, thi, tlo, tlo2, tlohi, mm_min, hk, resL_three, three_some, *]
    | (refine allK_intro fun n hn => ?_; try simp only [fresh_set] at hn)
    | (refine ifK_intro (fun h => ?_) (fun h => ?_) <;> (try simp only [decide_eq_true_eq, decide_eq_false_iff_not, Bool.not_eq_true', Bool.not_eq_false'] at h) <;> try (exfalso; (try simp only [beq_iff_eq, beq_eq_false_iff_ne, bne_iff_ne, bne_eq_false_iff_eq, ne_eq] at h); omega))
    | (refine keeps_sub (Mem.sub_set ?_) ?_; focus (simp [Mem.set_at, nomem, *]; done))
    | (refine keeps_stab ?_ ?_; focus ((repeat' first | exact stabK_nil _ _ | refine stabK_cons ?_ ?_ | (simp (disch := omega) only [quietA, Option.isSome_some, ↓rulesA, rulesB, rulesC, Int.reduceLT, nth, upd, put, storeN, AV.one, Nat.reduceBEq, Nat.reduceBNe, Int.reduceBEq, Int.reduceBNe, Int.reduceLE, Int.reduceEq, Int.reduceMod, Int.reduceNeg, boolBin, strBin, intBin, unA, fillA, ne_eq, reduceCtorEq, Nat.reduceAdd, Nat.reduceSub, Nat.reduceLeDiff, Nat.reduceLT, Nat.reduceEqDiff, Int.reduceToNat, eq_self, rulesT, bne_self_eq_false, mm_min, mm_max, buOf_some, nilCheck_vp, nilCheck_ptr, nilCheck_yld, nilCheck_func, Obj.g0, Obj.g1, Obj.g2, Obj.g3, Obj.g4, nm0, Obj.s1, Obj.s2, Obj.all, Obj.len, Obj.take, Obj.drop, Obj.sall, Ban.g0, Ban.g1, Ban.all, Ban.len, Ban.take, Ban.drop, Ban.sall, Opr.g0, Opr.g1, Opr.g2, Opr.g3, Opr.g4, Opr.all, Opr.len, Opr.take, Opr.drop, Opr.sall, Res.all, Res.len, Res.take, Res.sall, obj_hold, neb, nebb, no0, Oset3, Oset3b, text_size, text_cat, room0, room1, room2, sl0, thi, tlo, tlo2, tlohi, mm_min, hk, resL_three, three_some, *]; done)); done))
    | (refine call_F (f11) (Seens.refl _ _) ?_)
    | (refine pure_F (f11) (Seens.refl _ _) ?_)
    | (refine call_F (f19) (Seens.refl _ _) ?_)
    | (refine pure_F (f19) (Seens.refl _ _) ?_)
    | (refine call_F (F51 _) (Seens.refl _ _) ?_)
    | (refine pure_F (F51 _) (Seens.refl _ _) ?_)
  exact New.eq rfl rfl
theorem F25_k8t (o : Obj) (who : Ban) (op : Opr) (hop : op.ok) (hd : o.data.length ≤ 64) (hdo : doOk who op = true) (hk : op.kind = 8) : F Try.prog 25 [.agg o.cells, .val (.bool true), .agg who.cells, .agg op.cells] (res25 (doS o true who op) (doR o true who op)) := by
  have hd2 : opOk op = true ∧ whoB who = true := by unfold doOk at hdo; simpa using hdo
  have f11 := F11 op hop
  have f19 := F19 who
  rw [hd2.1] at f11
  rw [hd2.2] at f19
  have eS : doS o true who op = actS ⟨o, true, who, op⟩ := if_pos hdo
  have eR : doR o true who op = actR ⟨o, true, who, op⟩ := if_pos hdo
  have aS : actS ⟨o, true, who, op⟩ = freeS ⟨o, true, who, op⟩ who := by simp [actS, hk]
  have aR : actR ⟨o, true, who, op⟩ = freeR ⟨o, true, who, op⟩ who := by simp [actR, hk]
  rw [eS, eR, aS, aR]
  clear eS eR aS aR hdo
  have hL : freeS ⟨o, true, who, op⟩ who = if o.locked = false ∨ (⟨o.client, o.inst⟩ : Ban) ≠ who then ⟨o, true, who, op⟩ else ⟨{ o with locked := false, client := 0, inst := 0 }, true, who, op⟩ := rfl
  have hR : freeR ⟨o, true, who, op⟩ who = if o.locked = false ∨ (⟨o.client, o.inst⟩ : Ban) ≠ who then errR 30 else sizeR ⟨o, true, who, op⟩ := rfl
  rw [hL, hR]
  clear hL hR
  have tl := toldT o 30 0
  by_cases hl : o.locked = true
  · by_cases hw : (⟨o.client, o.inst⟩ : Ban) = who
    · have hc : ¬ (o.locked = false ∨ (⟨o.client, o.inst⟩ : Ban) ≠ who) := by rw [hl, hw]; simp
      rw [if_neg hc, if_neg hc]
      clear hc
      refine F25_of ?_
      unfold k25
      repeat' first
        | simp -dsimp (disch := omega) only [↓rulesA, rulesB, rulesC, Int.reduceLT, nth, upd, put, storeN, AV.one, Nat.reduceBEq, Nat.reduceBNe, Int.reduceBEq, Int.reduceBNe, Int.reduceLE, Int.reduceEq, Int.reduceMod, Int.reduceNeg, boolBin, strBin, intBin, unA, fillA, ne_eq, reduceCtorEq, Nat.reduceAdd, Nat.reduceSub, Nat.reduceLeDiff, Nat.reduceLT, Nat.reduceEqDiff, Int.reduceToNat, eq_self, rulesT, bne_self_eq_false, mm_min, mm_max, buOf_some, nilCheck_vp, nilCheck_ptr, nilCheck_yld, nilCheck_func, Obj.g0, Obj.g1, Obj.g2, Obj.g3, Obj.g4, nm0, Obj.s1, Obj.s2, Obj.all, Obj.len, Obj.take, Obj.drop, Obj.sall, Ban.g0, Ban.g1, Ban.all, Ban.len, Ban.take, Ban.drop, Ban.sall, Opr.g0, Opr.g1, Opr.g2, Opr.g3, Opr.g4, Opr.all, Opr.len, Opr.take, Opr.drop, Opr.sall, Res.all, Res.len, Res.take, Res.sall, obj_hold, neb, nebb, no0, Oset3, Oset3b, text_size, text_cat, room0, room1, room2, sl0, thi, tlo, tlo2, tlohi, mm_min, hk, resL_three, three_some, *]
        | (refine allK_intro fun n hn => ?_; try simp only [fresh_set] at hn)
        | (refine ifK_intro (fun h => ?_) (fun h => ?_) <;> (try simp only [decide_eq_true_eq, decide_eq_false_iff_not, Bool.not_eq_true', Bool.not_eq_false'] at h) <;> try (exfalso; (try simp only [beq_iff_eq, beq_eq_false_iff_ne, bne_iff_ne, bne_eq_false_iff_eq, ne_eq] at h); omega))
        | (refine keeps_sub (Mem.sub_set ?_) ?_; focus (simp [Mem.set_at, nomem, *]; done))
        | (refine keeps_stab ?_ ?_; focus ((repeat' first | exact stabK_nil _ _ | refine stabK_cons ?_ ?_ | (simp (disch := omega) only [quietA, Option.isSome_some, ↓rulesA, rulesB, rulesC, Int.reduceLT, nth, upd, put, storeN, AV.one, Nat.reduceBEq, Nat.reduceBNe, Int.reduceBEq, Int.reduceBNe, Int.reduceLE, Int.reduceEq, Int.reduceMod, Int.reduceNeg, boolBin, strBin, intBin, unA, fillA, ne_eq, reduceCtorEq, Nat.reduceAdd, Nat.reduceSub, Nat.reduceLeDiff, Nat.reduceLT, Nat.reduceEqDiff, Int.reduceToNat, eq_self, rulesT, bne_self_eq_false, mm_min, mm_max, buOf_some, nilCheck_vp, nilCheck_ptr, nilCheck_yld, nilCheck_func, Obj.g0, Obj.g1, Obj.g2, Obj.g3, Obj.g4, nm0, Obj.s1, Obj.s2, Obj.all, Obj.len, Obj.take, Obj.drop, Obj.sall, Ban.g0, Ban.g1, Ban.all, Ban.len, Ban.take, Ban.drop, Ban.sall, Opr.g0, Opr.g1, Opr.g2, Opr.g3, Opr.g4, Opr.all, Opr.len, Opr.take, Opr.drop, Opr.sall, Res.all, Res.len, Res.take, Res.sall, obj_hold, neb, nebb, no0, Oset3, Oset3b, text_size, text_cat, room0, room1, room2, sl0, thi, tlo, tlo2, tlohi, mm_min, hk, resL_three, three_some, *]; done)); done))
        | (refine call_F (f11) (Seens.refl _ _) ?_)
        | (refine pure_F (f11) (Seens.refl _ _) ?_)
        | (refine call_F (f19) (Seens.refl _ _) ?_)
        | (refine pure_F (f19) (Seens.refl _ _) ?_)
        | (refine call_F (tl) (Seens.refl _ _) ?_)
        | (refine pure_F (tl) (Seens.refl _ _) ?_)
        | (refine call_F (F51 _) (Seens.refl _ _) ?_)
        | (refine pure_F (F51 _) (Seens.refl _ _) ?_)
      exact New.eq rfl rfl
    · rw [if_pos (.inr hw), if_pos (.inr hw)]
      refine F25_of ?_
      unfold k25
      repeat' first
        | simp -dsimp (disch := omega) only [↓rulesA, rulesB, rulesC, Int.reduceLT, nth, upd, put, storeN, AV.one, Nat.reduceBEq, Nat.reduceBNe, Int.reduceBEq, Int.reduceBNe, Int.reduceLE, Int.reduceEq, Int.reduceMod, Int.reduceNeg, boolBin, strBin, intBin, unA, fillA, ne_eq, reduceCtorEq, Nat.reduceAdd, Nat.reduceSub, Nat.reduceLeDiff, Nat.reduceLT, Nat.reduceEqDiff, Int.reduceToNat, eq_self, rulesT, bne_self_eq_false, mm_min, mm_max, buOf_some, nilCheck_vp, nilCheck_ptr, nilCheck_yld, nilCheck_func, Obj.g0, Obj.g1, Obj.g2, Obj.g3, Obj.g4, nm0, Obj.s1, Obj.s2, Obj.all, Obj.len, Obj.take, Obj.drop, Obj.sall, Ban.g0, Ban.g1, Ban.all, Ban.len, Ban.take, Ban.drop, Ban.sall, Opr.g0, Opr.g1, Opr.g2, Opr.g3, Opr.g4, Opr.all, Opr.len, Opr.take, Opr.drop, Opr.sall, Res.all, Res.len, Res.take, Res.sall, obj_hold, neb, nebb, no0, Oset3, Oset3b, text_size, text_cat, room0, room1, room2, sl0, thi, tlo, tlo2, tlohi, mm_min, hk, resL_three, three_some, *]
        | (refine allK_intro fun n hn => ?_; try simp only [fresh_set] at hn)
        | (refine ifK_intro (fun h => ?_) (fun h => ?_) <;> (try simp only [decide_eq_true_eq, decide_eq_false_iff_not, Bool.not_eq_true', Bool.not_eq_false'] at h) <;> try (exfalso; (try simp only [beq_iff_eq, beq_eq_false_iff_ne, bne_iff_ne, bne_eq_false_iff_eq, ne_eq] at h); omega))
        | (refine keeps_sub (Mem.sub_set ?_) ?_; focus (simp [Mem.set_at, nomem, *]; done))
        | (refine keeps_stab ?_ ?_; focus ((repeat' first | exact stabK_nil _ _ | refine stabK_cons ?_ ?_ | (simp (disch := omega) only [quietA, Option.isSome_some, ↓rulesA, rulesB, rulesC, Int.reduceLT, nth, upd, put, storeN, AV.one, Nat.reduceBEq, Nat.reduceBNe, Int.reduceBEq, Int.reduceBNe, Int.reduceLE, Int.reduceEq, Int.reduceMod, Int.reduceNeg, boolBin, strBin, intBin, unA, fillA, ne_eq, reduceCtorEq, Nat.reduceAdd, Nat.reduceSub, Nat.reduceLeDiff, Nat.reduceLT, Nat.reduceEqDiff, Int.reduceToNat, eq_self, rulesT, bne_self_eq_false, mm_min, mm_max, buOf_some, nilCheck_vp, nilCheck_ptr, nilCheck_yld, nilCheck_func, Obj.g0, Obj.g1, Obj.g2, Obj.g3, Obj.g4, nm0, Obj.s1, Obj.s2, Obj.all, Obj.len, Obj.take, Obj.drop, Obj.sall, Ban.g0, Ban.g1, Ban.all, Ban.len, Ban.take, Ban.drop, Ban.sall, Opr.g0, Opr.g1, Opr.g2, Opr.g3, Opr.g4, Opr.all, Opr.len, Opr.take, Opr.drop, Opr.sall, Res.all, Res.len, Res.take, Res.sall, obj_hold, neb, nebb, no0, Oset3, Oset3b, text_size, text_cat, room0, room1, room2, sl0, thi, tlo, tlo2, tlohi, mm_min, hk, resL_three, three_some, *]; done)); done))
        | (refine call_F (f11) (Seens.refl _ _) ?_)
        | (refine pure_F (f11) (Seens.refl _ _) ?_)
        | (refine call_F (f19) (Seens.refl _ _) ?_)
        | (refine pure_F (f19) (Seens.refl _ _) ?_)
        | (refine call_F (tl) (Seens.refl _ _) ?_)
        | (refine pure_F (tl) (Seens.refl _ _) ?_)
      exact New.eq rfl rfl
  · have hl' : o.locked = false := by simpa using hl
    rw [if_pos (.inl hl'), if_pos (.inl hl')]
    clear hl
    refine F25_of ?_
    unfold k25
    repeat' first
      | simp -dsimp (disch := omega) only [↓rulesA, rulesB, rulesC, Int.reduceLT, nth, upd, put, storeN, AV.one, Nat.reduceBEq, Nat.reduceBNe, Int.reduceBEq, Int.reduceBNe, Int.reduceLE, Int.reduceEq, Int.reduceMod, Int.reduceNeg, boolBin, strBin, intBin, unA, fillA, ne_eq, reduceCtorEq, Nat.reduceAdd, Nat.reduceSub, Nat.reduceLeDiff, Nat.reduceLT, Nat.reduceEqDiff, Int.reduceToNat, eq_self, rulesT, bne_self_eq_false, mm_min, mm_max, buOf_some, nilCheck_vp, nilCheck_ptr, nilCheck_yld, nilCheck_func, Obj.g0, Obj.g1, Obj.g2, Obj.g3, Obj.g4, nm0, Obj.s1, Obj.s2, Obj.all, Obj.len, Obj.take, Obj.drop, Obj.sall, Ban.g0, Ban.g1, Ban.all, Ban.len, Ban.take, Ban.drop, Ban.sall, Opr.g0, Opr.g1, Opr.g2, Opr.g3, Opr.g4, Opr.all, Opr.len, Opr.take, Opr.drop, Opr.sall, Res.all, Res.len, Res.take, Res.sall, obj_hold, neb, nebb, no0, Oset3, Oset3b, text_size, text_cat, room0, room1, room2, sl0, thi, tlo, tlo2, tlohi, mm_min, hk, resL_three, three_some, *]
      | (refine allK_intro fun n hn => ?_; try simp only [fresh_set] at hn)
      | (refine ifK_intro (fun h => ?_) (fun h => ?_) <;> (try simp only [decide_eq_true_eq, decide_eq_false_iff_not, Bool.not_eq_true', Bool.not_eq_false'] at h) <;> try (exfalso; (try simp only [beq_iff_eq, beq_eq_false_iff_ne, bne_iff_ne, bne_eq_false_iff_eq, ne_eq] at h); omega))
      | (refine keeps_sub (Mem.sub_set ?_) ?_; focus (simp [Mem.set_at, nomem, *]; done))
      | (refine keeps_stab ?_ ?_; focus ((repeat' first | exact stabK_nil _ _ | refine stabK_cons ?_ ?_ | (simp (disch := omega) only [quietA, Option.isSome_some, ↓rulesA, rulesB, rulesC, Int.reduceLT, nth, upd, put, storeN, AV.one, Nat.reduceBEq, Nat.reduceBNe, Int.reduceBEq, Int.reduceBNe, Int.reduceLE, Int.reduceEq, Int.reduceMod, Int.reduceNeg, boolBin, strBin, intBin, unA, fillA, ne_eq, reduceCtorEq, Nat.reduceAdd, Nat.reduceSub, Nat.reduceLeDiff, Nat.reduceLT, Nat.reduceEqDiff, Int.reduceToNat, eq_self, rulesT, bne_self_eq_false, mm_min, mm_max, buOf_some, nilCheck_vp, nilCheck_ptr, nilCheck_yld, nilCheck_func, Obj.g0, Obj.g1, Obj.g2, Obj.g3, Obj.g4, nm0, Obj.s1, Obj.s2, Obj.all, Obj.len, Obj.take, Obj.drop, Obj.sall, Ban.g0, Ban.g1, Ban.all, Ban.len, Ban.take, Ban.drop, Ban.sall, Opr.g0, Opr.g1, Opr.g2, Opr.g3, Opr.g4, Opr.all, Opr.len, Opr.take, Opr.drop, Opr.sall, Res.all, Res.len, Res.take, Res.sall, obj_hold, neb, nebb, no0, Oset3, Oset3b, text_size, text_cat, room0, room1, room2, sl0, thi, tlo, tlo2, tlohi, mm_min, hk, resL_three, three_some, *]; done)); done))
      | (refine call_F (f11) (Seens.refl _ _) ?_)
      | (refine pure_F (f11) (Seens.refl _ _) ?_)
      | (refine call_F (f19) (Seens.refl _ _) ?_)
      | (refine pure_F (f19) (Seens.refl _ _) ?_)
      | (refine call_F (tl) (Seens.refl _ _) ?_)
      | (refine pure_F (tl) (Seens.refl _ _) ?_)
    exact New.eq rfl rfl
theorem F25_k9t (o : Obj) (who : Ban) (op : Opr) (hop : op.ok) (hd : o.data.length ≤ 64) (hdo : doOk who op = true) (hk : op.kind = 9) : F Try.prog 25 [.agg o.cells, .val (.bool true), .agg who.cells, .agg op.cells] (res25 (doS o true who op) (doR o true who op)) := by
  have hd2 : opOk op = true ∧ whoB who = true := by unfold doOk at hdo; simpa using hdo
  have f11 := F11 op hop
  have f19 := F19 who
  rw [hd2.1] at f11
  rw [hd2.2] at f19
  have eS : doS o true who op = actS ⟨o, true, who, op⟩ := if_pos hdo
  have eR : doR o true who op = actR ⟨o, true, who, op⟩ := if_pos hdo
  have aS : actS ⟨o, true, who, op⟩ = freeS ⟨o, true, who, op⟩ (⟨op.num, op.off⟩ : Ban) := by simp [actS, hk]
  have aR : actR ⟨o, true, who, op⟩ = freeR ⟨o, true, who, op⟩ (⟨op.num, op.off⟩ : Ban) := by simp [actR, hk]
  rw [eS, eR, aS, aR]
  clear eS eR aS aR hdo
  have hL : freeS ⟨o, true, who, op⟩ (⟨op.num, op.off⟩ : Ban) = if o.locked = false ∨ (⟨o.client, o.inst⟩ : Ban) ≠ (⟨op.num, op.off⟩ : Ban) then ⟨o, true, who, op⟩ else ⟨{ o with locked := false, client := 0, inst := 0 }, true, who, op⟩ := rfl
  have hR : freeR ⟨o, true, who, op⟩ (⟨op.num, op.off⟩ : Ban) = if o.locked = false ∨ (⟨o.client, o.inst⟩ : Ban) ≠ (⟨op.num, op.off⟩ : Ban) then errR 30 else sizeR ⟨o, true, who, op⟩ := rfl
  rw [hL, hR]
  clear hL hR
  have tl := toldT o 30 0
  by_cases hl : o.locked = true
  · by_cases hw : (⟨o.client, o.inst⟩ : Ban) = (⟨op.num, op.off⟩ : Ban)
    · have hc : ¬ (o.locked = false ∨ (⟨o.client, o.inst⟩ : Ban) ≠ (⟨op.num, op.off⟩ : Ban)) := by rw [hl, hw]; simp
      rw [if_neg hc, if_neg hc]
      clear hc
      refine F25_of ?_
      unfold k25
      repeat' first
        | simp -dsimp (disch := omega) only [↓rulesA, rulesB, rulesC, Int.reduceLT, nth, upd, put, storeN, AV.one, Nat.reduceBEq, Nat.reduceBNe, Int.reduceBEq, Int.reduceBNe, Int.reduceLE, Int.reduceEq, Int.reduceMod, Int.reduceNeg, boolBin, strBin, intBin, unA, fillA, ne_eq, reduceCtorEq, Nat.reduceAdd, Nat.reduceSub, Nat.reduceLeDiff, Nat.reduceLT, Nat.reduceEqDiff, Int.reduceToNat, eq_self, rulesT, bne_self_eq_false, mm_min, mm_max, buOf_some, nilCheck_vp, nilCheck_ptr, nilCheck_yld, nilCheck_func, Obj.g0, Obj.g1, Obj.g2, Obj.g3, Obj.g4, nm0, Obj.s1, Obj.s2, Obj.all, Obj.len, Obj.take, Obj.drop, Obj.sall, Ban.g0, Ban.g1, Ban.all, Ban.len, Ban.take, Ban.drop, Ban.sall, Opr.g0, Opr.g1, Opr.g2, Opr.g3, Opr.g4, Opr.all, Opr.len, Opr.take, Opr.drop, Opr.sall, Res.all, Res.len, Res.take, Res.sall, obj_hold, neb, nebb, no0, Oset3, Oset3b, text_size, text_cat, room0, room1, room2, sl0, thi, tlo, tlo2, tlohi, mm_min, hk, resL_three, three_some, *]
        | (refine allK_intro fun n hn => ?_; try simp only [fresh_set] at hn)
        | (refine ifK_intro (fun h => ?_) (fun h => ?_) <;> (try simp only [decide_eq_true_eq, decide_eq_false_iff_not, Bool.not_eq_true', Bool.not_eq_false'] at h) <;> try (exfalso; (try simp only [beq_iff_eq, beq_eq_false_iff_ne, bne_iff_ne, bne_eq_false_iff_eq, ne_eq] at h); omega))
        | (refine keeps_sub (Mem.sub_set ?_) ?_; focus (simp [Mem.set_at, nomem, *]; done))
        | (refine keeps_stab ?_ ?_; focus ((repeat' first | exact stabK_nil _ _ | refine stabK_cons ?_ ?_ | (simp (disch := omega) only [quietA, Option.isSome_some, ↓rulesA, rulesB, rulesC, Int.reduceLT, nth, upd, put, storeN, AV.one, Nat.reduceBEq, Nat.reduceBNe, Int.reduceBEq, Int.reduceBNe, Int.reduceLE, Int.reduceEq, Int.reduceMod, Int.reduceNeg, boolBin, strBin, intBin, unA, fillA, ne_eq, reduceCtorEq, Nat.reduceAdd, Nat.reduceSub, Nat.reduceLeDiff, Nat.reduceLT, Nat.reduceEqDiff, Int.reduceToNat, eq_self, rulesT, bne_self_eq_false, mm_min, mm_max, buOf_some, nilCheck_vp, nilCheck_ptr, nilCheck_yld, nilCheck_func, Obj.g0, Obj.g1, Obj.g2, Obj.g3, Obj.g4, nm0, Obj.s1, Obj.s2, Obj.all, Obj.len, Obj.take, Obj.drop, Obj.sall, Ban.g0, Ban.g1, Ban.all, Ban.len, Ban.take, Ban.drop, Ban.sall, Opr.g0, Opr.g1, Opr.g2, Opr.g3, Opr.g4, Opr.all, Opr.len, Opr.take, Opr.drop, Opr.sall, Res.all, Res.len, Res.take, Res.sall, obj_hold, neb, nebb, no0, Oset3, Oset3b, text_size, text_cat, room0, room1, room2, sl0, thi, tlo, tlo2, tlohi, mm_min, hk, resL_three, three_some, *]; done)); done))
        | (refine call_F (f11) (Seens.refl _ _) ?_)
        | (refine pure_F (f11) (Seens.refl _ _) ?_)
        | (refine call_F (f19) (Seens.refl _ _) ?_)
        | (refine pure_F (f19) (Seens.refl _ _) ?_)
        | (refine call_F (tl) (Seens.refl _ _) ?_)
        | (refine pure_F (tl) (Seens.refl _ _) ?_)
        | (refine call_F (F51 _) (Seens.refl _ _) ?_)
        | (refine pure_F (F51 _) (Seens.refl _ _) ?_)
      exact New.eq rfl rfl
    · rw [if_pos (.inr hw), if_pos (.inr hw)]
      refine F25_of ?_
      unfold k25
      repeat' first
        | simp -dsimp (disch := omega) only [↓rulesA, rulesB, rulesC, Int.reduceLT, nth, upd, put, storeN, AV.one, Nat.reduceBEq, Nat.reduceBNe, Int.reduceBEq, Int.reduceBNe, Int.reduceLE, Int.reduceEq, Int.reduceMod, Int.reduceNeg, boolBin, strBin, intBin, unA, fillA, ne_eq, reduceCtorEq, Nat.reduceAdd, Nat.reduceSub, Nat.reduceLeDiff, Nat.reduceLT, Nat.reduceEqDiff, Int.reduceToNat, eq_self, rulesT, bne_self_eq_false, mm_min, mm_max, buOf_some, nilCheck_vp, nilCheck_ptr, nilCheck_yld, nilCheck_func, Obj.g0, Obj.g1, Obj.g2, Obj.g3, Obj.g4, nm0, Obj.s1, Obj.s2, Obj.all, Obj.len, Obj.take, Obj.drop, Obj.sall, Ban.g0, Ban.g1, Ban.all, Ban.len, Ban.take, Ban.drop, Ban.sall, Opr.g0, Opr.g1, Opr.g2, Opr.g3, Opr.g4, Opr.all, Opr.len, Opr.take, Opr.drop, Opr.sall, Res.all, Res.len, Res.take, Res.sall, obj_hold, neb, nebb, no0, Oset3, Oset3b, text_size, text_cat, room0, room1, room2, sl0, thi, tlo, tlo2, tlohi, mm_min, hk, resL_three, three_some, *]
        | (refine allK_intro fun n hn => ?_; try simp only [fresh_set] at hn)
        | (refine ifK_intro (fun h => ?_) (fun h => ?_) <;> (try simp only [decide_eq_true_eq, decide_eq_false_iff_not, Bool.not_eq_true', Bool.not_eq_false'] at h) <;> try (exfalso; (try simp only [beq_iff_eq, beq_eq_false_iff_ne, bne_iff_ne, bne_eq_false_iff_eq, ne_eq] at h); omega))
        | (refine keeps_sub (Mem.sub_set ?_) ?_; focus (simp [Mem.set_at, nomem, *]; done))
        | (refine keeps_stab ?_ ?_; focus ((repeat' first | exact stabK_nil _ _ | refine stabK_cons ?_ ?_ | (simp (disch := omega) only [quietA, Option.isSome_some, ↓rulesA, rulesB, rulesC, Int.reduceLT, nth, upd, put, storeN, AV.one, Nat.reduceBEq, Nat.reduceBNe, Int.reduceBEq, Int.reduceBNe, Int.reduceLE, Int.reduceEq, Int.reduceMod, Int.reduceNeg, boolBin, strBin, intBin, unA, fillA, ne_eq, reduceCtorEq, Nat.reduceAdd, Nat.reduceSub, Nat.reduceLeDiff, Nat.reduceLT, Nat.reduceEqDiff, Int.reduceToNat, eq_self, rulesT, bne_self_eq_false, mm_min, mm_max, buOf_some, nilCheck_vp, nilCheck_ptr, nilCheck_yld, nilCheck_func, Obj.g0, Obj.g1, Obj.g2, Obj.g3, Obj.g4, nm0, Obj.s1, Obj.s2, Obj.all, Obj.len, Obj.take, Obj.drop, Obj.sall, Ban.g0, Ban.g1, Ban.all, Ban.len, Ban.take, Ban.drop, Ban.sall, Opr.g0, Opr.g1, Opr.g2, Opr.g3, Opr.g4, Opr.all, Opr.len, Opr.take, Opr.drop, Opr.sall, Res.all, Res.len, Res.take, Res.sall, obj_hold, neb, nebb, no0, Oset3, Oset3b, text_size, text_cat, room0, room1, room2, sl0, thi, tlo, tlo2, tlohi, mm_min, hk, resL_three, three_some, *]; done)); done))
        | (refine call_F (f11) (Seens.refl _ _) ?_)
        | (refine pure_F (f11) (Seens.refl _ _) ?_)
        | (refine call_F (f19) (Seens.refl _ _) ?_)
        | (refine pure_F (f19) (Seens.refl _ _) ?_)
        | (refine call_F (tl) (Seens.refl _ _) ?_)
        | (refine pure_F (tl) (Seens.refl _ _) ?_)
      exact New.eq rfl rfl
  · have hl' : o.locked = false := by simpa using hl
    rw [if_pos (.inl hl'), if_pos (.inl hl')]
    clear hl
    refine F25_of ?_
    unfold k25
    repeat' first
      | simp -dsimp (disch := omega) only [↓rulesA, rulesB, rulesC, Int.reduceLT, nth, upd, put, storeN, AV.one, Nat.reduceBEq, Nat.reduceBNe, Int.reduceBEq, Int.reduceBNe, Int.reduceLE, Int.reduceEq, Int.reduceMod, Int.reduceNeg, boolBin, strBin, intBin, unA, fillA, ne_eq, reduceCtorEq, Nat.reduceAdd, Nat.reduceSub, Nat.reduceLeDiff, Nat.reduceLT, Nat.reduceEqDiff, Int.reduceToNat, eq_self, rulesT, bne_self_eq_false, mm_min, mm_max, buOf_some, nilCheck_vp, nilCheck_ptr, nilCheck_yld, nilCheck_func, Obj.g0, Obj.g1, Obj.g2, Obj.g3, Obj.g4, nm0, Obj.s1, Obj.s2, Obj.all, Obj.len, Obj.take, Obj.drop, Obj.sall, Ban.g0, Ban.g1, Ban.all, Ban.len, Ban.take, Ban.drop, Ban.sall, Opr.g0, Opr.g1, Opr.g2, Opr.g3, Opr.g4, Opr.all, Opr.len, Opr.take, Opr.drop, Opr.sall, Res.all, Res.len, Res.take, Res.sall, obj_hold, neb, nebb, no0, Oset3, Oset3b, text_size, text_cat, room0, room1, room2, sl0, thi, tlo, tlo2, tlohi, mm_min, hk, resL_three, three_some, *]
      | (refine allK_intro fun n hn => ?_; try simp only [fresh_set] at hn)
      | (refine ifK_intro (fun h => ?_) (fun h => ?_) <;> (try simp only [decide_eq_true_eq, decide_eq_false_iff_not, Bool.not_eq_true', Bool.not_eq_false'] at h) <;> try (exfalso; (try simp only [beq_iff_eq, beq_eq_false_iff_ne, bne_iff_ne, bne_eq_false_iff_eq, ne_eq] at h); omega))
      | (refine keeps_sub (Mem.sub_set ?_) ?_; focus (simp [Mem.set_at, nomem, *]; done))
      | (refine keeps_stab ?_ ?_; focus ((repeat' first | exact stabK_nil _ _ | refine stabK_cons ?_ ?_ | (simp (disch := omega) only [quietA, Option.isSome_some, ↓rulesA, rulesB, rulesC, Int.reduceLT, nth, upd, put, storeN, AV.one, Nat.reduceBEq, Nat.reduceBNe, Int.reduceBEq, Int.reduceBNe, Int.reduceLE, Int.reduceEq, Int.reduceMod, Int.reduceNeg, boolBin, strBin, intBin, unA, fillA, ne_eq, reduceCtorEq, Nat.reduceAdd, Nat.reduceSub, Nat.reduceLeDiff, Nat.reduceLT, Nat.reduceEqDiff, Int.reduceToNat, eq_self, rulesT, bne_self_eq_false, mm_min, mm_max, buOf_some, nilCheck_vp, nilCheck_ptr, nilCheck_yld, nilCheck_func, Obj.g0, Obj.g1, Obj.g2, Obj.g3, Obj.g4, nm0, Obj.s1, Obj.s2, Obj.all, Obj.len, Obj.take, Obj.drop, Obj.sall, Ban.g0, Ban.g1, Ban.all, Ban.len, Ban.take, Ban.drop, Ban.sall, Opr.g0, Opr.g1, Opr.g2, Opr.g3, Opr.g4, Opr.all, Opr.len, Opr.take, Opr.drop, Opr.sall, Res.all, Res.len, Res.take, Res.sall, obj_hold, neb, nebb, no0, Oset3, Oset3b, text_size, text_cat, room0, room1, room2, sl0, thi, tlo, tlo2, tlohi, mm_min, hk, resL_three, three_some, *]; done)); done))
      | (refine call_F (f11) (Seens.refl _ _) ?_)
      | (refine pure_F (f11) (Seens.refl _ _) ?_)
      | (refine call_F (f19) (Seens.refl _ _) ?_)
      | (refine pure_F (f19) (Seens.refl _ _) ?_)
      | (refine call_F (tl) (Seens.refl _ _) ?_)
      | (refine pure_F (tl) (Seens.refl _ _) ?_)
    exact New.eq rfl rfl
theorem F25_k5t (o : Obj) (who : Ban) (op : Opr) (hop : op.ok) (hd : o.data.length ≤ 64) (hdo : doOk who op = true) (hk : op.kind = 5) : F Try.prog 25 [.agg o.cells, .val (.bool true), .agg who.cells, .agg op.cells] (res25 (doS o true who op) (doR o true who op)) := by
  have hd2 : opOk op = true ∧ whoB who = true := by unfold doOk at hdo; simpa using hdo
  have f11 := F11 op hop
  have f19 := F19 who
  rw [hd2.1] at f11
  rw [hd2.2] at f19
  have eS : doS o true who op = actS ⟨o, true, who, op⟩ := if_pos hdo
  have eR : doR o true who op = actR ⟨o, true, who, op⟩ := if_pos hdo
  have aS : actS ⟨o, true, who, op⟩ = ⟨o, true, who, op⟩ := by simp [actS, hk]
  have aR : actR ⟨o, true, who, op⟩ = readR ⟨o, true, who, op⟩ := by simp [actR, hk]
  rw [eS, eR, aS, aR]
  clear eS eR aS aR hdo
  obtain ⟨⟨u1, u2⟩, ⟨u3, u4⟩, u5⟩ := op_small hd2.1 (by omega)
  have hs : Small ⟨o, true, who, op⟩ := ⟨⟨u1, u2⟩, ⟨u3, u4⟩, u5, hd⟩
  have ha : (if (o.data.length : Int) < op.off then (o.data.length : Int) else op.off) = (atS ⟨o, true, who, op⟩ : Int) := atS_is hs
  have he : (if (o.data.length : Int) < op.off + op.num then (o.data.length : Int) else op.off + op.num) = (endS ⟨o, true, who, op⟩ : Int) := by
    show _ = ((min (min op.off.toNat o.data.length + op.num.toNat) o.data.length : Nat) : Int)
    split <;> omega
  obtain ⟨le1, le2⟩ := endS_le ⟨o, true, who, op⟩
  have hR : readR ⟨o, true, who, op⟩ = ⟨0, o.data.length, 0, (o.data.drop (atS ⟨o, true, who, op⟩)).take (endS ⟨o, true, who, op⟩ - atS ⟨o, true, who, op⟩)⟩ := rfl
  rw [hR]
  clear hR hs
  replace le2 : endS ⟨o, true, who, op⟩ ≤ o.data.length := le2
  generalize atS ⟨o, true, who, op⟩ = a at *
  generalize endS ⟨o, true, who, op⟩ = c at *
  refine F25_of ?_
  unfold k25
  repeat' first
    | simp -dsimp (disch := omega) only [↓rulesA, rulesB, rulesC, Int.reduceLT, nth, upd, put, storeN, AV.one, Nat.reduceBEq, Nat.reduceBNe, Int.reduceBEq, Int.reduceBNe, Int.reduceLE, Int.reduceEq, Int.reduceMod, Int.reduceNeg, boolBin, strBin, intBin, unA, fillA, ne_eq, reduceCtorEq, Nat.reduceAdd, Nat.reduceSub, Nat.reduceLeDiff, Nat.reduceLT, Nat.reduceEqDiff, Int.reduceToNat, eq_self, rulesT, bne_self_eq_false, mm_min, mm_max, buOf_some, nilCheck_vp, nilCheck_ptr, nilCheck_yld, nilCheck_func, Obj.g0, Obj.g1, Obj.g2, Obj.g3, Obj.g4, nm0, Obj.s1, Obj.s2, Obj.all, Obj.len, Obj.take, Obj.drop, Obj.sall, Ban.g0, Ban.g1, Ban.all, Ban.len, Ban.take, Ban.drop, Ban.sall, Opr.g0, Opr.g1, Opr.g2, Opr.g3, Opr.g4, Opr.all, Opr.len, Opr.take, Opr.drop, Opr.sall, Res.all, Res.len, Res.take, Res.sall, obj_hold, neb, nebb, no0, Oset3, Oset3b, text_size, text_cat, room0, room1, room2, sl0, thi, tlo, tlo2, tlohi, mm_min, hk, resL_three, three_some, ha, he, *]
    | (refine allK_intro fun n hn => ?_; try simp only [fresh_set] at hn)
    | (refine ifK_intro (fun h => ?_) (fun h => ?_) <;> (try simp only [decide_eq_true_eq, decide_eq_false_iff_not, Bool.not_eq_true', Bool.not_eq_false'] at h) <;> try (exfalso; (try simp only [beq_iff_eq, beq_eq_false_iff_ne, bne_iff_ne, bne_eq_false_iff_eq, ne_eq] at h); omega))
    | (refine keeps_sub (Mem.sub_set ?_) ?_; focus (simp [Mem.set_at, nomem, *]; done))
    | (refine keeps_stab ?_ ?_; focus ((repeat' first | exact stabK_nil _ _ | refine stabK_cons ?_ ?_ | (simp (disch := omega) only [quietA, Option.isSome_some, ↓rulesA, rulesB, rulesC, Int.reduceLT, nth, upd, put, storeN, AV.one, Nat.reduceBEq, Nat.reduceBNe, Int.reduceBEq, Int.reduceBNe, Int.reduceLE, Int.reduceEq, Int.reduceMod, Int.reduceNeg, boolBin, strBin, intBin, unA, fillA, ne_eq, reduceCtorEq, Nat.reduceAdd, Nat.reduceSub, Nat.reduceLeDiff, Nat.reduceLT, Nat.reduceEqDiff, Int.reduceToNat, eq_self, rulesT, bne_self_eq_false, mm_min, mm_max, buOf_some, nilCheck_vp, nilCheck_ptr, nilCheck_yld, nilCheck_func, Obj.g0, Obj.g1, Obj.g2, Obj.g3, Obj.g4, nm0, Obj.s1, Obj.s2, Obj.all, Obj.len, Obj.take, Obj.drop, Obj.sall, Ban.g0, Ban.g1, Ban.all, Ban.len, Ban.take, Ban.drop, Ban.sall, Opr.g0, Opr.g1, Opr.g2, Opr.g3, Opr.g4, Opr.all, Opr.len, Opr.take, Opr.drop, Opr.sall, Res.all, Res.len, Res.take, Res.sall, obj_hold, neb, nebb, no0, Oset3, Oset3b, text_size, text_cat, room0, room1, room2, sl0, thi, tlo, tlo2, tlohi, mm_min, hk, resL_three, three_some, ha, he, *]; done)); done))
    | (refine call_F (f11) (Seens.refl _ _) ?_)
    | (refine pure_F (f11) (Seens.refl _ _) ?_)
    | (refine call_F (f19) (Seens.refl _ _) ?_)
    | (refine pure_F (f19) (Seens.refl _ _) ?_)
    | (refine call_F (F51 _) (Seens.refl _ _) ?_)
    | (refine pure_F (F51 _) (Seens.refl _ _) ?_)
  exact New.eq rfl rfl
end Go.Proofs.Ytanfgfclpjmngaa

set_option maxRecDepth 100000
set_option maxHeartbeats 1000000
set_option linter.unusedSimpArgs false
set_option linter.unusedVariables false
namespace Go.Proofs.Ytanfgfclpjmngaa
open Go.Abs
attribute [local irreducible] C X CC Y CV CW binK litK AppK PureC PureCV againK loopV rangeV allK ifK got onB condK V stepsK planK opK firstK seeE keepsK
def zr (d : List UInt8) (a c : Nat) : List UInt8 := d.take a ++ List.replicate (c - a) 0 ++ d.drop c
theorem zr_len {d : List UInt8} {a c : Nat} (h : a ≤ c) (hc : c ≤ d.length) : (zr d a c).length = d.length := by
  unfold zr
  simp only [List.length_append, List.length_take, List.length_replicate, List.length_drop]
  omega
theorem zr_same {d : List UInt8} {a : Nat} : zr d a a = d := by unfold zr; simp
theorem zr_next {d : List UInt8} {a c : Nat} (h : a ≤ c) (hc : c < d.length) : (zr d a c).set c 0 = zr d a (c + 1) := by
  unfold zr
  have e : d.drop c = d[c] :: d.drop (c + 1) := List.drop_eq_getElem_cons hc
  rw [e, List.set_append_right _ _ (by simp; omega)]
  simp only [List.length_append, List.length_take, List.length_replicate]
  rw [show c - (min a d.length + (c - a)) = 0 by omega, List.set_cons_zero, show c + 1 - a = (c - a) + 1 by omega, List.replicate_succ']
  simp
theorem ix67 (n k : Nat) (len : Nat) (x : Int) (hx : x = k) (h : k < len) : indexAddrA Try.prog 67 (.sl n 0 len len) (.val (.int .i64 x)) = some (.ptr n k) := by
  subst hx
  rw [ix_own_67 n 0 len len .i64 k (by omega) (by omega)]
  simp
theorem set_byte (d : List UInt8) (k : Nat) (h : k < d.length) : setRange (d.map byteC).flatten k [.val (.int .u8 0)] = ((d.set k 0).map byteC).flatten := by
  have := row_set byteC (s := 1) (fun _ => rfl) d h 0
  rw [Nat.mul_one] at this
  exact this
theorem F25_k2t (o : Obj) (who : Ban) (op : Opr) (hop : op.ok) (hd : o.data.length ≤ 64) (hdo : doOk who op = true) (hk : op.kind = 2) : F Try.prog 25 [.agg o.cells, .val (.bool true), .agg who.cells, .agg op.cells] (res25 (doS o true who op) (doR o true who op)) := by
  have hd2 : opOk op = true ∧ whoB who = true := by unfold doOk at hdo; simpa using hdo
  have f11 := F11 op hop
  have f19 := F19 who
  rw [hd2.1] at f11
  rw [hd2.2] at f19
  have eS : doS o true who op = actS ⟨o, true, who, op⟩ := if_pos hdo
  have eR : doR o true who op = actR ⟨o, true, who, op⟩ := if_pos hdo
  have aS : actS ⟨o, true, who, op⟩ = zeroS ⟨o, true, who, op⟩ := by simp [actS, hk]
  have aR : actR ⟨o, true, who, op⟩ = zeroR ⟨o, true, who, op⟩ := by simp [actR, hk]
  rw [eS, eR, aS, aR]
  clear eS eR aS aR hdo
  obtain ⟨⟨u1, u2⟩, ⟨u3, u4⟩, u5⟩ := op_small hd2.1 (by omega)
  obtain ⟨k, hkk⟩ : ∃ k : Nat, op.off = k := ⟨op.off.toNat, by omega⟩
  obtain ⟨q, hqq⟩ : ∃ q : Nat, op.num = q := ⟨op.num.toNat, by omega⟩
  have hzr : o.data.take (min k o.data.length) ++ zs (((min (min k o.data.length + q) o.data.length : Nat) : Int) - (min k o.data.length : Nat)) ++ o.data.drop (min (min k o.data.length + q) o.data.length) = zr o.data (min k o.data.length) (min (min k o.data.length + q) o.data.length) := by
    unfold zr zs
    congr 3; omega
  have hZ : zeroS ⟨o, true, who, op⟩ = ⟨{ o with data := zr o.data (min k o.data.length) (min (min k o.data.length + q) o.data.length) }, true, who, op⟩ := by
    rw [← hzr]
    show (⟨{ o with data := o.data.take (min op.off.toNat o.data.length) ++ zs (((min (min op.off.toNat o.data.length + op.num.toNat) o.data.length : Nat) : Int) - (min op.off.toNat o.data.length : Nat)) ++ o.data.drop (min (min op.off.toNat o.data.length + op.num.toNat) o.data.length) }, true, who, op⟩ : Sheet) = _
    rw [hkk, hqq]; rfl
  have hR : zeroR ⟨o, true, who, op⟩ = sizeR (zeroS ⟨o, true, who, op⟩) := rfl
  rw [hR, hZ]
  clear hR hZ hzr hd2
  have hne : textT Try.prog 9 67 (.val (.string (.mk (List.toArray o.data)))) = some (⟨o.data.toArray⟩, 5) := by simp only [textT, ti_9, ti_67, ti_5]; rfl
  refine F25_of ?_
  unfold k25
  repeat' first
    | simp -dsimp (disch := omega) only [↓rulesA, rulesB, rulesC, Int.reduceLT, nth, upd, put, storeN, AV.one, Nat.reduceBEq, Nat.reduceBNe, Int.reduceBEq, Int.reduceBNe, Int.reduceLE, Int.reduceEq, Int.reduceMod, Int.reduceNeg, boolBin, strBin, intBin, unA, fillA, ne_eq, reduceCtorEq, Nat.reduceAdd, Nat.reduceSub, Nat.reduceLeDiff, Nat.reduceLT, Nat.reduceEqDiff, Int.reduceToNat, eq_self, rulesT, bne_self_eq_false, mm_min, mm_max, buOf_some, nilCheck_vp, nilCheck_ptr, nilCheck_yld, nilCheck_func, Obj.g0, Obj.g1, Obj.g2, Obj.g3, Obj.g4, nm0, Obj.s1, Obj.s2, Obj.all, Obj.len, Obj.take, Obj.drop, Obj.sall, Ban.g0, Ban.g1, Ban.all, Ban.len, Ban.take, Ban.drop, Ban.sall, Opr.g0, Opr.g1, Opr.g2, Opr.g3, Opr.g4, Opr.all, Opr.len, Opr.take, Opr.drop, Opr.sall, Res.all, Res.len, Res.take, Res.sall, obj_hold, neb, nebb, no0, Oset3, Oset3b, text_size, text_cat, room0, room1, room2, sl0, thi, tlo, tlo2, tlohi, mm_min, hk, resL_three, three_some, hkk, hqq, *]
    | (refine allK_intro fun n hn => ?_; try simp only [fresh_set] at hn)
    | (refine ifK_intro (fun h => ?_) (fun h => ?_) <;> (try simp only [decide_eq_true_eq, decide_eq_false_iff_not, Bool.not_eq_true', Bool.not_eq_false'] at h) <;> try (exfalso; (try simp only [beq_iff_eq, beq_eq_false_iff_ne, bne_iff_ne, bne_eq_false_iff_eq, ne_eq] at h); omega))
    | (refine keeps_sub (Mem.sub_set ?_) ?_; focus (simp [Mem.set_at, nomem, *]; done))
    | (refine keeps_stab ?_ ?_; focus ((repeat' first | exact stabK_nil _ _ | refine stabK_cons ?_ ?_ | (simp (disch := omega) only [quietA, Option.isSome_some, ↓rulesA, rulesB, rulesC, Int.reduceLT, nth, upd, put, storeN, AV.one, Nat.reduceBEq, Nat.reduceBNe, Int.reduceBEq, Int.reduceBNe, Int.reduceLE, Int.reduceEq, Int.reduceMod, Int.reduceNeg, boolBin, strBin, intBin, unA, fillA, ne_eq, reduceCtorEq, Nat.reduceAdd, Nat.reduceSub, Nat.reduceLeDiff, Nat.reduceLT, Nat.reduceEqDiff, Int.reduceToNat, eq_self, rulesT, bne_self_eq_false, mm_min, mm_max, buOf_some, nilCheck_vp, nilCheck_ptr, nilCheck_yld, nilCheck_func, Obj.g0, Obj.g1, Obj.g2, Obj.g3, Obj.g4, nm0, Obj.s1, Obj.s2, Obj.all, Obj.len, Obj.take, Obj.drop, Obj.sall, Ban.g0, Ban.g1, Ban.all, Ban.len, Ban.take, Ban.drop, Ban.sall, Opr.g0, Opr.g1, Opr.g2, Opr.g3, Opr.g4, Opr.all, Opr.len, Opr.take, Opr.drop, Opr.sall, Res.all, Res.len, Res.take, Res.sall, obj_hold, neb, nebb, no0, Oset3, Oset3b, text_size, text_cat, room0, room1, room2, sl0, thi, tlo, tlo2, tlohi, mm_min, hk, resL_three, three_some, hkk, hqq, *]; done)); done))
    | (refine call_F (f11) (Seens.refl _ _) ?_)
    | (refine pure_F (f11) (Seens.refl _ _) ?_)
    | (refine call_F (f19) (Seens.refl _ _) ?_)
    | (refine pure_F (f19) (Seens.refl _ _) ?_)
  refine conv_fresh hne fun N hN => ?_
  simp only [fresh_set] at hN
  have hbe : (bytesE (⟨o.data.toArray⟩ : ByteArray)).flatten = (o.data.map byteC).flatten := by unfold bytesE; simp
  repeat' first
    | simp -dsimp (disch := omega) only [↓rulesA, rulesB, rulesC, Int.reduceLT, nth, upd, put, storeN, AV.one, Nat.reduceBEq, Nat.reduceBNe, Int.reduceBEq, Int.reduceBNe, Int.reduceLE, Int.reduceEq, Int.reduceMod, Int.reduceNeg, boolBin, strBin, intBin, unA, fillA, ne_eq, reduceCtorEq, Nat.reduceAdd, Nat.reduceSub, Nat.reduceLeDiff, Nat.reduceLT, Nat.reduceEqDiff, Int.reduceToNat, eq_self, rulesT, bne_self_eq_false, mm_min, mm_max, buOf_some, nilCheck_vp, nilCheck_ptr, nilCheck_yld, nilCheck_func, Obj.g0, Obj.g1, Obj.g2, Obj.g3, Obj.g4, nm0, Obj.s1, Obj.s2, Obj.all, Obj.len, Obj.take, Obj.drop, Obj.sall, Ban.g0, Ban.g1, Ban.all, Ban.len, Ban.take, Ban.drop, Ban.sall, Opr.g0, Opr.g1, Opr.g2, Opr.g3, Opr.g4, Opr.all, Opr.len, Opr.take, Opr.drop, Opr.sall, Res.all, Res.len, Res.take, Res.sall, obj_hold, neb, nebb, no0, Oset3, Oset3b, text_size, text_cat, room0, room1, room2, sl0, thi, tlo, tlo2, tlohi, mm_min, hk, resL_three, three_some, hkk, hqq, hbe, *]
    | (refine allK_intro fun n hn => ?_; try simp only [fresh_set] at hn)
    | (refine ifK_intro (fun h => ?_) (fun h => ?_) <;> (try simp only [decide_eq_true_eq, decide_eq_false_iff_not, Bool.not_eq_true', Bool.not_eq_false'] at h) <;> try (exfalso; (try simp only [beq_iff_eq, beq_eq_false_iff_ne, bne_iff_ne, bne_eq_false_iff_eq, ne_eq] at h); omega))
    | (refine keeps_sub (Mem.sub_set ?_) ?_; focus (simp [Mem.set_at, nomem, *]; done))
    | (refine keeps_stab ?_ ?_; focus ((repeat' first | exact stabK_nil _ _ | refine stabK_cons ?_ ?_ | (simp (disch := omega) only [quietA, Option.isSome_some, ↓rulesA, rulesB, rulesC, Int.reduceLT, nth, upd, put, storeN, AV.one, Nat.reduceBEq, Nat.reduceBNe, Int.reduceBEq, Int.reduceBNe, Int.reduceLE, Int.reduceEq, Int.reduceMod, Int.reduceNeg, boolBin, strBin, intBin, unA, fillA, ne_eq, reduceCtorEq, Nat.reduceAdd, Nat.reduceSub, Nat.reduceLeDiff, Nat.reduceLT, Nat.reduceEqDiff, Int.reduceToNat, eq_self, rulesT, bne_self_eq_false, mm_min, mm_max, buOf_some, nilCheck_vp, nilCheck_ptr, nilCheck_yld, nilCheck_func, Obj.g0, Obj.g1, Obj.g2, Obj.g3, Obj.g4, nm0, Obj.s1, Obj.s2, Obj.all, Obj.len, Obj.take, Obj.drop, Obj.sall, Ban.g0, Ban.g1, Ban.all, Ban.len, Ban.take, Ban.drop, Ban.sall, Opr.g0, Opr.g1, Opr.g2, Opr.g3, Opr.g4, Opr.all, Opr.len, Opr.take, Opr.drop, Opr.sall, Res.all, Res.len, Res.take, Res.sall, obj_hold, neb, nebb, no0, Oset3, Oset3b, text_size, text_cat, room0, room1, room2, sl0, thi, tlo, tlo2, tlohi, mm_min, hk, resL_three, three_some, hkk, hqq, hbe, *]; done)); done))
    | (refine call_F (f11) (Seens.refl _ _) ?_)
    | (refine pure_F (f11) (Seens.refl _ _) ?_)
    | (refine call_F (f19) (Seens.refl _ _) ?_)
    | (refine pure_F (f19) (Seens.refl _ _) ?_)
  rename_i a ha b hb c hc d hd'
  clear hbe hne f11 f19
  refine loop_intro (fun j env m => ∃ i : Nat, k ≤ i ∧ (i = k ∨ i ≤ min (k + q) o.data.length) ∧ j = k + q - i ∧ m = ((((((nomem.set a (.cells false 43 o.cells)).set b (.cells false 35 who.cells)).set c (.cells false 23 op.cells)).set d (.cells false 43 noObj.cells)).set n (.cells false 39 [.val (.int .i64 0), .val (.int .i64 0), .val (.int .i64 0), .val (.string ⟨#[]⟩)])).set N (.cells true 5 ((zr o.data (min k o.data.length) (min i o.data.length)).map byteC).flatten)) ∧ env.length = 262 ∧ nth env 1 = .val (.bool true) ∧ nth env 4 = .ptr a 0 ∧ nth env 7 = .ptr c 0 ∧ nth env 8 = .ptr d 0 ∧ nth env 10 = .ptr n 0 ∧ nth env 14 = .sl N 0 o.data.length o.data.length ∧ nth env 15 = .val (.int .i64 i)) q _ (Mem.sub.refl _) ⟨k, by omega, .inl rfl, by omega, by rw [zr_same], rfl, rfl, rfl, rfl, rfl, rfl, rfl, rfl⟩ ?_
  rintro j env m ⟨i, hi1, hi2, rfl, rfl, hlen, e1, e4, e7, e8, e10, e14, e15⟩
  have hRl : (zr o.data (min k o.data.length) (min i o.data.length)).length = o.data.length := zr_len (by omega) (by omega)
  by_cases hil : i < k + q ∧ i < o.data.length
  · obtain ⟨g1, g2⟩ := hil
    have hnx : zr o.data (min k o.data.length) (min (i + 1) o.data.length) = (zr o.data (min k o.data.length) (min i o.data.length)).set i 0 := by
      rw [Nat.min_eq_left (show i ≤ o.data.length by omega), Nat.min_eq_left (show i + 1 ≤ o.data.length by omega)]
      exact (zr_next (by omega) g2).symm
    replace hnx : Kept _ := hnx
    replace hi2 : Kept _ := hi2
    generalize hR : zr o.data (min k o.data.length) (min i o.data.length) = R at *
    have hix := ix67 N i o.data.length i rfl g2
    have hsb := set_byte R i (by omega)
    have hfl : (R.map byteC).flatten.length = o.data.length := by rw [flatten_one, hRl]
    clear hR
    repeat' first
      | simp -dsimp (disch := omega) only [↓rulesA, rulesB, rulesC, Int.reduceLT, nth, upd, put, storeN, AV.one, Nat.reduceBEq, Nat.reduceBNe, Int.reduceBEq, Int.reduceBNe, Int.reduceLE, Int.reduceEq, Int.reduceMod, Int.reduceNeg, boolBin, strBin, intBin, unA, fillA, ne_eq, reduceCtorEq, Nat.reduceAdd, Nat.reduceSub, Nat.reduceLeDiff, Nat.reduceLT, Nat.reduceEqDiff, Int.reduceToNat, eq_self, rulesT, bne_self_eq_false, mm_min, mm_max, buOf_some, nilCheck_vp, nilCheck_ptr, nilCheck_yld, nilCheck_func, Obj.g0, Obj.g1, Obj.g2, Obj.g3, Obj.g4, nm0, Obj.s1, Obj.s2, Obj.all, Obj.len, Obj.take, Obj.drop, Obj.sall, Ban.g0, Ban.g1, Ban.all, Ban.len, Ban.take, Ban.drop, Ban.sall, Opr.g0, Opr.g1, Opr.g2, Opr.g3, Opr.g4, Opr.all, Opr.len, Opr.take, Opr.drop, Opr.sall, Res.all, Res.len, Res.take, Res.sall, obj_hold, neb, nebb, no0, Oset3, Oset3b, text_size, text_cat, room0, room1, room2, sl0, thi, tlo, tlo2, tlohi, mm_min, hk, resL_three, three_some, hkk, hqq, *]
      | (refine allK_intro fun n hn => ?_; try simp only [fresh_set] at hn)
      | (refine ifK_intro (fun h => ?_) (fun h => ?_) <;> (try simp only [decide_eq_true_eq, decide_eq_false_iff_not, Bool.not_eq_true', Bool.not_eq_false'] at h) <;> try (exfalso; (try simp only [beq_iff_eq, beq_eq_false_iff_ne, bne_iff_ne, bne_eq_false_iff_eq, ne_eq] at h); omega))
      | (refine keeps_sub (Mem.sub_set ?_) ?_; focus (simp [Mem.set_at, nomem, *]; done))
      | (refine keeps_stab ?_ ?_; focus ((repeat' first | exact stabK_nil _ _ | refine stabK_cons ?_ ?_ | (simp (disch := omega) only [quietA, Option.isSome_some, ↓rulesA, rulesB, rulesC, Int.reduceLT, nth, upd, put, storeN, AV.one, Nat.reduceBEq, Nat.reduceBNe, Int.reduceBEq, Int.reduceBNe, Int.reduceLE, Int.reduceEq, Int.reduceMod, Int.reduceNeg, boolBin, strBin, intBin, unA, fillA, ne_eq, reduceCtorEq, Nat.reduceAdd, Nat.reduceSub, Nat.reduceLeDiff, Nat.reduceLT, Nat.reduceEqDiff, Int.reduceToNat, eq_self, rulesT, bne_self_eq_false, mm_min, mm_max, buOf_some, nilCheck_vp, nilCheck_ptr, nilCheck_yld, nilCheck_func, Obj.g0, Obj.g1, Obj.g2, Obj.g3, Obj.g4, nm0, Obj.s1, Obj.s2, Obj.all, Obj.len, Obj.take, Obj.drop, Obj.sall, Ban.g0, Ban.g1, Ban.all, Ban.len, Ban.take, Ban.drop, Ban.sall, Opr.g0, Opr.g1, Opr.g2, Opr.g3, Opr.g4, Opr.all, Opr.len, Opr.take, Opr.drop, Opr.sall, Res.all, Res.len, Res.take, Res.sall, obj_hold, neb, nebb, no0, Oset3, Oset3b, text_size, text_cat, room0, room1, room2, sl0, thi, tlo, tlo2, tlohi, mm_min, hk, resL_three, three_some, hkk, hqq, *]; done)); done))
    refine again_intro (k + q - (i + 1)) (by omega) ((((((nomem.set a (.cells false 43 o.cells)).set b (.cells false 35 who.cells)).set c (.cells false 23 op.cells)).set d (.cells false 43 noObj.cells)).set n (.cells false 39 [.val (.int .i64 0), .val (.int .i64 0), .val (.int .i64 0), .val (.string ⟨#[]⟩)])).set N (.cells true 5 ((zr o.data (min k o.data.length) (min (i + 1) o.data.length)).map byteC).flatten)) (by rw [(hnx : _ = _)]; exact Mem.sub.refl _) ⟨i + 1, by omega, .inr (by omega), rfl, rfl, ?_, ?_, ?_, ?_, ?_, ?_, ?_, ?_⟩
    all_goals try (simp (disch := omega) only [nth_upd, pickB_true, pickB_false, inB_lt, upd_len, cast_succ, Int.cast_ofNat_Int, Nat.reduceBEq, beq_self_eq_true, reduceCtorEq, *]; done)
  · have hend : min i o.data.length = min (min k o.data.length + q) o.data.length := by omega
    rw [hend] at hRl ⊢
    clear hend
    generalize zr o.data (min k o.data.length) (min (min k o.data.length + q) o.data.length) = R at *
    have cv : ∀ m : Mem, m N = some (.cells true 5 (R.map byteC).flatten) → convA Try.prog m 67 9 (.sl N 0 o.data.length o.data.length) = some (.val (.string ⟨R.toArray⟩)) := fun m hm =>
      conv_own ti_67 rfl ti_9 rfl ti_5 rfl hm R (by rw [List.drop_zero]; exact List.take_of_length_le (by rw [flatten_one, hRl]; exact Nat.le_refl _)) (by rw [flatten_one, hRl, Nat.zero_add]; exact Nat.le_refl _)
    have f51 : F Try.prog 51 [.agg (Obj.cells { o with data := R })] (.val (.int .i64 o.data.length)) := by
      have := F51 { o with data := R }
      rw [show ({ o with data := R } : Obj).data.length = o.data.length from hRl] at this
      exact this
    have f51' : F Try.prog 51 [.agg (Obj.cells ⟨o.name, R, o.locked, o.client, o.inst⟩)] (.val (.int .i64 o.data.length)) := f51
    have hfl : (R.map byteC).flatten.length = o.data.length := by rw [flatten_one, hRl]
    clear hi1 hi2
    have hcv := cv ((((((nomem.set a (.cells false 43 o.cells)).set b (.cells false 35 who.cells)).set c (.cells false 23 op.cells)).set d (.cells false 43 noObj.cells)).set n (.cells false 39 [.val (.int .i64 0), .val (.int .i64 0), .val (.int .i64 0), .val (.string ⟨#[]⟩)])).set N (.cells true 5 (R.map byteC).flatten)) (Mem.set_same _ _ _)
    clear cv
    repeat' first
      | simp -dsimp (disch := omega) only [↓rulesA, rulesB, rulesC, Int.reduceLT, nth, upd, put, storeN, AV.one, Nat.reduceBEq, Nat.reduceBNe, Int.reduceBEq, Int.reduceBNe, Int.reduceLE, Int.reduceEq, Int.reduceMod, Int.reduceNeg, boolBin, strBin, intBin, unA, fillA, ne_eq, reduceCtorEq, Nat.reduceAdd, Nat.reduceSub, Nat.reduceLeDiff, Nat.reduceLT, Nat.reduceEqDiff, Int.reduceToNat, eq_self, rulesT, bne_self_eq_false, mm_min, mm_max, buOf_some, nilCheck_vp, nilCheck_ptr, nilCheck_yld, nilCheck_func, Obj.g0, Obj.g1, Obj.g2, Obj.g3, Obj.g4, nm0, Obj.s1, Obj.s2, Obj.all, Obj.len, Obj.take, Obj.drop, Obj.sall, Ban.g0, Ban.g1, Ban.all, Ban.len, Ban.take, Ban.drop, Ban.sall, Opr.g0, Opr.g1, Opr.g2, Opr.g3, Opr.g4, Opr.all, Opr.len, Opr.take, Opr.drop, Opr.sall, Res.all, Res.len, Res.take, Res.sall, obj_hold, neb, nebb, no0, Oset3, Oset3b, text_size, text_cat, room0, room1, room2, sl0, thi, tlo, tlo2, tlohi, mm_min, hk, resL_three, three_some, hkk, hqq, *]
      | (refine allK_intro fun n hn => ?_; try simp only [fresh_set] at hn)
      | (refine ifK_intro (fun h => ?_) (fun h => ?_) <;> (try simp only [decide_eq_true_eq, decide_eq_false_iff_not, Bool.not_eq_true', Bool.not_eq_false'] at h) <;> try (exfalso; (try simp only [beq_iff_eq, beq_eq_false_iff_ne, bne_iff_ne, bne_eq_false_iff_eq, ne_eq] at h); omega))
      | (refine keeps_sub (Mem.sub_set ?_) ?_; focus (simp [Mem.set_at, nomem, *]; done))
      | (refine keeps_stab ?_ ?_; focus ((repeat' first | exact stabK_nil _ _ | refine stabK_cons ?_ ?_ | (simp (disch := omega) only [quietA, Option.isSome_some, ↓rulesA, rulesB, rulesC, Int.reduceLT, nth, upd, put, storeN, AV.one, Nat.reduceBEq, Nat.reduceBNe, Int.reduceBEq, Int.reduceBNe, Int.reduceLE, Int.reduceEq, Int.reduceMod, Int.reduceNeg, boolBin, strBin, intBin, unA, fillA, ne_eq, reduceCtorEq, Nat.reduceAdd, Nat.reduceSub, Nat.reduceLeDiff, Nat.reduceLT, Nat.reduceEqDiff, Int.reduceToNat, eq_self, rulesT, bne_self_eq_false, mm_min, mm_max, buOf_some, nilCheck_vp, nilCheck_ptr, nilCheck_yld, nilCheck_func, Obj.g0, Obj.g1, Obj.g2, Obj.g3, Obj.g4, nm0, Obj.s1, Obj.s2, Obj.all, Obj.len, Obj.take, Obj.drop, Obj.sall, Ban.g0, Ban.g1, Ban.all, Ban.len, Ban.take, Ban.drop, Ban.sall, Opr.g0, Opr.g1, Opr.g2, Opr.g3, Opr.g4, Opr.all, Opr.len, Opr.take, Opr.drop, Opr.sall, Res.all, Res.len, Res.take, Res.sall, obj_hold, neb, nebb, no0, Oset3, Oset3b, text_size, text_cat, room0, room1, room2, sl0, thi, tlo, tlo2, tlohi, mm_min, hk, resL_three, three_some, hkk, hqq, *]; done)); done))
      | (refine call_F (f51) (Seens.refl _ _) ?_)
      | (refine pure_F (f51) (Seens.refl _ _) ?_)
      | (refine call_F (f51') (Seens.refl _ _) ?_)
      | (refine pure_F (f51') (Seens.refl _ _) ?_)
    all_goals first
      | (exfalso; omega)
      | (refine New.eq ?_ rfl; unfold res25 sizeR; rw [show ({ o with data := R } : Obj).data.length = o.data.length from hRl]; rfl)
end Go.Proofs.Ytanfgfclpjmngaa

set_option maxRecDepth 100000
set_option maxHeartbeats 1000000
set_option linter.unusedSimpArgs false
set_option linter.unusedVariables false
namespace Go.Proofs.Ytanfgfclpjmngaa
open Go.Abs
attribute [local irreducible] C X CC Y CV CW binK litK AppK PureC PureCV againK loopV rangeV allK ifK got onB condK V stepsK planK opK firstK seeE keepsK
theorem F25 (o : Obj) (there : Bool) (who : Ban) (op : Opr) (hop : op.ok) (hd : there = true → o.data.length ≤ 64) : F Try.prog 25 [.agg o.cells, .val (.bool there), .agg who.cells, .agg op.cells] (res25 (doS o there who op) (doR o there who op)) := by
  cases hdo : doOk who op with
  | false =>
    have eS : doS o there who op = sheetOf o there who op := if_neg (by rw [hdo]; decide)
    have eR : doR o there who op = errR 27 := if_neg (by rw [hdo]; decide)
    rw [eS, eR]
    have f11 := F11 op hop
    have f19 := F19 who
    unfold doOk at hdo
    clear eS eR hd
    cases there with
    | true =>
      have tl := toldT o 27 0
      have eO : res25 (sheetOf o true who op) (errR 27) = .tup [.agg o.cells, .val (.bool true), .agg (Res.cells ⟨27, 0, 0, []⟩)] := rfl
      rw [eO]
      refine F25_of ?_
      unfold k25
      repeat' first
        | simp -dsimp (disch := omega) only [↓rulesA, rulesB, rulesC, Int.reduceLT, nth, upd, put, storeN, AV.one, Nat.reduceBEq, Nat.reduceBNe, Int.reduceBEq, Int.reduceBNe, Int.reduceLE, Int.reduceEq, Int.reduceMod, Int.reduceNeg, boolBin, strBin, intBin, unA, fillA, ne_eq, reduceCtorEq, Nat.reduceAdd, Nat.reduceSub, Nat.reduceLeDiff, Nat.reduceLT, Nat.reduceEqDiff, Int.reduceToNat, eq_self, rulesT, bne_self_eq_false, mm_min, mm_max, buOf_some, nilCheck_vp, nilCheck_ptr, nilCheck_yld, nilCheck_func, Obj.g0, Obj.g1, Obj.g2, Obj.g3, Obj.g4, nm0, Obj.s1, Obj.s2, Obj.all, Obj.len, Obj.take, Obj.drop, Obj.sall, Ban.g0, Ban.g1, Ban.all, Ban.len, Ban.take, Ban.drop, Ban.sall, Opr.g0, Opr.g1, Opr.g2, Opr.g3, Opr.g4, Opr.all, Opr.len, Opr.take, Opr.drop, Opr.sall, Res.all, Res.len, Res.take, Res.sall, obj_hold, neb, nebb, no0, Oset3, Oset3b, text_size, text_cat, room0, room1, room2, sl0, thi, tlo, tlo2, tlohi, mm_min, resL_three, three_some, *]
        | (refine allK_intro fun n hn => ?_; try simp only [fresh_set] at hn)
        | (refine ifK_intro (fun h => ?_) (fun h => ?_) <;> (try simp only [decide_eq_true_eq, decide_eq_false_iff_not, Bool.not_eq_true', Bool.not_eq_false'] at h) <;> try (exfalso; (try simp only [beq_iff_eq, beq_eq_false_iff_ne, bne_iff_ne, bne_eq_false_iff_eq, ne_eq] at h); omega))
        | (refine keeps_sub (Mem.sub_set ?_) ?_; focus (simp [Mem.set_at, nomem, *]; done))
        | (refine call_F (f11) (Seens.refl _ _) ?_)
        | (refine pure_F (f11) (Seens.refl _ _) ?_)
        | (refine call_F (f19) (Seens.refl _ _) ?_)
        | (refine pure_F (f19) (Seens.refl _ _) ?_)
        | (refine call_F (tl) (Seens.refl _ _) ?_)
        | (refine pure_F (tl) (Seens.refl _ _) ?_)
      all_goals first | exact New.eq rfl rfl | (exfalso; simp_all; done)
    | false =>
      have tl := toldN noObj 27 0
      have eO : res25 (sheetOf o false who op) (errR 27) = .tup [.agg noObj.cells, .val (.bool false), .agg (Res.cells ⟨27, 0, 0, []⟩)] := rfl
      rw [eO]
      refine F25_of ?_
      unfold k25
      repeat' first
        | simp -dsimp (disch := omega) only [↓rulesA, rulesB, rulesC, Int.reduceLT, nth, upd, put, storeN, AV.one, Nat.reduceBEq, Nat.reduceBNe, Int.reduceBEq, Int.reduceBNe, Int.reduceLE, Int.reduceEq, Int.reduceMod, Int.reduceNeg, boolBin, strBin, intBin, unA, fillA, ne_eq, reduceCtorEq, Nat.reduceAdd, Nat.reduceSub, Nat.reduceLeDiff, Nat.reduceLT, Nat.reduceEqDiff, Int.reduceToNat, eq_self, rulesT, bne_self_eq_false, mm_min, mm_max, buOf_some, nilCheck_vp, nilCheck_ptr, nilCheck_yld, nilCheck_func, Obj.g0, Obj.g1, Obj.g2, Obj.g3, Obj.g4, nm0, Obj.s1, Obj.s2, Obj.all, Obj.len, Obj.take, Obj.drop, Obj.sall, Ban.g0, Ban.g1, Ban.all, Ban.len, Ban.take, Ban.drop, Ban.sall, Opr.g0, Opr.g1, Opr.g2, Opr.g3, Opr.g4, Opr.all, Opr.len, Opr.take, Opr.drop, Opr.sall, Res.all, Res.len, Res.take, Res.sall, obj_hold, neb, nebb, no0, Oset3, Oset3b, text_size, text_cat, room0, room1, room2, sl0, thi, tlo, tlo2, tlohi, mm_min, resL_three, three_some, *]
        | (refine allK_intro fun n hn => ?_; try simp only [fresh_set] at hn)
        | (refine ifK_intro (fun h => ?_) (fun h => ?_) <;> (try simp only [decide_eq_true_eq, decide_eq_false_iff_not, Bool.not_eq_true', Bool.not_eq_false'] at h) <;> try (exfalso; (try simp only [beq_iff_eq, beq_eq_false_iff_ne, bne_iff_ne, bne_eq_false_iff_eq, ne_eq] at h); omega))
        | (refine keeps_sub (Mem.sub_set ?_) ?_; focus (simp [Mem.set_at, nomem, *]; done))
        | (refine call_F (f11) (Seens.refl _ _) ?_)
        | (refine pure_F (f11) (Seens.refl _ _) ?_)
        | (refine call_F (f19) (Seens.refl _ _) ?_)
        | (refine pure_F (f19) (Seens.refl _ _) ?_)
        | (refine call_F (tl) (Seens.refl _ _) ?_)
        | (refine pure_F (tl) (Seens.refl _ _) ?_)
      all_goals first | exact New.eq rfl rfl | (exfalso; simp_all; done)
  | true =>
    have hd2 : opOk op = true ∧ whoB who = true := by unfold doOk at hdo; simpa using hdo
    cases there with
    | true =>
      have hd' := hd rfl
      rcases op_kind hd2.1 with e | e | e | e | e | e | e | e | e | e
      · exact F25_k1t o who op hop hd' hdo e
      · exact F25_k2t o who op hop hd' hdo e
      · exact F25_k3t o who op hop hd' hdo e
      · exact F25_k4t o who op hop hd' hdo e
      · exact F25_k5t o who op hop hd' hdo e
      · exact F25_k6t o who op hop hd' hdo e
      · exact F25_k7t o who op hop hd' hdo e
      · exact F25_k8t o who op hop hd' hdo e
      · exact F25_k9t o who op hop hd' hdo e
      · exact F25_k10t o who op hop hd' hdo e
    | false =>
      rcases op_kind hd2.1 with e | e | e | e | e | e | e | e | e | e
      · exact F25_k1n o who op hop hdo e
      · exact F25_k2n o who op hop hdo e
      · exact F25_k3n o who op hop hdo e
      · exact F25_k4n o who op hop hdo e
      · exact F25_k5n o who op hop hdo e
      · exact F25_k6n o who op hop hdo e
      · exact F25_k7n o who op hop hdo e
      · exact F25_k8n o who op hop hdo e
      · exact F25_k9n o who op hop hdo e
      · exact F25_k10n o who op hop hdo e
theorem F23 (l : List Obj) (x : Bool) (who : Ban) (op : Opr) (hop : op.ok) (hfit : fitB l = true) : F Try.prog 23 [.vs (l.map Obj.cells) x, .agg who.cells, .agg op.cells] (.tup [.vs ((inL l who op).map Obj.cells) false, .agg (inR l who op).cells]) := by
  have hl16 := fit_len hfit
  have f11 := F11 op hop
  have f19 := F19 who
  have f26 := F26 l x op.name hfit
  have hdat : foundB l op.name (placeN l op.name) = true → (oAt l op.name).data.length ≤ 64 := fun h => (ok_parts (oAt_good hfit _ h).1).2.1
  have f25 := F25 (oAt l op.name) (foundB l op.name (placeN l op.name)) who op hop hdat
  have o38 := O38 l x op.name (outO (inDo l who op)) (inDo l who op).there hl16
  have hput := put_is hfit op.name (outO (inDo l who op)) (inDo l who op).there
  refine F23_of ?_
  unfold k23
  cases hdo : doOk who op with
  | false =>
    have e1 : inL l who op = l := by unfold inL; rw [if_pos hdo]
    have e2 : inR l who op = errR 27 := by unfold inR; rw [if_pos hdo]
    rw [e1, e2]
    unfold doOk at hdo
    clear e1 e2 f26 f25 o38 hput hdat hfit
    cases h1 : opOk op with
    | false =>
      rw [h1] at f11
      clear hdo
      repeat' first
        | simp -dsimp (disch := omega) only [↓rulesA, rulesB, rulesC, Int.reduceLT, nth, upd, put, storeN, AV.one, Nat.reduceBEq, Nat.reduceBNe, Int.reduceBEq, Int.reduceBNe, Int.reduceLE, Int.reduceEq, Int.reduceMod, Int.reduceNeg, boolBin, strBin, intBin, unA, fillA, ne_eq, reduceCtorEq, Nat.reduceAdd, Nat.reduceSub, Nat.reduceLeDiff, Nat.reduceLT, Nat.reduceEqDiff, Int.reduceToNat, eq_self, rulesT, bne_self_eq_false, mm_min, mm_max, buOf_some, nilCheck_vp, nilCheck_ptr, nilCheck_yld, nilCheck_func, Obj.g0, Obj.g1, Obj.g2, Obj.g3, Obj.g4, nm0, Obj.s1, Obj.s2, Obj.all, Obj.len, Obj.take, Obj.drop, Obj.sall, Ban.g0, Ban.g1, Ban.all, Ban.len, Ban.take, Ban.drop, Ban.sall, Opr.g0, Opr.g1, Opr.g2, Opr.g3, Opr.g4, Opr.all, Opr.len, Opr.take, Opr.drop, Opr.sall, Res.all, Res.len, Res.take, Res.sall, obj_hold, neb, nebb, no0, Oset3, Oset3b, text_size, text_cat, room0, room1, room2, sl0, thi, tlo, tlo2, tlohi, mm_min, resL_three, three_some, *]
        | (refine allK_intro fun n hn => ?_; try simp only [fresh_set] at hn)
        | (refine ifK_intro (fun h => ?_) (fun h => ?_) <;> (try simp only [decide_eq_true_eq, decide_eq_false_iff_not, Bool.not_eq_true', Bool.not_eq_false'] at h) <;> try (exfalso; (try simp only [beq_iff_eq, beq_eq_false_iff_ne, bne_iff_ne, bne_eq_false_iff_eq, ne_eq] at h); omega))
        | (refine keeps_sub (Mem.sub_set ?_) ?_; focus (simp [Mem.set_at, nomem, *]; done))
        | (refine call_F (f11) (Seens.refl _ _) ?_)
        | (refine pure_F (f11) (Seens.refl _ _) ?_)
        | (refine call_F (f19) (Seens.refl _ _) ?_)
        | (refine pure_F (f19) (Seens.refl _ _) ?_)
      refine call_O (O22 l x (by omega)) (Seens.refl _ _) (obj_vals _) fun nc hnc => ?_
      simp only [fresh_set] at hnc
      repeat' first
        | simp -dsimp (disch := omega) only [↓rulesA, rulesB, rulesC, Int.reduceLT, nth, upd, put, storeN, AV.one, Nat.reduceBEq, Nat.reduceBNe, Int.reduceBEq, Int.reduceBNe, Int.reduceLE, Int.reduceEq, Int.reduceMod, Int.reduceNeg, boolBin, strBin, intBin, unA, fillA, ne_eq, reduceCtorEq, Nat.reduceAdd, Nat.reduceSub, Nat.reduceLeDiff, Nat.reduceLT, Nat.reduceEqDiff, Int.reduceToNat, eq_self, rulesT, bne_self_eq_false, mm_min, mm_max, buOf_some, nilCheck_vp, nilCheck_ptr, nilCheck_yld, nilCheck_func, Obj.g0, Obj.g1, Obj.g2, Obj.g3, Obj.g4, nm0, Obj.s1, Obj.s2, Obj.all, Obj.len, Obj.take, Obj.drop, Obj.sall, Ban.g0, Ban.g1, Ban.all, Ban.len, Ban.take, Ban.drop, Ban.sall, Opr.g0, Opr.g1, Opr.g2, Opr.g3, Opr.g4, Opr.all, Opr.len, Opr.take, Opr.drop, Opr.sall, Res.all, Res.len, Res.take, Res.sall, obj_hold, neb, nebb, no0, Oset3, Oset3b, text_size, text_cat, room0, room1, room2, sl0, thi, tlo, tlo2, tlohi, mm_min, resL_three, three_some, *]
        | (refine allK_intro fun n hn => ?_; try simp only [fresh_set] at hn)
        | (refine ifK_intro (fun h => ?_) (fun h => ?_) <;> (try simp only [decide_eq_true_eq, decide_eq_false_iff_not, Bool.not_eq_true', Bool.not_eq_false'] at h) <;> try (exfalso; (try simp only [beq_iff_eq, beq_eq_false_iff_ne, bne_iff_ne, bne_eq_false_iff_eq, ne_eq] at h); omega))
        | (refine keeps_sub (Mem.sub_set ?_) ?_; focus (simp [Mem.set_at, nomem, *]; done))
        | (refine call_F (f11) (Seens.refl _ _) ?_)
        | (refine pure_F (f11) (Seens.refl _ _) ?_)
        | (refine call_F (f19) (Seens.refl _ _) ?_)
        | (refine pure_F (f19) (Seens.refl _ _) ?_)
      exact in_res0 (opn := true) (by simp [Mem.set_at, *]) rfl
    | true =>
      rw [h1] at f11 hdo
      rw [show whoB who = false from hdo] at f19
      clear hdo
      repeat' first
        | simp -dsimp (disch := omega) only [↓rulesA, rulesB, rulesC, Int.reduceLT, nth, upd, put, storeN, AV.one, Nat.reduceBEq, Nat.reduceBNe, Int.reduceBEq, Int.reduceBNe, Int.reduceLE, Int.reduceEq, Int.reduceMod, Int.reduceNeg, boolBin, strBin, intBin, unA, fillA, ne_eq, reduceCtorEq, Nat.reduceAdd, Nat.reduceSub, Nat.reduceLeDiff, Nat.reduceLT, Nat.reduceEqDiff, Int.reduceToNat, eq_self, rulesT, bne_self_eq_false, mm_min, mm_max, buOf_some, nilCheck_vp, nilCheck_ptr, nilCheck_yld, nilCheck_func, Obj.g0, Obj.g1, Obj.g2, Obj.g3, Obj.g4, nm0, Obj.s1, Obj.s2, Obj.all, Obj.len, Obj.take, Obj.drop, Obj.sall, Ban.g0, Ban.g1, Ban.all, Ban.len, Ban.take, Ban.drop, Ban.sall, Opr.g0, Opr.g1, Opr.g2, Opr.g3, Opr.g4, Opr.all, Opr.len, Opr.take, Opr.drop, Opr.sall, Res.all, Res.len, Res.take, Res.sall, obj_hold, neb, nebb, no0, Oset3, Oset3b, text_size, text_cat, room0, room1, room2, sl0, thi, tlo, tlo2, tlohi, mm_min, resL_three, three_some, *]
        | (refine allK_intro fun n hn => ?_; try simp only [fresh_set] at hn)
        | (refine ifK_intro (fun h => ?_) (fun h => ?_) <;> (try simp only [decide_eq_true_eq, decide_eq_false_iff_not, Bool.not_eq_true', Bool.not_eq_false'] at h) <;> try (exfalso; (try simp only [beq_iff_eq, beq_eq_false_iff_ne, bne_iff_ne, bne_eq_false_iff_eq, ne_eq] at h); omega))
        | (refine keeps_sub (Mem.sub_set ?_) ?_; focus (simp [Mem.set_at, nomem, *]; done))
        | (refine call_F (f11) (Seens.refl _ _) ?_)
        | (refine pure_F (f11) (Seens.refl _ _) ?_)
        | (refine call_F (f19) (Seens.refl _ _) ?_)
        | (refine pure_F (f19) (Seens.refl _ _) ?_)
      refine call_O (O22 l x (by omega)) (Seens.refl _ _) (obj_vals _) fun nc hnc => ?_
      simp only [fresh_set] at hnc
      repeat' first
        | simp -dsimp (disch := omega) only [↓rulesA, rulesB, rulesC, Int.reduceLT, nth, upd, put, storeN, AV.one, Nat.reduceBEq, Nat.reduceBNe, Int.reduceBEq, Int.reduceBNe, Int.reduceLE, Int.reduceEq, Int.reduceMod, Int.reduceNeg, boolBin, strBin, intBin, unA, fillA, ne_eq, reduceCtorEq, Nat.reduceAdd, Nat.reduceSub, Nat.reduceLeDiff, Nat.reduceLT, Nat.reduceEqDiff, Int.reduceToNat, eq_self, rulesT, bne_self_eq_false, mm_min, mm_max, buOf_some, nilCheck_vp, nilCheck_ptr, nilCheck_yld, nilCheck_func, Obj.g0, Obj.g1, Obj.g2, Obj.g3, Obj.g4, nm0, Obj.s1, Obj.s2, Obj.all, Obj.len, Obj.take, Obj.drop, Obj.sall, Ban.g0, Ban.g1, Ban.all, Ban.len, Ban.take, Ban.drop, Ban.sall, Opr.g0, Opr.g1, Opr.g2, Opr.g3, Opr.g4, Opr.all, Opr.len, Opr.take, Opr.drop, Opr.sall, Res.all, Res.len, Res.take, Res.sall, obj_hold, neb, nebb, no0, Oset3, Oset3b, text_size, text_cat, room0, room1, room2, sl0, thi, tlo, tlo2, tlohi, mm_min, resL_three, three_some, *]
        | (refine allK_intro fun n hn => ?_; try simp only [fresh_set] at hn)
        | (refine ifK_intro (fun h => ?_) (fun h => ?_) <;> (try simp only [decide_eq_true_eq, decide_eq_false_iff_not, Bool.not_eq_true', Bool.not_eq_false'] at h) <;> try (exfalso; (try simp only [beq_iff_eq, beq_eq_false_iff_ne, bne_iff_ne, bne_eq_false_iff_eq, ne_eq] at h); omega))
        | (refine keeps_sub (Mem.sub_set ?_) ?_; focus (simp [Mem.set_at, nomem, *]; done))
        | (refine call_F (f11) (Seens.refl _ _) ?_)
        | (refine pure_F (f11) (Seens.refl _ _) ?_)
        | (refine call_F (f19) (Seens.refl _ _) ?_)
        | (refine pure_F (f19) (Seens.refl _ _) ?_)
      exact in_res0 (opn := true) (by simp [Mem.set_at, *]) rfl
  | true =>
    have hd2 : opOk op = true ∧ whoB who = true := by unfold doOk at hdo; simpa using hdo
    rw [hd2.1] at f11
    rw [hd2.2] at f19
    by_cases h10 : op.kind = 10
    · have e1 : inL l who op = l := by unfold inL; rw [if_neg (by rw [hdo]; decide), if_pos h10]
      have e2 : inR l who op = errR 0 := by unfold inR; rw [if_neg (by rw [hdo]; decide), if_pos h10]
      rw [e1, e2]
      clear e1 e2 f26 f25 o38 hput hdat hfit hd2 hdo
      repeat' first
        | simp -dsimp (disch := omega) only [↓rulesA, rulesB, rulesC, Int.reduceLT, nth, upd, put, storeN, AV.one, Nat.reduceBEq, Nat.reduceBNe, Int.reduceBEq, Int.reduceBNe, Int.reduceLE, Int.reduceEq, Int.reduceMod, Int.reduceNeg, boolBin, strBin, intBin, unA, fillA, ne_eq, reduceCtorEq, Nat.reduceAdd, Nat.reduceSub, Nat.reduceLeDiff, Nat.reduceLT, Nat.reduceEqDiff, Int.reduceToNat, eq_self, rulesT, bne_self_eq_false, mm_min, mm_max, buOf_some, nilCheck_vp, nilCheck_ptr, nilCheck_yld, nilCheck_func, Obj.g0, Obj.g1, Obj.g2, Obj.g3, Obj.g4, nm0, Obj.s1, Obj.s2, Obj.all, Obj.len, Obj.take, Obj.drop, Obj.sall, Ban.g0, Ban.g1, Ban.all, Ban.len, Ban.take, Ban.drop, Ban.sall, Opr.g0, Opr.g1, Opr.g2, Opr.g3, Opr.g4, Opr.all, Opr.len, Opr.take, Opr.drop, Opr.sall, Res.all, Res.len, Res.take, Res.sall, obj_hold, neb, nebb, no0, Oset3, Oset3b, text_size, text_cat, room0, room1, room2, sl0, thi, tlo, tlo2, tlohi, mm_min, resL_three, three_some, *]
        | (refine allK_intro fun n hn => ?_; try simp only [fresh_set] at hn)
        | (refine ifK_intro (fun h => ?_) (fun h => ?_) <;> (try simp only [decide_eq_true_eq, decide_eq_false_iff_not, Bool.not_eq_true', Bool.not_eq_false'] at h) <;> try (exfalso; (try simp only [beq_iff_eq, beq_eq_false_iff_ne, bne_iff_ne, bne_eq_false_iff_eq, ne_eq] at h); omega))
        | (refine keeps_sub (Mem.sub_set ?_) ?_; focus (simp [Mem.set_at, nomem, *]; done))
        | (refine call_F (f11) (Seens.refl _ _) ?_)
        | (refine pure_F (f11) (Seens.refl _ _) ?_)
        | (refine call_F (f19) (Seens.refl _ _) ?_)
        | (refine pure_F (f19) (Seens.refl _ _) ?_)
      refine call_O (O22 l x (by omega)) (Seens.refl _ _) (obj_vals _) fun nc hnc => ?_
      simp only [fresh_set] at hnc
      repeat' first
        | simp -dsimp (disch := omega) only [↓rulesA, rulesB, rulesC, Int.reduceLT, nth, upd, put, storeN, AV.one, Nat.reduceBEq, Nat.reduceBNe, Int.reduceBEq, Int.reduceBNe, Int.reduceLE, Int.reduceEq, Int.reduceMod, Int.reduceNeg, boolBin, strBin, intBin, unA, fillA, ne_eq, reduceCtorEq, Nat.reduceAdd, Nat.reduceSub, Nat.reduceLeDiff, Nat.reduceLT, Nat.reduceEqDiff, Int.reduceToNat, eq_self, rulesT, bne_self_eq_false, mm_min, mm_max, buOf_some, nilCheck_vp, nilCheck_ptr, nilCheck_yld, nilCheck_func, Obj.g0, Obj.g1, Obj.g2, Obj.g3, Obj.g4, nm0, Obj.s1, Obj.s2, Obj.all, Obj.len, Obj.take, Obj.drop, Obj.sall, Ban.g0, Ban.g1, Ban.all, Ban.len, Ban.take, Ban.drop, Ban.sall, Opr.g0, Opr.g1, Opr.g2, Opr.g3, Opr.g4, Opr.all, Opr.len, Opr.take, Opr.drop, Opr.sall, Res.all, Res.len, Res.take, Res.sall, obj_hold, neb, nebb, no0, Oset3, Oset3b, text_size, text_cat, room0, room1, room2, sl0, thi, tlo, tlo2, tlohi, mm_min, resL_three, three_some, *]
        | (refine allK_intro fun n hn => ?_; try simp only [fresh_set] at hn)
        | (refine ifK_intro (fun h => ?_) (fun h => ?_) <;> (try simp only [decide_eq_true_eq, decide_eq_false_iff_not, Bool.not_eq_true', Bool.not_eq_false'] at h) <;> try (exfalso; (try simp only [beq_iff_eq, beq_eq_false_iff_ne, bne_iff_ne, bne_eq_false_iff_eq, ne_eq] at h); omega))
        | (refine keeps_sub (Mem.sub_set ?_) ?_; focus (simp [Mem.set_at, nomem, *]; done))
        | (refine call_F (f11) (Seens.refl _ _) ?_)
        | (refine pure_F (f11) (Seens.refl _ _) ?_)
        | (refine call_F (f19) (Seens.refl _ _) ?_)
        | (refine pure_F (f19) (Seens.refl _ _) ?_)
      exact in_res0 (opn := true) (by simp [Mem.set_at, *]) rfl
    · have e1 : Kept (inL l who op = if (inDo l who op).there then (if foundB l op.name (placeN l op.name) then l.set (placeN l op.name) (inDo l who op).o else if 16 ≤ l.length then l else l.take (placeN l op.name) ++ (inDo l who op).o :: l.drop (placeN l op.name)) else if foundB l op.name (placeN l op.name) then l.take (placeN l op.name) ++ l.drop (placeN l op.name + 1) else l) := by
        show _ = _; unfold inL; rw [if_neg (by rw [hdo]; decide), if_neg h10]
      have e2 : Kept (inR l who op = if (inDo l who op).there = true ∧ foundB l op.name (placeN l op.name) = false ∧ 16 ≤ l.length then errR 23 else inRes l who op) := by
        show _ = _; unfold inR; rw [if_neg (by rw [hdo]; decide), if_neg h10]
      change F Try.prog 25 _ (.tup [.agg (outO (inDo l who op)).cells, .val (.bool (inDo l who op).there), .agg (inRes l who op).cells]) at f25
      have ho : (inDo l who op).there = true → outO (inDo l who op) = (inDo l who op).o := fun h => if_pos h
      replace ho : Kept _ := ho
      replace hput : Kept _ := hput
      clear hdo hdat hfit hd2
      generalize inDo l who op = S at *
      generalize inRes l who op = R at *
      generalize oAt l op.name = oo at *
      generalize outO S = out at *
      generalize hfb : foundB l op.name (placeN l op.name) = fb at *
      generalize placeN l op.name = k at *
      clear hfb
      by_cases hbig : S.there = true ∧ fb = false ∧ 16 ≤ l.length
      · obtain ⟨b1, b2, b3⟩ := hbig
        subst b2
        have x1 : inL l who op = l := by rw [(e1 : _ = _), if_pos b1, if_neg (by decide), if_pos b3]
        have x2 : inR l who op = errR 23 := by rw [(e2 : _ = _), if_pos ⟨b1, rfl, b3⟩]
        rw [x1, x2]
        rw [b1] at f25
        clear e1 e2 x1 x2 o38 hput ho
        repeat' first
          | simp -dsimp (disch := omega) only [↓rulesA, rulesB, rulesC, Int.reduceLT, nth, upd, put, storeN, AV.one, Nat.reduceBEq, Nat.reduceBNe, Int.reduceBEq, Int.reduceBNe, Int.reduceLE, Int.reduceEq, Int.reduceMod, Int.reduceNeg, boolBin, strBin, intBin, unA, fillA, ne_eq, reduceCtorEq, Nat.reduceAdd, Nat.reduceSub, Nat.reduceLeDiff, Nat.reduceLT, Nat.reduceEqDiff, Int.reduceToNat, eq_self, rulesT, bne_self_eq_false, mm_min, mm_max, buOf_some, nilCheck_vp, nilCheck_ptr, nilCheck_yld, nilCheck_func, Obj.g0, Obj.g1, Obj.g2, Obj.g3, Obj.g4, nm0, Obj.s1, Obj.s2, Obj.all, Obj.len, Obj.take, Obj.drop, Obj.sall, Ban.g0, Ban.g1, Ban.all, Ban.len, Ban.take, Ban.drop, Ban.sall, Opr.g0, Opr.g1, Opr.g2, Opr.g3, Opr.g4, Opr.all, Opr.len, Opr.take, Opr.drop, Opr.sall, Res.all, Res.len, Res.take, Res.sall, obj_hold, neb, nebb, no0, Oset3, Oset3b, text_size, text_cat, room0, room1, room2, sl0, thi, tlo, tlo2, tlohi, mm_min, resL_three, three_some, *]
          | (refine allK_intro fun n hn => ?_; try simp only [fresh_set] at hn)
          | (refine ifK_intro (fun h => ?_) (fun h => ?_) <;> (try simp only [decide_eq_true_eq, decide_eq_false_iff_not, Bool.not_eq_true', Bool.not_eq_false'] at h) <;> try (exfalso; (try simp only [beq_iff_eq, beq_eq_false_iff_ne, bne_iff_ne, bne_eq_false_iff_eq, ne_eq] at h); omega))
          | (refine keeps_sub (Mem.sub_set ?_) ?_; focus (simp [Mem.set_at, nomem, *]; done))
          | (refine call_F (f11) (Seens.refl _ _) ?_)
          | (refine pure_F (f11) (Seens.refl _ _) ?_)
          | (refine call_F (f19) (Seens.refl _ _) ?_)
          | (refine pure_F (f19) (Seens.refl _ _) ?_)
          | (refine call_F (f26) (Seens.refl _ _) ?_)
          | (refine pure_F (f26) (Seens.refl _ _) ?_)
          | (refine call_F (f25) (Seens.refl _ _) ?_)
          | (refine pure_F (f25) (Seens.refl _ _) ?_)
        refine call_O (O22 l x (by omega)) (Seens.refl _ _) (obj_vals _) fun nc hnc => ?_
        simp only [fresh_set] at hnc
        repeat' first
          | simp -dsimp (disch := omega) only [↓rulesA, rulesB, rulesC, Int.reduceLT, nth, upd, put, storeN, AV.one, Nat.reduceBEq, Nat.reduceBNe, Int.reduceBEq, Int.reduceBNe, Int.reduceLE, Int.reduceEq, Int.reduceMod, Int.reduceNeg, boolBin, strBin, intBin, unA, fillA, ne_eq, reduceCtorEq, Nat.reduceAdd, Nat.reduceSub, Nat.reduceLeDiff, Nat.reduceLT, Nat.reduceEqDiff, Int.reduceToNat, eq_self, rulesT, bne_self_eq_false, mm_min, mm_max, buOf_some, nilCheck_vp, nilCheck_ptr, nilCheck_yld, nilCheck_func, Obj.g0, Obj.g1, Obj.g2, Obj.g3, Obj.g4, nm0, Obj.s1, Obj.s2, Obj.all, Obj.len, Obj.take, Obj.drop, Obj.sall, Ban.g0, Ban.g1, Ban.all, Ban.len, Ban.take, Ban.drop, Ban.sall, Opr.g0, Opr.g1, Opr.g2, Opr.g3, Opr.g4, Opr.all, Opr.len, Opr.take, Opr.drop, Opr.sall, Res.all, Res.len, Res.take, Res.sall, obj_hold, neb, nebb, no0, Oset3, Oset3b, text_size, text_cat, room0, room1, room2, sl0, thi, tlo, tlo2, tlohi, mm_min, resL_three, three_some, *]
          | (refine allK_intro fun n hn => ?_; try simp only [fresh_set] at hn)
          | (refine ifK_intro (fun h => ?_) (fun h => ?_) <;> (try simp only [decide_eq_true_eq, decide_eq_false_iff_not, Bool.not_eq_true', Bool.not_eq_false'] at h) <;> try (exfalso; (try simp only [beq_iff_eq, beq_eq_false_iff_ne, bne_iff_ne, bne_eq_false_iff_eq, ne_eq] at h); omega))
          | (refine keeps_sub (Mem.sub_set ?_) ?_; focus (simp [Mem.set_at, nomem, *]; done))
          | (refine call_F (f11) (Seens.refl _ _) ?_)
          | (refine pure_F (f11) (Seens.refl _ _) ?_)
          | (refine call_F (f19) (Seens.refl _ _) ?_)
          | (refine pure_F (f19) (Seens.refl _ _) ?_)
          | (refine call_F (f26) (Seens.refl _ _) ?_)
          | (refine pure_F (f26) (Seens.refl _ _) ?_)
          | (refine call_F (f25) (Seens.refl _ _) ?_)
          | (refine pure_F (f25) (Seens.refl _ _) ?_)
        exact in_res0 (opn := true) (by simp [Mem.set_at, *]) rfl
      · have x2 : inR l who op = R := by rw [(e2 : _ = _), if_neg hbig]
        have x1 : inL l who op = putL l op.name out S.there := by
          rw [(e1 : _ = _), (hput : _ = _)]
          cases hS : S.there with
          | true =>
            rw [(ho : _ → _) hS, if_pos rfl, if_pos rfl]
            cases fb with
            | true => rfl
            | false =>
              have t0 : ¬ (false = true) := by decide
              rw [if_neg t0, if_neg (fun h => hbig ⟨hS, rfl, h⟩), if_neg t0]
          | false => rfl
        rw [x1, x2]
        clear e1 e2 x1 x2 hput ho
        generalize putL l op.name out S.there = L at *
        generalize S.there = st at *
        cases st with
        | false =>
          
          repeat' first
            | simp -dsimp (disch := omega) only [↓rulesA, rulesB, rulesC, Int.reduceLT, nth, upd, put, storeN, AV.one, Nat.reduceBEq, Nat.reduceBNe, Int.reduceBEq, Int.reduceBNe, Int.reduceLE, Int.reduceEq, Int.reduceMod, Int.reduceNeg, boolBin, strBin, intBin, unA, fillA, ne_eq, reduceCtorEq, Nat.reduceAdd, Nat.reduceSub, Nat.reduceLeDiff, Nat.reduceLT, Nat.reduceEqDiff, Int.reduceToNat, eq_self, rulesT, bne_self_eq_false, mm_min, mm_max, buOf_some, nilCheck_vp, nilCheck_ptr, nilCheck_yld, nilCheck_func, Obj.g0, Obj.g1, Obj.g2, Obj.g3, Obj.g4, nm0, Obj.s1, Obj.s2, Obj.all, Obj.len, Obj.take, Obj.drop, Obj.sall, Ban.g0, Ban.g1, Ban.all, Ban.len, Ban.take, Ban.drop, Ban.sall, Opr.g0, Opr.g1, Opr.g2, Opr.g3, Opr.g4, Opr.all, Opr.len, Opr.take, Opr.drop, Opr.sall, Res.all, Res.len, Res.take, Res.sall, obj_hold, neb, nebb, no0, Oset3, Oset3b, text_size, text_cat, room0, room1, room2, sl0, thi, tlo, tlo2, tlohi, mm_min, resL_three, three_some, *]
            | (refine allK_intro fun n hn => ?_; try simp only [fresh_set] at hn)
            | (refine ifK_intro (fun h => ?_) (fun h => ?_) <;> (try simp only [decide_eq_true_eq, decide_eq_false_iff_not, Bool.not_eq_true', Bool.not_eq_false'] at h) <;> try (exfalso; (try simp only [beq_iff_eq, beq_eq_false_iff_ne, bne_iff_ne, bne_eq_false_iff_eq, ne_eq] at h); omega))
            | (refine keeps_sub (Mem.sub_set ?_) ?_; focus (simp [Mem.set_at, nomem, *]; done))
            | (refine call_F (f11) (Seens.refl _ _) ?_)
            | (refine pure_F (f11) (Seens.refl _ _) ?_)
            | (refine call_F (f19) (Seens.refl _ _) ?_)
            | (refine pure_F (f19) (Seens.refl _ _) ?_)
            | (refine call_F (f26) (Seens.refl _ _) ?_)
            | (refine pure_F (f26) (Seens.refl _ _) ?_)
            | (refine call_F (f25) (Seens.refl _ _) ?_)
            | (refine pure_F (f25) (Seens.refl _ _) ?_)
          refine call_O o38 (Seens.refl _ _) (obj_vals _) fun nc hnc => ?_
          simp only [fresh_set] at hnc
          repeat' first
            | simp -dsimp (disch := omega) only [↓rulesA, rulesB, rulesC, Int.reduceLT, nth, upd, put, storeN, AV.one, Nat.reduceBEq, Nat.reduceBNe, Int.reduceBEq, Int.reduceBNe, Int.reduceLE, Int.reduceEq, Int.reduceMod, Int.reduceNeg, boolBin, strBin, intBin, unA, fillA, ne_eq, reduceCtorEq, Nat.reduceAdd, Nat.reduceSub, Nat.reduceLeDiff, Nat.reduceLT, Nat.reduceEqDiff, Int.reduceToNat, eq_self, rulesT, bne_self_eq_false, mm_min, mm_max, buOf_some, nilCheck_vp, nilCheck_ptr, nilCheck_yld, nilCheck_func, Obj.g0, Obj.g1, Obj.g2, Obj.g3, Obj.g4, nm0, Obj.s1, Obj.s2, Obj.all, Obj.len, Obj.take, Obj.drop, Obj.sall, Ban.g0, Ban.g1, Ban.all, Ban.len, Ban.take, Ban.drop, Ban.sall, Opr.g0, Opr.g1, Opr.g2, Opr.g3, Opr.g4, Opr.all, Opr.len, Opr.take, Opr.drop, Opr.sall, Res.all, Res.len, Res.take, Res.sall, obj_hold, neb, nebb, no0, Oset3, Oset3b, text_size, text_cat, room0, room1, room2, sl0, thi, tlo, tlo2, tlohi, mm_min, resL_three, three_some, *]
            | (refine allK_intro fun n hn => ?_; try simp only [fresh_set] at hn)
            | (refine ifK_intro (fun h => ?_) (fun h => ?_) <;> (try simp only [decide_eq_true_eq, decide_eq_false_iff_not, Bool.not_eq_true', Bool.not_eq_false'] at h) <;> try (exfalso; (try simp only [beq_iff_eq, beq_eq_false_iff_ne, bne_iff_ne, bne_eq_false_iff_eq, ne_eq] at h); omega))
            | (refine keeps_sub (Mem.sub_set ?_) ?_; focus (simp [Mem.set_at, nomem, *]; done))
            | (refine call_F (f11) (Seens.refl _ _) ?_)
            | (refine pure_F (f11) (Seens.refl _ _) ?_)
            | (refine call_F (f19) (Seens.refl _ _) ?_)
            | (refine pure_F (f19) (Seens.refl _ _) ?_)
          exact in_res0 (opn := true) (by simp [Mem.set_at, *]) rfl
        | true =>
          cases fb with
          | true =>
            clear hbig
            repeat' first
              | simp -dsimp (disch := omega) only [↓rulesA, rulesB, rulesC, Int.reduceLT, nth, upd, put, storeN, AV.one, Nat.reduceBEq, Nat.reduceBNe, Int.reduceBEq, Int.reduceBNe, Int.reduceLE, Int.reduceEq, Int.reduceMod, Int.reduceNeg, boolBin, strBin, intBin, unA, fillA, ne_eq, reduceCtorEq, Nat.reduceAdd, Nat.reduceSub, Nat.reduceLeDiff, Nat.reduceLT, Nat.reduceEqDiff, Int.reduceToNat, eq_self, rulesT, bne_self_eq_false, mm_min, mm_max, buOf_some, nilCheck_vp, nilCheck_ptr, nilCheck_yld, nilCheck_func, Obj.g0, Obj.g1, Obj.g2, Obj.g3, Obj.g4, nm0, Obj.s1, Obj.s2, Obj.all, Obj.len, Obj.take, Obj.drop, Obj.sall, Ban.g0, Ban.g1, Ban.all, Ban.len, Ban.take, Ban.drop, Ban.sall, Opr.g0, Opr.g1, Opr.g2, Opr.g3, Opr.g4, Opr.all, Opr.len, Opr.take, Opr.drop, Opr.sall, Res.all, Res.len, Res.take, Res.sall, obj_hold, neb, nebb, no0, Oset3, Oset3b, text_size, text_cat, room0, room1, room2, sl0, thi, tlo, tlo2, tlohi, mm_min, resL_three, three_some, *]
              | (refine allK_intro fun n hn => ?_; try simp only [fresh_set] at hn)
              | (refine ifK_intro (fun h => ?_) (fun h => ?_) <;> (try simp only [decide_eq_true_eq, decide_eq_false_iff_not, Bool.not_eq_true', Bool.not_eq_false'] at h) <;> try (exfalso; (try simp only [beq_iff_eq, beq_eq_false_iff_ne, bne_iff_ne, bne_eq_false_iff_eq, ne_eq] at h); omega))
              | (refine keeps_sub (Mem.sub_set ?_) ?_; focus (simp [Mem.set_at, nomem, *]; done))
              | (refine call_F (f11) (Seens.refl _ _) ?_)
              | (refine pure_F (f11) (Seens.refl _ _) ?_)
              | (refine call_F (f19) (Seens.refl _ _) ?_)
              | (refine pure_F (f19) (Seens.refl _ _) ?_)
              | (refine call_F (f26) (Seens.refl _ _) ?_)
              | (refine pure_F (f26) (Seens.refl _ _) ?_)
              | (refine call_F (f25) (Seens.refl _ _) ?_)
              | (refine pure_F (f25) (Seens.refl _ _) ?_)
            refine call_O o38 (Seens.refl _ _) (obj_vals _) fun nc hnc => ?_
            simp only [fresh_set] at hnc
            repeat' first
              | simp -dsimp (disch := omega) only [↓rulesA, rulesB, rulesC, Int.reduceLT, nth, upd, put, storeN, AV.one, Nat.reduceBEq, Nat.reduceBNe, Int.reduceBEq, Int.reduceBNe, Int.reduceLE, Int.reduceEq, Int.reduceMod, Int.reduceNeg, boolBin, strBin, intBin, unA, fillA, ne_eq, reduceCtorEq, Nat.reduceAdd, Nat.reduceSub, Nat.reduceLeDiff, Nat.reduceLT, Nat.reduceEqDiff, Int.reduceToNat, eq_self, rulesT, bne_self_eq_false, mm_min, mm_max, buOf_some, nilCheck_vp, nilCheck_ptr, nilCheck_yld, nilCheck_func, Obj.g0, Obj.g1, Obj.g2, Obj.g3, Obj.g4, nm0, Obj.s1, Obj.s2, Obj.all, Obj.len, Obj.take, Obj.drop, Obj.sall, Ban.g0, Ban.g1, Ban.all, Ban.len, Ban.take, Ban.drop, Ban.sall, Opr.g0, Opr.g1, Opr.g2, Opr.g3, Opr.g4, Opr.all, Opr.len, Opr.take, Opr.drop, Opr.sall, Res.all, Res.len, Res.take, Res.sall, obj_hold, neb, nebb, no0, Oset3, Oset3b, text_size, text_cat, room0, room1, room2, sl0, thi, tlo, tlo2, tlohi, mm_min, resL_three, three_some, *]
              | (refine allK_intro fun n hn => ?_; try simp only [fresh_set] at hn)
              | (refine ifK_intro (fun h => ?_) (fun h => ?_) <;> (try simp only [decide_eq_true_eq, decide_eq_false_iff_not, Bool.not_eq_true', Bool.not_eq_false'] at h) <;> try (exfalso; (try simp only [beq_iff_eq, beq_eq_false_iff_ne, bne_iff_ne, bne_eq_false_iff_eq, ne_eq] at h); omega))
              | (refine keeps_sub (Mem.sub_set ?_) ?_; focus (simp [Mem.set_at, nomem, *]; done))
              | (refine call_F (f11) (Seens.refl _ _) ?_)
              | (refine pure_F (f11) (Seens.refl _ _) ?_)
              | (refine call_F (f19) (Seens.refl _ _) ?_)
              | (refine pure_F (f19) (Seens.refl _ _) ?_)
            exact in_res0 (opn := true) (by simp [Mem.set_at, *]) rfl
          | false =>
            have h16 : ¬ 16 ≤ l.length := fun h => hbig ⟨rfl, rfl, h⟩
            clear hbig
            repeat' first
              | simp -dsimp (disch := omega) only [↓rulesA, rulesB, rulesC, Int.reduceLT, nth, upd, put, storeN, AV.one, Nat.reduceBEq, Nat.reduceBNe, Int.reduceBEq, Int.reduceBNe, Int.reduceLE, Int.reduceEq, Int.reduceMod, Int.reduceNeg, boolBin, strBin, intBin, unA, fillA, ne_eq, reduceCtorEq, Nat.reduceAdd, Nat.reduceSub, Nat.reduceLeDiff, Nat.reduceLT, Nat.reduceEqDiff, Int.reduceToNat, eq_self, rulesT, bne_self_eq_false, mm_min, mm_max, buOf_some, nilCheck_vp, nilCheck_ptr, nilCheck_yld, nilCheck_func, Obj.g0, Obj.g1, Obj.g2, Obj.g3, Obj.g4, nm0, Obj.s1, Obj.s2, Obj.all, Obj.len, Obj.take, Obj.drop, Obj.sall, Ban.g0, Ban.g1, Ban.all, Ban.len, Ban.take, Ban.drop, Ban.sall, Opr.g0, Opr.g1, Opr.g2, Opr.g3, Opr.g4, Opr.all, Opr.len, Opr.take, Opr.drop, Opr.sall, Res.all, Res.len, Res.take, Res.sall, obj_hold, neb, nebb, no0, Oset3, Oset3b, text_size, text_cat, room0, room1, room2, sl0, thi, tlo, tlo2, tlohi, mm_min, resL_three, three_some, *]
              | (refine allK_intro fun n hn => ?_; try simp only [fresh_set] at hn)
              | (refine ifK_intro (fun h => ?_) (fun h => ?_) <;> (try simp only [decide_eq_true_eq, decide_eq_false_iff_not, Bool.not_eq_true', Bool.not_eq_false'] at h) <;> try (exfalso; (try simp only [beq_iff_eq, beq_eq_false_iff_ne, bne_iff_ne, bne_eq_false_iff_eq, ne_eq] at h); omega))
              | (refine keeps_sub (Mem.sub_set ?_) ?_; focus (simp [Mem.set_at, nomem, *]; done))
              | (refine call_F (f11) (Seens.refl _ _) ?_)
              | (refine pure_F (f11) (Seens.refl _ _) ?_)
              | (refine call_F (f19) (Seens.refl _ _) ?_)
              | (refine pure_F (f19) (Seens.refl _ _) ?_)
              | (refine call_F (f26) (Seens.refl _ _) ?_)
              | (refine pure_F (f26) (Seens.refl _ _) ?_)
              | (refine call_F (f25) (Seens.refl _ _) ?_)
              | (refine pure_F (f25) (Seens.refl _ _) ?_)
            refine call_O o38 (Seens.refl _ _) (obj_vals _) fun nc hnc => ?_
            simp only [fresh_set] at hnc
            repeat' first
              | simp -dsimp (disch := omega) only [↓rulesA, rulesB, rulesC, Int.reduceLT, nth, upd, put, storeN, AV.one, Nat.reduceBEq, Nat.reduceBNe, Int.reduceBEq, Int.reduceBNe, Int.reduceLE, Int.reduceEq, Int.reduceMod, Int.reduceNeg, boolBin, strBin, intBin, unA, fillA, ne_eq, reduceCtorEq, Nat.reduceAdd, Nat.reduceSub, Nat.reduceLeDiff, Nat.reduceLT, Nat.reduceEqDiff, Int.reduceToNat, eq_self, rulesT, bne_self_eq_false, mm_min, mm_max, buOf_some, nilCheck_vp, nilCheck_ptr, nilCheck_yld, nilCheck_func, Obj.g0, Obj.g1, Obj.g2, Obj.g3, Obj.g4, nm0, Obj.s1, Obj.s2, Obj.all, Obj.len, Obj.take, Obj.drop, Obj.sall, Ban.g0, Ban.g1, Ban.all, Ban.len, Ban.take, Ban.drop, Ban.sall, Opr.g0, Opr.g1, Opr.g2, Opr.g3, Opr.g4, Opr.all, Opr.len, Opr.take, Opr.drop, Opr.sall, Res.all, Res.len, Res.take, Res.sall, obj_hold, neb, nebb, no0, Oset3, Oset3b, text_size, text_cat, room0, room1, room2, sl0, thi, tlo, tlo2, tlohi, mm_min, resL_three, three_some, *]
              | (refine allK_intro fun n hn => ?_; try simp only [fresh_set] at hn)
              | (refine ifK_intro (fun h => ?_) (fun h => ?_) <;> (try simp only [decide_eq_true_eq, decide_eq_false_iff_not, Bool.not_eq_true', Bool.not_eq_false'] at h) <;> try (exfalso; (try simp only [beq_iff_eq, beq_eq_false_iff_ne, bne_iff_ne, bne_eq_false_iff_eq, ne_eq] at h); omega))
              | (refine keeps_sub (Mem.sub_set ?_) ?_; focus (simp [Mem.set_at, nomem, *]; done))
              | (refine call_F (f11) (Seens.refl _ _) ?_)
              | (refine pure_F (f11) (Seens.refl _ _) ?_)
              | (refine call_F (f19) (Seens.refl _ _) ?_)
              | (refine pure_F (f19) (Seens.refl _ _) ?_)
            exact in_res0 (opn := true) (by simp [Mem.set_at, *]) rfl
theorem tmodc (a b : Nat) : ((a : Int)).tmod b = ((a % b : Nat) : Int) := rfl
theorem F5 (l : List Obj) (at_ : Int) (who : Ban) (op : Opr) (hop : op.ok) (hlo : ∀ o ∈ l, o.ok) (hll : l.length * 56 ≤ 140737488351232) : F Try.prog 5 [.vs (l.map Obj.cells) false, .val (.int .i64 at_), .agg who.cells, .agg op.cells] (.val (.bool true)) := by
  have f15 := F15 l false hlo (by omega)
  have f18 := F18
  refine F5_of ?_
  unfold k5
  cases hfit : fitB l with
  | false =>
    rw [hfit] at f15
    repeat' first
      | simp -dsimp (disch := omega) only [↓rulesA, rulesB, rulesC, Int.reduceLT, nth, upd, put, storeN, AV.one, Nat.reduceBEq, Nat.reduceBNe, Int.reduceBEq, Int.reduceBNe, Int.reduceLE, Int.reduceEq, Int.reduceMod, Int.reduceNeg, boolBin, strBin, intBin, unA, fillA, ne_eq, reduceCtorEq, Nat.reduceAdd, Nat.reduceSub, Nat.reduceLeDiff, Nat.reduceLT, Nat.reduceEqDiff, Int.reduceToNat, eq_self, rulesT, bne_self_eq_false, mm_min, mm_max, buOf_some, nilCheck_vp, nilCheck_ptr, nilCheck_yld, nilCheck_func, Obj.g0, Obj.g1, Obj.g2, Obj.g3, Obj.g4, nm0, Obj.s1, Obj.s2, Obj.all, Obj.len, Obj.take, Obj.drop, Obj.sall, Ban.g0, Ban.g1, Ban.all, Ban.len, Ban.take, Ban.drop, Ban.sall, Opr.g0, Opr.g1, Opr.g2, Opr.g3, Opr.g4, Opr.all, Opr.len, Opr.take, Opr.drop, Opr.sall, Res.all, Res.len, Res.take, Res.sall, obj_hold, neb, nebb, no0, Oset3, Oset3b, text_size, text_cat, room0, room1, room2, sl0, thi, tlo, tlo2, tlohi, mm_min, resL_three, three_some, *]
      | (refine allK_intro fun n hn => ?_; try simp only [fresh_set] at hn)
      | (refine ifK_intro (fun h => ?_) (fun h => ?_) <;> (try simp only [decide_eq_true_eq, decide_eq_false_iff_not, Bool.not_eq_true', Bool.not_eq_false'] at h) <;> try (exfalso; (try simp only [beq_iff_eq, beq_eq_false_iff_ne, bne_iff_ne, bne_eq_false_iff_eq, ne_eq] at h); omega))
      | (refine keeps_sub (Mem.sub_set ?_) ?_; focus (simp [Mem.set_at, nomem, *]; done))
      | (refine call_F (f15) (Seens.refl _ _) ?_)
      | (refine pure_F (f15) (Seens.refl _ _) ?_)
      | (refine call_F (f18) (Seens.refl _ _) ?_)
      | (refine pure_F (f18) (Seens.refl _ _) ?_)
    exact .val
  | true =>
    rw [hfit] at f15
    have hl16 := fit_len hfit
    have hd : ∀ o ∈ l, o.data.length ≤ 64 := fun o ho => (ok_parts (((fit_iff l).1 hfit).2.1 o ho)).2.1
    have f22 := F22 l false (by omega)
    have f20 := F20 l false who op hop hfit
    have f23 := F23 l false who op hop hfit
    have f17 := F17 (inL l who op) (inL l who op) false false (by have := fit_len (in_fit hfit who op); omega)
    rw [decide_eq_true rfl] at f17
    have f17' := F17 l l false false (by omega)
    rw [decide_eq_true rfl] at f17'
    have nR : ∀ R : Res, cmpA Try.prog 39 .neq (.agg R.cells) (.agg R.cells) = some (.val (.bool false)) := fun R => by
      have := ne_39 R R
      rw [decide_eq_true rfl] at this; exact this
    have nO : ∀ o : Obj, cmpA Try.prog 43 .neq (.agg o.cells) (.agg o.cells) = some (.val (.bool false)) := fun o => by
      have := ne_43 o o
      rw [decide_eq_true rfl] at this; exact this
    have eO : ∀ o : Obj, cmpA Try.prog 43 .eql (.agg o.cells) (.agg o.cells) = some (.val (.bool true)) := fun o => by
      have := eq_43 o o
      rw [decide_eq_true rfl] at this; exact this
    have f21 := F21 l false op.name hfit
    have f26 := F26 l false op.name hfit
    have f27 := F27 l false hl16 hd
    have f28 := F28 l false hl16 hd
    generalize inL l who op = L at *
    have r1 := nR (inR l who op)
    have eF := eO (oAt l op.name)
    generalize inR l who op = R at *
    generalize oAt l op.name = oo at *
    generalize foundB l op.name (placeN l op.name) = fb at *
    generalize bytesN l = bn at *
    by_cases ht : 0 < l.length ∧ 0 ≤ at_
    · obtain ⟨h0, h1⟩ := ht
      obtain ⟨k, hk⟩ : ∃ k : Nat, at_ = k := ⟨at_.toNat, by omega⟩
      subst hk
      have hm := tmodc k l.length
      have hif : ∀ x : AV, (if (l.length : Int) = 0 then none else some x) = some x := fun x => if_neg (by omega)
      have hlt := Nat.mod_lt k h0
      have hdo := hd (l.getD (k % l.length) default) (by rw [getD_get l _ hlt]; exact List.getElem_mem hlt)
      have f24 := F24 (l.getD (k % l.length) default) true who op hop (fun _ => hdo)
      have f25 := F25 (l.getD (k % l.length) default) true who op hop (fun _ => hdo)
      unfold res25 at f25
      clear hd hfit hlo
      have r2 := nR (doR (l.getD (k % l.length) default) true who op)
      have q2 := nO (outO (doS (l.getD (k % l.length) default) true who op))
      generalize doR (l.getD (k % l.length) default) true who op = R2 at *
      generalize outO (doS (l.getD (k % l.length) default) true who op) = o2 at *
      generalize (doS (l.getD (k % l.length) default) true who op).there = b2 at *
      clear nR nO eO
      repeat' first
        | simp -dsimp (disch := omega) only [↓rulesA, rulesB, rulesC, Int.reduceLT, nth, upd, put, storeN, AV.one, Nat.reduceBEq, Nat.reduceBNe, Int.reduceBEq, Int.reduceBNe, Int.reduceLE, Int.reduceEq, Int.reduceMod, Int.reduceNeg, boolBin, strBin, intBin, unA, fillA, ne_eq, reduceCtorEq, Nat.reduceAdd, Nat.reduceSub, Nat.reduceLeDiff, Nat.reduceLT, Nat.reduceEqDiff, Int.reduceToNat, eq_self, rulesT, bne_self_eq_false, mm_min, mm_max, buOf_some, nilCheck_vp, nilCheck_ptr, nilCheck_yld, nilCheck_func, ix_24, Obj.g0, Obj.g1, Obj.g2, Obj.g3, Obj.g4, nm0, Obj.s1, Obj.s2, Obj.all, Obj.len, Obj.take, Obj.drop, Obj.sall, Ban.g0, Ban.g1, Ban.all, Ban.len, Ban.take, Ban.drop, Ban.sall, Opr.g0, Opr.g1, Opr.g2, Opr.g3, Opr.g4, Opr.all, Opr.len, Opr.take, Opr.drop, Opr.sall, Res.all, Res.len, Res.take, Res.sall, obj_hold, neb, nebb, no0, Oset3, Oset3b, text_size, text_cat, room0, room1, room2, sl0, thi, tlo, tlo2, tlohi, mm_min, resL_three, three_some, *]
        | (refine allK_intro fun n hn => ?_; try simp only [fresh_set] at hn)
        | (refine ifK_intro (fun h => ?_) (fun h => ?_) <;> (try simp only [decide_eq_true_eq, decide_eq_false_iff_not, Bool.not_eq_true', Bool.not_eq_false'] at h) <;> try (exfalso; (try simp only [beq_iff_eq, beq_eq_false_iff_ne, bne_iff_ne, bne_eq_false_iff_eq, ne_eq] at h); omega))
        | (refine keeps_sub (Mem.sub_set ?_) ?_; focus (simp [Mem.set_at, nomem, *]; done))
        | (refine call_F (f15) (Seens.refl _ _) ?_)
        | (refine pure_F (f15) (Seens.refl _ _) ?_)
        | (refine call_F (f22) (Seens.refl _ _) ?_)
        | (refine pure_F (f22) (Seens.refl _ _) ?_)
        | (refine call_F (f20) (Seens.refl _ _) ?_)
        | (refine pure_F (f20) (Seens.refl _ _) ?_)
        | (refine call_F (f23) (Seens.refl _ _) ?_)
        | (refine pure_F (f23) (Seens.refl _ _) ?_)
        | (refine call_F (f17) (Seens.refl _ _) ?_)
        | (refine pure_F (f17) (Seens.refl _ _) ?_)
        | (refine call_F (f17') (Seens.refl _ _) ?_)
        | (refine pure_F (f17') (Seens.refl _ _) ?_)
        | (refine call_F (f24) (Seens.refl _ _) ?_)
        | (refine pure_F (f24) (Seens.refl _ _) ?_)
        | (refine call_F (f25) (Seens.refl _ _) ?_)
        | (refine pure_F (f25) (Seens.refl _ _) ?_)
        | (refine call_F (f21) (Seens.refl _ _) ?_)
        | (refine pure_F (f21) (Seens.refl _ _) ?_)
        | (refine call_F (f26) (Seens.refl _ _) ?_)
        | (refine pure_F (f26) (Seens.refl _ _) ?_)
        | (refine call_F (f27) (Seens.refl _ _) ?_)
        | (refine pure_F (f27) (Seens.refl _ _) ?_)
        | (refine call_F (f28) (Seens.refl _ _) ?_)
        | (refine pure_F (f28) (Seens.refl _ _) ?_)
        | (refine call_F (f18) (Seens.refl _ _) ?_)
        | (refine pure_F (f18) (Seens.refl _ _) ?_)
      exact .val
    · have f24 := F24 noObj false who op hop (fun h => by cases h)
      have f25 := F25 noObj false who op hop (fun h => by cases h)
      unfold res25 at f25
      clear hd hfit hlo
      have r2 := nR (doR noObj false who op)
      have q2 := nO (outO (doS noObj false who op))
      generalize doR noObj false who op = R2 at *
      generalize outO (doS noObj false who op) = o2 at *
      generalize (doS noObj false who op).there = b2 at *
      clear nR nO eO
      by_cases h0 : 0 < l.length
      · have h1 : ¬ 0 ≤ at_ := fun h => ht ⟨h0, h⟩
        clear ht
        repeat' first
          | simp -dsimp (disch := omega) only [↓rulesA, rulesB, rulesC, Int.reduceLT, nth, upd, put, storeN, AV.one, Nat.reduceBEq, Nat.reduceBNe, Int.reduceBEq, Int.reduceBNe, Int.reduceLE, Int.reduceEq, Int.reduceMod, Int.reduceNeg, boolBin, strBin, intBin, unA, fillA, ne_eq, reduceCtorEq, Nat.reduceAdd, Nat.reduceSub, Nat.reduceLeDiff, Nat.reduceLT, Nat.reduceEqDiff, Int.reduceToNat, eq_self, rulesT, bne_self_eq_false, mm_min, mm_max, buOf_some, nilCheck_vp, nilCheck_ptr, nilCheck_yld, nilCheck_func, ix_24, Obj.g0, Obj.g1, Obj.g2, Obj.g3, Obj.g4, nm0, Obj.s1, Obj.s2, Obj.all, Obj.len, Obj.take, Obj.drop, Obj.sall, Ban.g0, Ban.g1, Ban.all, Ban.len, Ban.take, Ban.drop, Ban.sall, Opr.g0, Opr.g1, Opr.g2, Opr.g3, Opr.g4, Opr.all, Opr.len, Opr.take, Opr.drop, Opr.sall, Res.all, Res.len, Res.take, Res.sall, obj_hold, neb, nebb, no0, Oset3, Oset3b, text_size, text_cat, room0, room1, room2, sl0, thi, tlo, tlo2, tlohi, mm_min, resL_three, three_some, *]
          | (refine allK_intro fun n hn => ?_; try simp only [fresh_set] at hn)
          | (refine ifK_intro (fun h => ?_) (fun h => ?_) <;> (try simp only [decide_eq_true_eq, decide_eq_false_iff_not, Bool.not_eq_true', Bool.not_eq_false'] at h) <;> try (exfalso; (try simp only [beq_iff_eq, beq_eq_false_iff_ne, bne_iff_ne, bne_eq_false_iff_eq, ne_eq] at h); omega))
          | (refine keeps_sub (Mem.sub_set ?_) ?_; focus (simp [Mem.set_at, nomem, *]; done))
          | (refine call_F (f15) (Seens.refl _ _) ?_)
          | (refine pure_F (f15) (Seens.refl _ _) ?_)
          | (refine call_F (f22) (Seens.refl _ _) ?_)
          | (refine pure_F (f22) (Seens.refl _ _) ?_)
          | (refine call_F (f20) (Seens.refl _ _) ?_)
          | (refine pure_F (f20) (Seens.refl _ _) ?_)
          | (refine call_F (f23) (Seens.refl _ _) ?_)
          | (refine pure_F (f23) (Seens.refl _ _) ?_)
          | (refine call_F (f17) (Seens.refl _ _) ?_)
          | (refine pure_F (f17) (Seens.refl _ _) ?_)
          | (refine call_F (f17') (Seens.refl _ _) ?_)
          | (refine pure_F (f17') (Seens.refl _ _) ?_)
          | (refine call_F (f24) (Seens.refl _ _) ?_)
          | (refine pure_F (f24) (Seens.refl _ _) ?_)
          | (refine call_F (f25) (Seens.refl _ _) ?_)
          | (refine pure_F (f25) (Seens.refl _ _) ?_)
          | (refine call_F (f21) (Seens.refl _ _) ?_)
          | (refine pure_F (f21) (Seens.refl _ _) ?_)
          | (refine call_F (f26) (Seens.refl _ _) ?_)
          | (refine pure_F (f26) (Seens.refl _ _) ?_)
          | (refine call_F (f27) (Seens.refl _ _) ?_)
          | (refine pure_F (f27) (Seens.refl _ _) ?_)
          | (refine call_F (f28) (Seens.refl _ _) ?_)
          | (refine pure_F (f28) (Seens.refl _ _) ?_)
          | (refine call_F (f18) (Seens.refl _ _) ?_)
          | (refine pure_F (f18) (Seens.refl _ _) ?_)
        exact .val
      · clear ht
        repeat' first
          | simp -dsimp (disch := omega) only [↓rulesA, rulesB, rulesC, Int.reduceLT, nth, upd, put, storeN, AV.one, Nat.reduceBEq, Nat.reduceBNe, Int.reduceBEq, Int.reduceBNe, Int.reduceLE, Int.reduceEq, Int.reduceMod, Int.reduceNeg, boolBin, strBin, intBin, unA, fillA, ne_eq, reduceCtorEq, Nat.reduceAdd, Nat.reduceSub, Nat.reduceLeDiff, Nat.reduceLT, Nat.reduceEqDiff, Int.reduceToNat, eq_self, rulesT, bne_self_eq_false, mm_min, mm_max, buOf_some, nilCheck_vp, nilCheck_ptr, nilCheck_yld, nilCheck_func, ix_24, Obj.g0, Obj.g1, Obj.g2, Obj.g3, Obj.g4, nm0, Obj.s1, Obj.s2, Obj.all, Obj.len, Obj.take, Obj.drop, Obj.sall, Ban.g0, Ban.g1, Ban.all, Ban.len, Ban.take, Ban.drop, Ban.sall, Opr.g0, Opr.g1, Opr.g2, Opr.g3, Opr.g4, Opr.all, Opr.len, Opr.take, Opr.drop, Opr.sall, Res.all, Res.len, Res.take, Res.sall, obj_hold, neb, nebb, no0, Oset3, Oset3b, text_size, text_cat, room0, room1, room2, sl0, thi, tlo, tlo2, tlohi, mm_min, resL_three, three_some, *]
          | (refine allK_intro fun n hn => ?_; try simp only [fresh_set] at hn)
          | (refine ifK_intro (fun h => ?_) (fun h => ?_) <;> (try simp only [decide_eq_true_eq, decide_eq_false_iff_not, Bool.not_eq_true', Bool.not_eq_false'] at h) <;> try (exfalso; (try simp only [beq_iff_eq, beq_eq_false_iff_ne, bne_iff_ne, bne_eq_false_iff_eq, ne_eq] at h); omega))
          | (refine keeps_sub (Mem.sub_set ?_) ?_; focus (simp [Mem.set_at, nomem, *]; done))
          | (refine call_F (f15) (Seens.refl _ _) ?_)
          | (refine pure_F (f15) (Seens.refl _ _) ?_)
          | (refine call_F (f22) (Seens.refl _ _) ?_)
          | (refine pure_F (f22) (Seens.refl _ _) ?_)
          | (refine call_F (f20) (Seens.refl _ _) ?_)
          | (refine pure_F (f20) (Seens.refl _ _) ?_)
          | (refine call_F (f23) (Seens.refl _ _) ?_)
          | (refine pure_F (f23) (Seens.refl _ _) ?_)
          | (refine call_F (f17) (Seens.refl _ _) ?_)
          | (refine pure_F (f17) (Seens.refl _ _) ?_)
          | (refine call_F (f17') (Seens.refl _ _) ?_)
          | (refine pure_F (f17') (Seens.refl _ _) ?_)
          | (refine call_F (f24) (Seens.refl _ _) ?_)
          | (refine pure_F (f24) (Seens.refl _ _) ?_)
          | (refine call_F (f25) (Seens.refl _ _) ?_)
          | (refine pure_F (f25) (Seens.refl _ _) ?_)
          | (refine call_F (f21) (Seens.refl _ _) ?_)
          | (refine pure_F (f21) (Seens.refl _ _) ?_)
          | (refine call_F (f26) (Seens.refl _ _) ?_)
          | (refine pure_F (f26) (Seens.refl _ _) ?_)
          | (refine call_F (f27) (Seens.refl _ _) ?_)
          | (refine pure_F (f27) (Seens.refl _ _) ?_)
          | (refine call_F (f28) (Seens.refl _ _) ?_)
          | (refine pure_F (f28) (Seens.refl _ _) ?_)
          | (refine call_F (f18) (Seens.refl _ _) ?_)
          | (refine pure_F (f18) (Seens.refl _ _) ?_)
        exact .val
theorem does_law : ∀ args, ShapedAll Try.prog Try.f5.params.toList args → F Try.prog 5 args (.val (.bool true)) := by
  intro args h
  have hp : Try.f5.params.toList = [24, 3, 35, 23] := by kernel_rfl
  rw [hp] at h
  match args, h with
  | [a, i, b, c], ⟨h0, h1, h2, h3, _⟩ =>
    obtain ⟨l, rfl, l1, l2⟩ := objs_of h0
    obtain ⟨at_, rfl, _⟩ := Shaped.i64 ti_3 rfl (h1.one ti_3 rfl)
    obtain ⟨cs, rfl, hl, hs'⟩ := h2.cells ti_35 rfl
    obtain ⟨who, rfl, _⟩ := Ban.of_shaped hs' hl
    obtain ⟨cs2, rfl, hl2, hs2⟩ := h3.cells ti_23 rfl
    obtain ⟨op, rfl, ho⟩ := Opr.of_shaped hs2 hl2
    exact F5 l at_ who op ho l2 l1
end Go.Proofs.Ytanfgfclpjmngaa
