/- Package 11: the reference: the logarithm, the cost. -/
import Derived.Test.YteilhoojlcpbpaaD13
set_option maxRecDepth 100000
set_option maxHeartbeats 1000000
set_option linter.unusedSimpArgs false
set_option linter.unusedVariables false
namespace Go.Proofs.Yteilhoojlcpbpaa
open Go.Abs
attribute [local irreducible] C X CC Y CV CW binK litK AppK PureC PureCV againK loopV rangeV allK ifK got onB condK V stepsK planK opK firstK seeE keepsK

/-- The places behind the point. -/
def fracTo (x i : Nat) : Nat := (logTo x i).2 - topN x * 2 ^ i
theorem frac_lt {x : Nat} (h0 : x ≠ 0) (h : x < 4294967296) {i : Nat} (hi : i ≤ 16) : fracTo x i < 65536 + 1 ∧ (i < 16 → fracTo x i < 32768 + 1) ∧ topN x * 2 ^ i + fracTo x i = (logTo x i).2 := by
  obtain ⟨-, -, c, d⟩ := logTo_inv h0 h i
  rw [Nat.add_mul, Nat.one_mul] at d
  unfold fracTo
  refine ⟨?_, fun h => ?_, by omega⟩
  · have : 2 ^ i ≤ 2 ^ 16 := Nat.pow_le_pow_right (by decide) hi
    omega
  · have : 2 ^ i ≤ 2 ^ 15 := Nat.pow_le_pow_right (by decide) (by omega)
    omega
theorem frac_step {x : Nat} (h0 : x ≠ 0) (h : x < 4294967296) (i b : Nat) (e : (logTo x (i + 1)).2 = (logTo x i).2 * 2 + b) : fracTo x (i + 1) = fracTo x i * 2 + b := by
  obtain ⟨-, -, c, d⟩ := logTo_inv h0 h i
  have e2 : topN x * 2 ^ (i + 1) = topN x * 2 ^ i * 2 := by rw [Nat.pow_succ, Nat.mul_assoc]
  unfold fracTo
  rw [e, e2]; omega
theorem mulS (a : Nat) (c : Nat) (h : a * c < 4294967296) : IntKind.u32.wrap ((a : Int) * (c : Int)) = ((a * c : Nat) : Int) := by
  rw [← Int.natCast_mul, IntKind.wrap_u32']; omega
theorem mulS2 (a : Nat) (h : a * 2 < 4294967296) : IntKind.u32.wrap ((a : Int) * 2) = ((a * 2 : Nat) : Int) := mulS a 2 h
theorem mulS16 (a : Nat) (h : a * 65536 < 4294967296) : IntKind.u32.wrap ((a : Int) * 65536) = ((a * 65536 : Nat) : Int) := mulS a 65536 h
theorem F28 (x : Nat) (h : x < 4294967296) : F Try.prog 28 [.val (.int .u32 x)] (.val (.int .u32 (logN x))) := by
  refine F28_of ?_
  unfold k28
  by_cases h0 : x = 0
  · subst h0
    repeat' first
      | simp -dsimp (disch := omega) only [↓rulesA, rulesB, rulesC, Int.reduceLT, nth, upd, put, storeN, AV.one, Nat.reduceBEq, Nat.reduceBNe, Int.reduceBEq, Int.reduceBNe, Int.reduceLE, Int.reduceEq, Int.reduceMod, Int.reduceNeg, boolBin, strBin, intBin, unA, fillA, ne_eq, reduceCtorEq, Nat.reduceAdd, Nat.reduceSub, Nat.reduceLeDiff, Nat.reduceLT, Nat.reduceEqDiff, Int.reduceToNat, eq_self, rulesT, bne_self_eq_false, mm_min, mm_max, buOf_some, nilCheck_vp, nilCheck_ptr, nilCheck_yld, nilCheck_func, *]
      | (refine allK_intro fun n hn => ?_; try simp only [fresh_set] at hn)
      | (refine ifK_intro (fun h => ?_) (fun h => ?_) <;> (try simp only [decide_eq_true_eq, decide_eq_false_iff_not, Bool.not_eq_true', Bool.not_eq_false'] at h) <;> try (exfalso; (try simp only [beq_iff_eq, beq_eq_false_iff_ne, bne_iff_ne, bne_eq_false_iff_eq, ne_eq] at h); omega))
      | (refine keeps_sub (Mem.sub_set (by simp [Mem.set_at, nomem, *])) ?_)
    exact .val
  · have hne : ((x : Int) == 0) = false := by simp; omega
    repeat' first
      | simp -dsimp (disch := omega) only [↓rulesA, rulesB, rulesC, Int.reduceLT, nth, upd, put, storeN, AV.one, Nat.reduceBEq, Nat.reduceBNe, Int.reduceBEq, Int.reduceBNe, Int.reduceLE, Int.reduceEq, Int.reduceMod, Int.reduceNeg, boolBin, strBin, intBin, unA, fillA, ne_eq, reduceCtorEq, Nat.reduceAdd, Nat.reduceSub, Nat.reduceLeDiff, Nat.reduceLT, Nat.reduceEqDiff, Int.reduceToNat, eq_self, rulesT, bne_self_eq_false, mm_min, mm_max, buOf_some, nilCheck_vp, nilCheck_ptr, nilCheck_yld, nilCheck_func, *]
      | (refine allK_intro fun n hn => ?_; try simp only [fresh_set] at hn)
      | (refine ifK_intro (fun h => ?_) (fun h => ?_) <;> (try simp only [decide_eq_true_eq, decide_eq_false_iff_not, Bool.not_eq_true', Bool.not_eq_false'] at h) <;> try (exfalso; (try simp only [beq_iff_eq, beq_eq_false_iff_ne, bne_iff_ne, bne_eq_false_iff_eq, ne_eq] at h); omega))
      | (refine keeps_sub (Mem.sub_set (by simp [Mem.set_at, nomem, *])) ?_)
    refine loop_intro (fun j env m => ∃ i : Nat, i ≤ topN x ∧ j = topN x - i ∧ m = nomem ∧ env.length = 40 ∧ nth env 0 = .val (.int .u32 x) ∧ nth env 3 = .val (.int .u32 i)) (topN x) _ (Mem.sub.refl _) ⟨0, by omega, by omega, rfl, rfl, rfl, rfl⟩ ?_
    rintro j env m ⟨i, hi, rfl, rfl, hlen, e0, e3⟩
    have h31 := top_31 h0 h
    repeat' first
      | simp -dsimp (disch := omega) only [↓rulesA, rulesB, rulesC, Int.reduceLT, nth, upd, put, storeN, AV.one, Nat.reduceBEq, Nat.reduceBNe, Int.reduceBEq, Int.reduceBNe, Int.reduceLE, Int.reduceEq, Int.reduceMod, Int.reduceNeg, boolBin, strBin, intBin, unA, fillA, ne_eq, reduceCtorEq, Nat.reduceAdd, Nat.reduceSub, Nat.reduceLeDiff, Nat.reduceLT, Nat.reduceEqDiff, Int.reduceToNat, eq_self, rulesT, bne_self_eq_false, mm_min, mm_max, buOf_some, nilCheck_vp, nilCheck_ptr, nilCheck_yld, nilCheck_func, shr32, natNeg, add32, *]
      | (refine allK_intro fun n hn => ?_; try simp only [fresh_set] at hn)
      | (refine ifK_intro (fun h => ?_) (fun h => ?_) <;> (try simp only [decide_eq_true_eq, decide_eq_false_iff_not, Bool.not_eq_true', Bool.not_eq_false'] at h) <;> try (exfalso; (try simp only [beq_iff_eq, beq_eq_false_iff_ne, bne_iff_ne, bne_eq_false_iff_eq, ne_eq] at h); omega))
      | (refine keeps_sub (Mem.sub_set (by simp [Mem.set_at, nomem, *])) ?_)
    · have hlt : i < topN x := (top_go h0 hi).1 (by omega)
      refine again_intro (topN x - (i + 1)) (by omega) _ (Mem.sub.refl _) ⟨i + 1, by omega, rfl, rfl, ?_, ?_, ?_⟩
      all_goals try (simp (disch := omega) only [nth_upd, pickB_true, pickB_false, inB_lt, upd_len, cast_succ, Int.cast_ofNat_Int, Nat.reduceBEq, beq_self_eq_true, reduceCtorEq, *]; done)
    · have hit : i = topN x := by
        have := top_go h0 hi
        omega
      subst hit
      have hb : x * 2 ^ (31 - topN x) < 18446744073709551616 := by have := (logTo_inv h0 (by assumption) 0).2.1; show (logTo x 0).1 < _; omega
      repeat' first
        | simp -dsimp (disch := omega) only [↓rulesA, rulesB, rulesC, Int.reduceLT, nth, upd, put, storeN, AV.one, Nat.reduceBEq, Nat.reduceBNe, Int.reduceBEq, Int.reduceBNe, Int.reduceLE, Int.reduceEq, Int.reduceMod, Int.reduceNeg, boolBin, strBin, intBin, unA, fillA, ne_eq, reduceCtorEq, Nat.reduceAdd, Nat.reduceSub, Nat.reduceLeDiff, Nat.reduceLT, Nat.reduceEqDiff, Int.reduceToNat, eq_self, rulesT, bne_self_eq_false, mm_min, mm_max, buOf_some, nilCheck_vp, nilCheck_ptr, nilCheck_yld, nilCheck_func, sub31, shl64, natNeg, conv64, *]
        | (refine allK_intro fun n hn => ?_; try simp only [fresh_set] at hn)
        | (refine ifK_intro (fun h => ?_) (fun h => ?_) <;> (try simp only [decide_eq_true_eq, decide_eq_false_iff_not, Bool.not_eq_true', Bool.not_eq_false'] at h) <;> try (exfalso; (try simp only [beq_iff_eq, beq_eq_false_iff_ne, bne_iff_ne, bne_eq_false_iff_eq, ne_eq] at h); omega))
        | (refine keeps_sub (Mem.sub_set (by simp [Mem.set_at, nomem, *])) ?_)
      refine loop_intro (fun j env m => ∃ i : Nat, i ≤ 16 ∧ j = 16 - i ∧ m = nomem ∧ env.length = 40 ∧ nth env 3 = .val (.int .u32 (topN x)) ∧ nth env 4 = .val (.int .u64 (logTo x i).1) ∧ nth env 5 = .val (.int .u32 (fracTo x i)) ∧ nth env 6 = .val (.int .i64 i)) 16 _ (Mem.sub.refl _) ⟨0, by omega, by omega, rfl, ?_, ?_, ?_, ?_, ?_⟩ ?_
      · all_goals try (simp (disch := omega) only [nth_upd, pickB_true, pickB_false, inB_lt, upd_len, cast_succ, Int.cast_ofNat_Int, Nat.reduceBEq, beq_self_eq_true, reduceCtorEq, *]; done)
      · all_goals try (simp (disch := omega) only [nth_upd, pickB_true, pickB_false, inB_lt, upd_len, cast_succ, Int.cast_ofNat_Int, Nat.reduceBEq, beq_self_eq_true, reduceCtorEq, *]; done)
      · have l1 : (logTo x 0).1 = x * 2 ^ (31 - topN x) := rfl
        all_goals try (simp (disch := omega) only [nth_upd, pickB_true, pickB_false, inB_lt, upd_len, cast_succ, Int.cast_ofNat_Int, Nat.reduceBEq, beq_self_eq_true, reduceCtorEq, *]; done)
      · have l2 : fracTo x 0 = 0 := by show topN x - topN x * 1 = 0; omega
        all_goals try (simp (disch := omega) only [nth_upd, pickB_true, pickB_false, inB_lt, upd_len, cast_succ, Int.cast_ofNat_Int, Nat.reduceBEq, beq_self_eq_true, reduceCtorEq, *]; done)
      · all_goals try (simp (disch := omega) only [nth_upd, pickB_true, pickB_false, inB_lt, upd_len, cast_succ, Int.cast_ofNat_Int, Nat.reduceBEq, beq_self_eq_true, reduceCtorEq, *]; done)
      have hx : Kept (x < 4294967296) := by assumption
      clear hlen e0 e3 hi h
      rintro j env m ⟨i, hi, rfl, rfl, hlen, e3, e4, e5, e6⟩
      obtain ⟨y1, y2, -, -⟩ := logTo_inv h0 hx i
      obtain ⟨f1, f2, f3⟩ := frac_lt h0 hx hi
      have hyy : (logTo x i).1 * (logTo x i).1 < 18446744073709551616 := Nat.lt_of_le_of_lt (Nat.mul_le_mul (Nat.le_of_lt_succ (show _ < 4294967295 + 1 by omega)) (Nat.le_of_lt_succ (show _ < 4294967295 + 1 by omega))) (by decide)
      by_cases hi16 : i < 16
      · have hsm2 : fracTo x i * 2 < 4294967296 := by have := f2 hi16; omega
        have hm := mulS2 (fracTo x i) hsm2
        have ha := add32 (fracTo x i * 2) (by have := f2 hi16; omega)
        obtain ⟨y, hy⟩ : ∃ y, y = (logTo x i).1 * (logTo x i).1 / 2 ^ 31 := ⟨_, rfl⟩
        have hst : logTo x (i + 1) = if 4294967296 ≤ y then (y / 2, (logTo x i).2 * 2 + 1) else (y, (logTo x i).2 * 2) := by rw [hy]; rfl
        have hq : (((logTo x i).1 : Int) * ((logTo x i).1 : Int)).fdiv (2 ^ min 31 IntKind.u64.bits) = (y : Int) := by
          rw [← Int.natCast_mul, shr64 _ _ (by decide), hy]
        clear hy f3
        replace hst : Kept _ := hst
        repeat' first
          | simp -dsimp (disch := omega) only [↓rulesA, rulesB, rulesC, Int.reduceLT, nth, upd, put, storeN, AV.one, Nat.reduceBEq, Nat.reduceBNe, Int.reduceBEq, Int.reduceBNe, Int.reduceLE, Int.reduceEq, Int.reduceMod, Int.reduceNeg, boolBin, strBin, intBin, unA, fillA, ne_eq, reduceCtorEq, Nat.reduceAdd, Nat.reduceSub, Nat.reduceLeDiff, Nat.reduceLT, Nat.reduceEqDiff, Int.reduceToNat, eq_self, rulesT, bne_self_eq_false, mm_min, mm_max, buOf_some, nilCheck_vp, nilCheck_ptr, nilCheck_yld, nilCheck_func, natNeg, hq, *]
          | (refine allK_intro fun n hn => ?_; try simp only [fresh_set] at hn)
          | (refine ifK_intro (fun h => ?_) (fun h => ?_) <;> (try simp only [decide_eq_true_eq, decide_eq_false_iff_not, Bool.not_eq_true', Bool.not_eq_false'] at h) <;> try (exfalso; (try simp only [beq_iff_eq, beq_eq_false_iff_ne, bne_iff_ne, bne_eq_false_iff_eq, ne_eq] at h); omega))
          | (refine keeps_sub (Mem.sub_set (by simp [Mem.set_at, nomem, *])) ?_)
        · have : 4294967296 ≤ y := by omega
          have hst2 : logTo x (i + 1) = _ := hst
          rw [if_pos this] at hst2
          have l1 : ((logTo x (i + 1)).1 : Int) = (y : Int) / 2 := by rw [hst2]; rfl
          have l2 := frac_step h0 hx i 1 (by rw [hst2])
          clear hst hst2
          refine again_intro (16 - (i + 1)) (by omega) _ (Mem.sub.refl _) ⟨i + 1, by omega, rfl, rfl, ?_, ?_, ?_, ?_, ?_⟩
          all_goals try (simp (disch := omega) only [nth_upd, pickB_true, pickB_false, inB_lt, upd_len, cast_succ, Int.cast_ofNat_Int, Nat.reduceBEq, beq_self_eq_true, reduceCtorEq, *]; done)
        · have : ¬ 4294967296 ≤ y := by omega
          have hst2 : logTo x (i + 1) = _ := hst
          rw [if_neg this] at hst2
          have l1 : (logTo x (i + 1)).1 = y := by rw [hst2]
          have l2 : fracTo x (i + 1) = fracTo x i * 2 := frac_step h0 hx i 0 (by rw [hst2]; rfl)
          clear hst hst2
          refine again_intro (16 - (i + 1)) (by omega) _ (Mem.sub.refl _) ⟨i + 1, by omega, rfl, rfl, ?_, ?_, ?_, ?_, ?_⟩
          all_goals try (simp (disch := omega) only [nth_upd, pickB_true, pickB_false, inB_lt, upd_len, cast_succ, Int.cast_ofNat_Int, Nat.reduceBEq, beq_self_eq_true, reduceCtorEq, *]; done)
      · have : i = 16 := by omega
        subst this
        have e : topN x * 65536 + fracTo x 16 = logN x := by unfold logN; rw [if_neg h0]; exact f3
        have hm := mulS16 (topN x) (by omega)
        have ha : IntKind.u32.wrap (((topN x * 65536 : Nat) : Int) + (fracTo x 16 : Int)) = (logN x : Int) := by rw [IntKind.wrap_u32']; omega
        clear f3
        repeat' first
          | simp -dsimp (disch := omega) only [↓rulesA, rulesB, rulesC, Int.reduceLT, nth, upd, put, storeN, AV.one, Nat.reduceBEq, Nat.reduceBNe, Int.reduceBEq, Int.reduceBNe, Int.reduceLE, Int.reduceEq, Int.reduceMod, Int.reduceNeg, boolBin, strBin, intBin, unA, fillA, ne_eq, reduceCtorEq, Nat.reduceAdd, Nat.reduceSub, Nat.reduceLeDiff, Nat.reduceLT, Nat.reduceEqDiff, Int.reduceToNat, eq_self, rulesT, bne_self_eq_false, mm_min, mm_max, buOf_some, nilCheck_vp, nilCheck_ptr, nilCheck_yld, nilCheck_func, natNeg, *]
          | (refine allK_intro fun n hn => ?_; try simp only [fresh_set] at hn)
          | (refine ifK_intro (fun h => ?_) (fun h => ?_) <;> (try simp only [decide_eq_true_eq, decide_eq_false_iff_not, Bool.not_eq_true', Bool.not_eq_false'] at h) <;> try (exfalso; (try simp only [beq_iff_eq, beq_eq_false_iff_ne, bne_iff_ne, bne_eq_false_iff_eq, ne_eq] at h); omega))
          | (refine keeps_sub (Mem.sub_set (by simp [Mem.set_at, nomem, *])) ?_)
        exact .val
theorem F18 (x : Nat) (hx : x < 4294967296) (id r : Int) : F Try.prog 18 [.val (.int .u32 x), .val (.int .i64 id), .val (.int .i64 r)] (.val (.int .i64 (costN x id r))) := by
  refine F18_of ?_
  unfold k18
  have hw := wordsN_lt x id r
  have hl := logN_le (x := wordsN x id r % 65536 + 1) (by omega) (by omega)
  have hc : ((1048576 : Int) - (logN (wordsN x id r % 65536 + 1) : Int)) = (costN x id r : Int) := by unfold costN; omega
  have h27 : F Try.prog 27 [.vs [[.val (.int .u32 x)], [.val (.int .u32 (u32of id))], [.val (.int .u32 (u32of r))]] true] (.val (.int .u32 (wordsN x id r))) := F27 [x, u32of id, u32of r] true (by simp) (fun a ha => by
    have h1 := u32of_lt id
    have h2 := u32of_lt r
    simp at ha
    rcases ha with rfl | rfl | rfl <;> assumption)
  repeat' first
    | simp -dsimp (disch := omega) only [↓rulesA, rulesB, rulesC, Int.reduceLT, nth, upd, put, storeN, AV.one, Nat.reduceBEq, Nat.reduceBNe, Int.reduceBEq, Int.reduceBNe, Int.reduceLE, Int.reduceEq, Int.reduceMod, Int.reduceNeg, boolBin, strBin, intBin, unA, fillA, ne_eq, reduceCtorEq, Nat.reduceAdd, Nat.reduceSub, Nat.reduceLeDiff, Nat.reduceLT, Nat.reduceEqDiff, Int.reduceToNat, eq_self, rulesT, bne_self_eq_false, mm_min, mm_max, buOf_some, nilCheck_vp, nilCheck_ptr, nilCheck_yld, nilCheck_func, wrap_u32of, *]
    | (refine allK_intro fun n hn => ?_; try simp only [fresh_set] at hn)
    | (refine ifK_intro (fun h => ?_) (fun h => ?_) <;> (try simp only [decide_eq_true_eq, decide_eq_false_iff_not, Bool.not_eq_true', Bool.not_eq_false'] at h) <;> try (exfalso; (try simp only [beq_iff_eq, beq_eq_false_iff_ne, bne_iff_ne, bne_eq_false_iff_eq, ne_eq] at h); omega))
    | (refine keeps_sub (Mem.sub_set (by simp [Mem.set_at, nomem, *])) ?_)
  refine lit_vs (lit3_54 _ _ _) rfl ?_
  rw [chunk3]
  repeat' first
    | simp -dsimp (disch := omega) only [↓rulesA, rulesB, rulesC, Int.reduceLT, nth, upd, put, storeN, AV.one, Nat.reduceBEq, Nat.reduceBNe, Int.reduceBEq, Int.reduceBNe, Int.reduceLE, Int.reduceEq, Int.reduceMod, Int.reduceNeg, boolBin, strBin, intBin, unA, fillA, ne_eq, reduceCtorEq, Nat.reduceAdd, Nat.reduceSub, Nat.reduceLeDiff, Nat.reduceLT, Nat.reduceEqDiff, Int.reduceToNat, eq_self, rulesT, bne_self_eq_false, mm_min, mm_max, buOf_some, nilCheck_vp, nilCheck_ptr, nilCheck_yld, nilCheck_func, and16, add32, *]
    | (refine allK_intro fun n hn => ?_; try simp only [fresh_set] at hn)
    | (refine ifK_intro (fun h => ?_) (fun h => ?_) <;> (try simp only [decide_eq_true_eq, decide_eq_false_iff_not, Bool.not_eq_true', Bool.not_eq_false'] at h) <;> try (exfalso; (try simp only [beq_iff_eq, beq_eq_false_iff_ne, bne_iff_ne, bne_eq_false_iff_eq, ne_eq] at h); omega))
    | (refine keeps_sub (Mem.sub_set (by simp [Mem.set_at, nomem, *])) ?_)
    | (refine call_F (h27) (Seens.refl _ _) ?_)
    | (refine pure_F (h27) (Seens.refl _ _) ?_)
    | (refine call_F (F28 _ (by omega)) (Seens.refl _ _) ?_)
    | (refine pure_F (F28 _ (by omega)) (Seens.refl _ _) ?_)
  exact .val
end Go.Proofs.Yteilhoojlcpbpaa

