/- Package 11: the logarithm; the cost. -/
import Derived.Test.YteilhoojlcpbpaaD1
set_option maxRecDepth 100000
set_option maxHeartbeats 1000000
set_option linter.unusedSimpArgs false
set_option linter.unusedVariables false
namespace Go.Proofs.Yteilhoojlcpbpaa
open Go.Abs
attribute [local irreducible] C X CC Y CV CW binK litK AppK PureC PureCV againK loopV rangeV allK ifK got onB condK V stepsK planK opK firstK seeE keepsK

theorem conv64 (a : Nat) (h : a < 18446744073709551616) : IntKind.u64.wrap (a : Int) = (a : Int) := by rw [IntKind.wrap_u64]; omega
theorem sub31 (n : Nat) (h : n ≤ 31) : IntKind.u32.wrap (31 - (n : Int)) = ((31 - n : Nat) : Int) := by rw [IntKind.wrap_u32']; omega
theorem add32 (n : Nat) (h : n < 4294967295) : IntKind.u32.wrap ((n : Int) + 1) = ((n + 1 : Nat) : Int) := by rw [IntKind.wrap_u32']; omega
theorem shl64 (a s : Nat) (h : s ≤ 64) (hb : a * 2 ^ s < 18446744073709551616) : IntKind.u64.wrap ((a : Int) * 2 ^ min s IntKind.u64.bits) = ((a * 2 ^ s : Nat) : Int) := by
  have e : min s IntKind.u64.bits = s := Nat.min_eq_left h
  rw [e, show ((2 : Int) ^ s) = ((2 ^ s : Nat) : Int) by rw [Int.natCast_pow]; rfl, ← Int.natCast_mul]
  exact conv64 _ hb
theorem shl32_1 (a : Nat) (hb : a * 2 < 4294967296) : IntKind.u32.wrap ((a : Int) * 2 ^ min 1 IntKind.u32.bits) = ((a * 2 : Nat) : Int) := by
  have e : min 1 IntKind.u32.bits = 1 := rfl
  rw [e, IntKind.wrap_u32']; omega
theorem mul64 (a b : Nat) (hb : a * b < 18446744073709551616) : IntKind.u64.wrap ((a : Int) * (b : Int)) = ((a * b : Nat) : Int) := by
  rw [← Int.natCast_mul]; exact conv64 _ hb
theorem or32 (a : Nat) (h : a < 4294967296) (h2 : a % 2 = 0) : bits .or .u32 (a : Int) 1 = ((a + 1 : Nat) : Int) := by
  have := u32_or_nat a 1 h (by decide)
  have e : a ||| 1 = a + 1 := nat_join 1 a 1 (by simpa using h2) (by decide)
  rw [e] at this; exact this
/-- The place of the highest bit. -/
def topN (x : Nat) : Nat := Nat.log2 x
/-- y, and the number, behind one place more. -/
def logStep (p : Nat × Nat) : Nat × Nat :=
  let y := p.1 * p.1 / 2147483648
  if 4294967296 ≤ y then (y / 2, p.2 * 2 + 1) else (y, p.2 * 2)
def logTo (x : Nat) : Nat → Nat × Nat
  | 0 => (x * 2 ^ (31 - topN x), topN x)
  | i + 1 => logStep (logTo x i)
def logN (x : Nat) : Nat := if x = 0 then 0 else (logTo x 16).2
theorem top_le {x : Nat} (h0 : x ≠ 0) : 2 ^ topN x ≤ x := Nat.log2_self_le h0
theorem top_lt {x : Nat} : x < 2 ^ (topN x + 1) := Nat.lt_log2_self
theorem top_31 {x : Nat} (h0 : x ≠ 0) (h : x < 4294967296) : topN x ≤ 31 := by
  have := (Nat.log2_lt h0).2 (show x < 2 ^ 32 from h)
  unfold topN; omega
theorem logTo_inv {x : Nat} (h0 : x ≠ 0) (h : x < 4294967296) : ∀ i, 2147483648 ≤ (logTo x i).1 ∧ (logTo x i).1 < 4294967296 ∧ topN x * 2 ^ i ≤ (logTo x i).2 ∧ (logTo x i).2 < (topN x + 1) * 2 ^ i
  | 0 => by
    have h1 := top_le h0
    have h2 := top_lt (x := x)
    have h3 := top_31 h0 h
    have e : (2147483648 : Nat) = 2 ^ topN x * 2 ^ (31 - topN x) := by rw [← Nat.pow_add, show topN x + (31 - topN x) = 31 by omega]
    have e2 : (4294967296 : Nat) = 2 ^ (topN x + 1) * 2 ^ (31 - topN x) := by rw [← Nat.pow_add, show topN x + 1 + (31 - topN x) = 32 by omega]
    refine ⟨?_, ?_, ?_, ?_⟩
    · show _ ≤ x * 2 ^ (31 - topN x); rw [e]; exact Nat.mul_le_mul_right _ h1
    · show x * 2 ^ (31 - topN x) < _; rw [e2]; exact Nat.mul_lt_mul_of_pos_right h2 (Nat.two_pow_pos _)
    · show _ ≤ topN x; simp
    · show topN x < _; simp
  | i + 1 => by
    obtain ⟨a, b, c, d⟩ := logTo_inv h0 h i
    have hy : 2147483648 ≤ (logTo x i).1 * (logTo x i).1 / 2147483648 := by
      rw [Nat.le_div_iff_mul_le (by decide)]
      exact Nat.mul_le_mul a a
    have hy2 : (logTo x i).1 * (logTo x i).1 / 2147483648 < 8589934592 := by
      rw [Nat.div_lt_iff_lt_mul (by decide)]
      exact Nat.lt_of_le_of_lt (Nat.mul_le_mul (Nat.le_of_lt_succ (show _ < 4294967295 + 1 by omega)) (Nat.le_of_lt_succ (show _ < 4294967295 + 1 by omega))) (by decide)
    have e1 : topN x * 2 ^ (i + 1) = topN x * 2 ^ i * 2 := by rw [Nat.pow_succ, Nat.mul_assoc]
    have e2 : (topN x + 1) * 2 ^ (i + 1) = (topN x + 1) * 2 ^ i * 2 := by rw [Nat.pow_succ, Nat.mul_assoc]
    show _ ≤ (logStep (logTo x i)).1 ∧ (logStep (logTo x i)).1 < _ ∧ _ ≤ (logStep (logTo x i)).2 ∧ (logStep (logTo x i)).2 < _
    rw [e1, e2]
    unfold logStep
    simp only
    split
    · refine ⟨?_, ?_, ?_, ?_⟩ <;> simp only <;> omega
    · refine ⟨?_, ?_, ?_, ?_⟩ <;> simp only <;> omega
theorem logN_le {x : Nat} (h0 : x ≠ 0) (h : x ≤ 65536) : logN x ≤ 1048576 := by
  unfold logN; rw [if_neg h0]
  rcases Nat.lt_or_ge x 65536 with h' | h'
  · have := (logTo_inv h0 (by omega) 16).2.2.2
    have ht : topN x + 1 ≤ 16 := by
      have := (Nat.log2_lt h0).2 (show x < 2 ^ 16 from h')
      unfold topN; omega
    have : (topN x + 1) * 2 ^ 16 ≤ 16 * 2 ^ 16 := Nat.mul_le_mul_right _ ht
    omega
  · have : x = 65536 := by omega
    subst this
    decide +kernel
theorem top_go {x i : Nat} (h0 : x ≠ 0) (hi : i ≤ topN x) : (1 < x / 2 ^ i ↔ i < topN x) := by
  have h1 := top_le h0
  have h2 := top_lt (x := x)
  constructor
  · intro h
    rcases Nat.lt_or_ge i (topN x) with h' | h'
    · exact h'
    · have e : i = topN x := by omega
      rw [← e, Nat.pow_succ] at h2
      have : x / 2 ^ i < 2 := by rw [Nat.div_lt_iff_lt_mul (Nat.two_pow_pos _)]; omega
      omega
  · intro h
    have : 2 ≤ x / 2 ^ i := by
      rw [Nat.le_div_iff_mul_le (Nat.two_pow_pos _)]
      calc 2 * 2 ^ i = 2 ^ (i + 1) := by rw [Nat.pow_succ]; omega
        _ ≤ 2 ^ topN x := Nat.pow_le_pow_right (by decide) h
        _ ≤ x := h1
    omega
theorem log_small {x : Nat} (h0 : x ≠ 0) (h : x < 4294967296) {i : Nat} (hi : i < 16) : (logTo x i).2 < 1048576 := by
  have h1 := (logTo_inv h0 h i).2.2.2
  have h2 := top_31 h0 h
  have h3 : (topN x + 1) * 2 ^ i ≤ 32 * 2 ^ 15 := Nat.mul_le_mul (by omega) (Nat.pow_le_pow_right (by decide) (by omega))
  omega
theorem F24 (x : Nat) (h : x < 4294967296) : F Try.prog 24 [.val (.int .u32 x)] (.val (.int .u32 (logN x))) := by
  refine F24_of ?_
  unfold k24
  by_cases h0 : x = 0
  · subst h0
    repeat' first
      | simp -dsimp (disch := omega) only [↓rulesA, rulesB, rulesC, Int.reduceLT, nth, upd, put, storeN, AV.one, Nat.reduceBEq, Nat.reduceBNe, Int.reduceBEq, Int.reduceBNe, Int.reduceLE, Int.reduceEq, Int.reduceMod, Int.reduceNeg, boolBin, strBin, intBin, unA, fillA, ne_eq, reduceCtorEq, Nat.reduceAdd, Nat.reduceSub, Nat.reduceLeDiff, Nat.reduceLT, Nat.reduceEqDiff, Int.reduceToNat, eq_self, rulesT, bne_self_eq_false, mm_min, mm_max, buOf_some, nilCheck_vp, nilCheck_ptr, nilCheck_yld, nilCheck_func, *]
      | (refine allK_intro fun n hn => ?_; try simp only [fresh_set] at hn)
      | (refine ifK_intro (fun h => ?_) (fun h => ?_) <;> (try simp only [decide_eq_true_eq, decide_eq_false_iff_not, Bool.not_eq_true', Bool.not_eq_false'] at h) <;> try (exfalso; (try simp only [beq_iff_eq, beq_eq_false_iff_ne, bne_iff_ne, bne_eq_false_iff_eq, ne_eq] at h); omega))
      | (refine keeps_sub (Mem.sub_set (by simp [Mem.set_at, nomem, *])) ?_)
    exact .val
  · have hne : ((x : Int) == 0) = false := by simp; omega
    repeat' first
      | simp -dsimp (disch := omega) only [↓rulesA, rulesB, rulesC, Int.reduceLT, nth, upd, put, storeN, AV.one, Nat.reduceBEq, Nat.reduceBNe, Int.reduceBEq, Int.reduceBNe, Int.reduceLE, Int.reduceEq, Int.reduceMod, Int.reduceNeg, boolBin, strBin, intBin, unA, fillA, ne_eq, reduceCtorEq, Nat.reduceAdd, Nat.reduceSub, Nat.reduceLeDiff, Nat.reduceLT, Nat.reduceEqDiff, Int.reduceToNat, eq_self, rulesT, bne_self_eq_false, mm_min, mm_max, buOf_some, nilCheck_vp, nilCheck_ptr, nilCheck_yld, nilCheck_func, *]
      | (refine allK_intro fun n hn => ?_; try simp only [fresh_set] at hn)
      | (refine ifK_intro (fun h => ?_) (fun h => ?_) <;> (try simp only [decide_eq_true_eq, decide_eq_false_iff_not, Bool.not_eq_true', Bool.not_eq_false'] at h) <;> try (exfalso; (try simp only [beq_iff_eq, beq_eq_false_iff_ne, bne_iff_ne, bne_eq_false_iff_eq, ne_eq] at h); omega))
      | (refine keeps_sub (Mem.sub_set (by simp [Mem.set_at, nomem, *])) ?_)
    refine loop_intro (fun j env m => ∃ i : Nat, i ≤ topN x ∧ j = topN x - i ∧ m = nomem ∧ env.length = 36 ∧ nth env 0 = .val (.int .u32 x) ∧ nth env 3 = .val (.int .u32 i)) (topN x) _ (Mem.sub.refl _) ⟨0, by omega, by omega, rfl, rfl, rfl, rfl⟩ ?_
    rintro j env m ⟨i, hi, rfl, rfl, hlen, e0, e3⟩
    have h31 := top_31 h0 h
    repeat' first
      | simp -dsimp (disch := omega) only [↓rulesA, rulesB, rulesC, Int.reduceLT, nth, upd, put, storeN, AV.one, Nat.reduceBEq, Nat.reduceBNe, Int.reduceBEq, Int.reduceBNe, Int.reduceLE, Int.reduceEq, Int.reduceMod, Int.reduceNeg, boolBin, strBin, intBin, unA, fillA, ne_eq, reduceCtorEq, Nat.reduceAdd, Nat.reduceSub, Nat.reduceLeDiff, Nat.reduceLT, Nat.reduceEqDiff, Int.reduceToNat, eq_self, rulesT, bne_self_eq_false, mm_min, mm_max, buOf_some, nilCheck_vp, nilCheck_ptr, nilCheck_yld, nilCheck_func, shr32, natNeg, add32, *]
      | (refine allK_intro fun n hn => ?_; try simp only [fresh_set] at hn)
      | (refine ifK_intro (fun h => ?_) (fun h => ?_) <;> (try simp only [decide_eq_true_eq, decide_eq_false_iff_not, Bool.not_eq_true', Bool.not_eq_false'] at h) <;> try (exfalso; (try simp only [beq_iff_eq, beq_eq_false_iff_ne, bne_iff_ne, bne_eq_false_iff_eq, ne_eq] at h); omega))
      | (refine keeps_sub (Mem.sub_set (by simp [Mem.set_at, nomem, *])) ?_)
    · have hlt : i < topN x := (top_go h0 hi).1 (by omega)
      refine again_intro (topN x - (i + 1)) (by omega) _ (Mem.sub.refl _) ⟨i + 1, by omega, rfl, rfl, ?_, ?_, ?_⟩
      all_goals try (simp (disch := omega) only [nth_upd, pickB_true, pickB_false, inB_lt, upd_len, cast_succ, Int.cast_ofNat_Int, Nat.reduceBEq, beq_self_eq_true, reduceCtorEq, *]; done)
    · have hit : i = topN x := by
        have := top_go h0 hi
        omega
      subst hit
      have hb : x * 2 ^ (31 - topN x) < 18446744073709551616 := by have := (logTo_inv h0 (by assumption) 0).2.1; show (logTo x 0).1 < _; omega
      repeat' first
        | simp -dsimp (disch := omega) only [↓rulesA, rulesB, rulesC, Int.reduceLT, nth, upd, put, storeN, AV.one, Nat.reduceBEq, Nat.reduceBNe, Int.reduceBEq, Int.reduceBNe, Int.reduceLE, Int.reduceEq, Int.reduceMod, Int.reduceNeg, boolBin, strBin, intBin, unA, fillA, ne_eq, reduceCtorEq, Nat.reduceAdd, Nat.reduceSub, Nat.reduceLeDiff, Nat.reduceLT, Nat.reduceEqDiff, Int.reduceToNat, eq_self, rulesT, bne_self_eq_false, mm_min, mm_max, buOf_some, nilCheck_vp, nilCheck_ptr, nilCheck_yld, nilCheck_func, sub31, shl64, natNeg, conv64, *]
        | (refine allK_intro fun n hn => ?_; try simp only [fresh_set] at hn)
        | (refine ifK_intro (fun h => ?_) (fun h => ?_) <;> (try simp only [decide_eq_true_eq, decide_eq_false_iff_not, Bool.not_eq_true', Bool.not_eq_false'] at h) <;> try (exfalso; (try simp only [beq_iff_eq, beq_eq_false_iff_ne, bne_iff_ne, bne_eq_false_iff_eq, ne_eq] at h); omega))
        | (refine keeps_sub (Mem.sub_set (by simp [Mem.set_at, nomem, *])) ?_)
      refine loop_intro (fun j env m => ∃ i : Nat, i ≤ 16 ∧ j = 16 - i ∧ m = nomem ∧ env.length = 36 ∧ nth env 4 = .val (.int .u64 (logTo x i).1) ∧ nth env 5 = .val (.int .u32 (logTo x i).2) ∧ nth env 20 = .val (.int .i64 i)) 16 _ (Mem.sub.refl _) ⟨0, by omega, by omega, rfl, ?_, ?_, ?_, ?_⟩ ?_
      · all_goals try (simp (disch := omega) only [nth_upd, pickB_true, pickB_false, inB_lt, upd_len, cast_succ, Int.cast_ofNat_Int, Nat.reduceBEq, beq_self_eq_true, reduceCtorEq, *]; done)
      · have l1 : (logTo x 0).1 = x * 2 ^ (31 - topN x) := rfl
        all_goals try (simp (disch := omega) only [nth_upd, pickB_true, pickB_false, inB_lt, upd_len, cast_succ, Int.cast_ofNat_Int, Nat.reduceBEq, beq_self_eq_true, reduceCtorEq, *]; done)
      · have l2 : (logTo x 0).2 = topN x := rfl
        all_goals try (simp (disch := omega) only [nth_upd, pickB_true, pickB_false, inB_lt, upd_len, cast_succ, Int.cast_ofNat_Int, Nat.reduceBEq, beq_self_eq_true, reduceCtorEq, *]; done)
      · all_goals try (simp (disch := omega) only [nth_upd, pickB_true, pickB_false, inB_lt, upd_len, cast_succ, Int.cast_ofNat_Int, Nat.reduceBEq, beq_self_eq_true, reduceCtorEq, *]; done)
      clear hlen e0 e3 hi h
      rintro j env m ⟨i, hi, rfl, rfl, hlen, e4, e5, e20⟩
      obtain ⟨y1, y2, -, -⟩ := logTo_inv h0 (by assumption) i
      have hyy : (logTo x i).1 * (logTo x i).1 < 18446744073709551616 := Nat.lt_of_le_of_lt (Nat.mul_le_mul (Nat.le_of_lt_succ (show _ < 4294967295 + 1 by omega)) (Nat.le_of_lt_succ (show _ < 4294967295 + 1 by omega))) (by decide)
      by_cases hi16 : i < 16
      · have hsm := log_small h0 (by assumption) hi16
        have hsm2 : (logTo x i).2 * 2 < 4294967296 := by omega
        have hev : (logTo x i).2 * 2 % 2 = 0 := by omega
        obtain ⟨y, hy⟩ : ∃ y, y = (logTo x i).1 * (logTo x i).1 / 2 ^ 31 := ⟨_, rfl⟩
        have hst : logTo x (i + 1) = if 4294967296 ≤ y then (y / 2, (logTo x i).2 * 2 + 1) else (y, (logTo x i).2 * 2) := by rw [hy]; rfl
        have hq : (((logTo x i).1 : Int) * ((logTo x i).1 : Int)).fdiv (2 ^ min 31 IntKind.u64.bits) = (y : Int) := by
          rw [← Int.natCast_mul, shr64 _ _ (by decide), hy]
        clear hy
        repeat' first
          | simp -dsimp (disch := omega) only [↓rulesA, rulesB, rulesC, Int.reduceLT, nth, upd, put, storeN, AV.one, Nat.reduceBEq, Nat.reduceBNe, Int.reduceBEq, Int.reduceBNe, Int.reduceLE, Int.reduceEq, Int.reduceMod, Int.reduceNeg, boolBin, strBin, intBin, unA, fillA, ne_eq, reduceCtorEq, Nat.reduceAdd, Nat.reduceSub, Nat.reduceLeDiff, Nat.reduceLT, Nat.reduceEqDiff, Int.reduceToNat, eq_self, rulesT, bne_self_eq_false, mm_min, mm_max, buOf_some, nilCheck_vp, nilCheck_ptr, nilCheck_yld, nilCheck_func, natNeg, shl32_1, or32, hq, *]
          | (refine allK_intro fun n hn => ?_; try simp only [fresh_set] at hn)
          | (refine ifK_intro (fun h => ?_) (fun h => ?_) <;> (try simp only [decide_eq_true_eq, decide_eq_false_iff_not, Bool.not_eq_true', Bool.not_eq_false'] at h) <;> try (exfalso; (try simp only [beq_iff_eq, beq_eq_false_iff_ne, bne_iff_ne, bne_eq_false_iff_eq, ne_eq] at h); omega))
          | (refine keeps_sub (Mem.sub_set (by simp [Mem.set_at, nomem, *])) ?_)
        · have : 4294967296 ≤ y := by omega
          rw [if_pos this] at hst
          have l1 : ((logTo x (i + 1)).1 : Int) = (y : Int) / 2 := by rw [hst]; rfl
          have l2 : (logTo x (i + 1)).2 = (logTo x i).2 * 2 + 1 := by rw [hst]
          clear hst
          refine again_intro (16 - (i + 1)) (by omega) _ (Mem.sub.refl _) ⟨i + 1, by omega, rfl, rfl, ?_, ?_, ?_, ?_⟩
          all_goals try (simp (disch := omega) only [nth_upd, pickB_true, pickB_false, inB_lt, upd_len, cast_succ, Int.cast_ofNat_Int, Nat.reduceBEq, beq_self_eq_true, reduceCtorEq, *]; done)
        · have : ¬ 4294967296 ≤ y := by omega
          rw [if_neg this] at hst
          have l1 : (logTo x (i + 1)).1 = y := by rw [hst]
          have l2 : (logTo x (i + 1)).2 = (logTo x i).2 * 2 := by rw [hst]
          clear hst
          refine again_intro (16 - (i + 1)) (by omega) _ (Mem.sub.refl _) ⟨i + 1, by omega, rfl, rfl, ?_, ?_, ?_, ?_⟩
          all_goals try (simp (disch := omega) only [nth_upd, pickB_true, pickB_false, inB_lt, upd_len, cast_succ, Int.cast_ofNat_Int, Nat.reduceBEq, beq_self_eq_true, reduceCtorEq, *]; done)
      · have : i = 16 := by omega
        subst this
        have e : (logTo x 16).2 = logN x := by unfold logN; rw [if_neg h0]
        repeat' first
          | simp -dsimp (disch := omega) only [↓rulesA, rulesB, rulesC, Int.reduceLT, nth, upd, put, storeN, AV.one, Nat.reduceBEq, Nat.reduceBNe, Int.reduceBEq, Int.reduceBNe, Int.reduceLE, Int.reduceEq, Int.reduceMod, Int.reduceNeg, boolBin, strBin, intBin, unA, fillA, ne_eq, reduceCtorEq, Nat.reduceAdd, Nat.reduceSub, Nat.reduceLeDiff, Nat.reduceLT, Nat.reduceEqDiff, Int.reduceToNat, eq_self, rulesT, bne_self_eq_false, mm_min, mm_max, buOf_some, nilCheck_vp, nilCheck_ptr, nilCheck_yld, nilCheck_func, *]
          | (refine allK_intro fun n hn => ?_; try simp only [fresh_set] at hn)
          | (refine ifK_intro (fun h => ?_) (fun h => ?_) <;> (try simp only [decide_eq_true_eq, decide_eq_false_iff_not, Bool.not_eq_true', Bool.not_eq_false'] at h) <;> try (exfalso; (try simp only [beq_iff_eq, beq_eq_false_iff_ne, bne_iff_ne, bne_eq_false_iff_eq, ne_eq] at h); omega))
          | (refine keeps_sub (Mem.sub_set (by simp [Mem.set_at, nomem, *])) ?_)
        exact .val
end Go.Proofs.Yteilhoojlcpbpaa

