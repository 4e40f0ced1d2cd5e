/- Package 05: the law SectorLoads. -/
import Derived.Test.YtkfjjjjejdogbaaD20
import Derived.Test.YtkfjjjjejdogbaaA27
set_option maxRecDepth 100000
set_option maxHeartbeats 1000000
set_option linter.unusedSimpArgs false
set_option linter.unusedVariables false
namespace Go.Proofs.Ytkfjjjjejdogbaa
open Go.Abs
attribute [local irreducible] C X CC Y CV CW binK litK AppK PureC PureCV againK loopV rangeV allK ifK got onB condK V stepsK planK opK firstK seeE keepsK

theorem cleans_vals : ∀ {l : List AV}, (∀ c ∈ l, ∃ v, c = .val v) → AV.clean.cleans l = true
  | [], _ => rfl
  | c :: l, h => by
    obtain ⟨v, rfl⟩ := h c (by simp)
    show (AV.clean (.val v) && AV.clean.cleans l) = true
    rw [cleans_vals fun c hc => h c (by simp [hc])]; rfl
theorem Dev.At.clean {d : Dev} {N : Nat} {m : Mem} (h : d.At N m) : ∀ n b, m n = some b → cleanB b := by
  obtain ⟨nl, nL, h1, h2, h3, rfl⟩ := h
  intro n b hb
  unfold Dev.mem Mem.set at hb
  split at hb
  · cases hb; exact rfl
  · split at hb
    · cases hb; exact cleans_vals (vals_row Wr.cells Wr.vals d.list)
    · split at hb
      · cases hb; exact cleans_vals (vals_row Sec.cells Sec.vals d.laid)
      · cases hb
/-- The sector at k of a row of bytes. -/
def secAt (l : List UInt8) (k : Nat) : Sec := fillS (l.drop (k * 64))
def laidTo (l : List UInt8) (n : Nat) : Nat → List Sec
  | 0 => List.replicate n Sec.zero
  | i + 1 => (laidTo l n i).set i (secAt l i)
theorem laidTo_len (l : List UInt8) (n : Nat) : ∀ i, (laidTo l n i).length = n
  | 0 => List.length_replicate
  | i + 1 => by unfold laidTo; rw [List.length_set]; exact laidTo_len l n i
theorem laidTo_img {l : List UInt8} {n : Nat} (h : l.length = n * 64) : ∀ i, i ≤ n → imgL (laidTo l n i) = l.take (i * 64) ++ List.replicate ((n - i) * 64) 0
  | 0, _ => by unfold laidTo; rw [img_zero]; simp
  | i + 1, hi => by
    have ih := laidTo_img h i (by omega)
    unfold laidTo
    rw [← upTo_img _ _ _ (by rw [laidTo_len]; omega), ih]
    unfold upTo
    have e1 : (l.take (i * 64)).length = i * 64 := by simp; omega
    have e2 : (secAt l i).l.take 64 = (l.drop (i * 64)).take 64 := by
      rw [List.take_of_length_le (by rw [(secAt l i).h]; exact Nat.le_refl _)]
      unfold secAt fillS
      have : 64 - (l.drop (i * 64)).length = 0 := by simp; omega
      simp only [this, List.replicate_zero, List.append_nil]
    rw [e2, List.take_append_of_le_length (by omega), List.take_of_length_le (by omega)]
    have e3 : (i + 1) * 64 = i * 64 + 64 := by omega
    rw [e3, List.take_add, List.drop_append, e1]
    have e4 : (l.take (i * 64)).drop (i * 64 + 64) = [] := List.drop_eq_nil_of_le (by omega)
    have e5 : i * 64 + 64 - i * 64 = 64 := by omega
    have e6 : (n - i) * 64 - 64 = (n - (i + 1)) * 64 := by omega
    rw [e4, e5, List.nil_append, List.drop_replicate, e6]
def loadD (l : List UInt8) (n : Nat) : Dev := { newDev n with laid := laidTo l n n }
theorem load_ok {l : List UInt8} {n : Nat} (h1 : 1 ≤ n) (h2 : n ≤ 4096) : (loadD l n).Ok :=
  ⟨by show 1 ≤ (laidTo l n n).length; rw [laidTo_len]; exact h1, by show (laidTo l n n).length ≤ _; rw [laidTo_len]; exact h2, fun w hw => (by cases hw), List.nodup_nil, fun h => (by cases h)⟩
theorem load_img {l : List UInt8} {n : Nat} (h : l.length = n * 64) : imgL (loadD l n).laid = l := by
  show imgL (laidTo l n n) = l
  rw [laidTo_img h n (Nat.le_refl _), Nat.sub_self, ← h]; simp
theorem tdiv64 (n : Nat) : ((n : Int)).tdiv 64 = ((n / 64 : Nat) : Int) := rfl
theorem rlo_27 (m : Mem) (l : List UInt8) (x : Bool) (kk : IntKind) (lo : Int) (h0 : 0 ≤ lo) (h1 : lo ≤ l.length) : sliceA Try.prog m 27 (.vs (l.map byteC) x) (some (.val (.int kk lo))) none none = some (.vs ((l.drop lo.toNat).map byteC) x) := T_27.rlo byteC_len m l x kk lo h0 h1
theorem C25 (l : List UInt8) (x : Bool) (n : Nat) (h1 : 1 ≤ n) (h2 : n ≤ 4096) (hl : l.length = n * 64) : C Try.prog 25 [.vs (l.map byteC) x] nomem (fun r m' => ∃ N, r = .ptr N 0 ∧ (loadD l n).At N m') := by
  have hq : n * 64 / 64 = n := by omega
  refine C.turn (C25_of ?_)
  unfold k25
  repeat' first
    | simp -dsimp (disch := omega) only [↓rulesA, rulesB, rulesC, Int.reduceLT, nth, upd, put, storeN, AV.one, Nat.reduceBEq, Nat.reduceBNe, Int.reduceBEq, Int.reduceBNe, Int.reduceLE, Int.reduceEq, Int.reduceMod, Int.reduceNeg, boolBin, strBin, intBin, unA, fillA, ne_eq, reduceCtorEq, Nat.reduceAdd, Nat.reduceSub, Nat.reduceLeDiff, Nat.reduceLT, Nat.reduceEqDiff, Int.reduceToNat, eq_self, rulesT, bne_self_eq_false, mm_min, mm_max, buOf_some, nilCheck_vp, nilCheck_ptr, nilCheck_yld, nilCheck_func, tdiv64, *]
    | (refine allK_intro fun n hn => ?_; try simp only [fresh_set] at hn)
    | (refine ifK_intro (fun h => ?_) (fun h => ?_) <;> (try simp only [decide_eq_true_eq, decide_eq_false_iff_not, Bool.not_eq_true', Bool.not_eq_false'] at h) <;> try (exfalso; (try simp only [beq_iff_eq, beq_eq_false_iff_ne, bne_iff_ne, bne_eq_false_iff_eq, ne_eq] at h); omega))
    | (refine keeps_sub (Mem.sub_set (by simp [Mem.set_at, nomem, *])) ?_)
  refine call_at (C8 n h1 h2) (nomem_sub _) fun r m1 M1 ⟨N, hr, a0⟩ s0 _ => ?_
  subst hr
  have hn0 : (newDev n).laid.length = n := by simp [newDev]
  obtain ⟨nl, nL, g1, g2, g3, rfl⟩ := a0
  have g1' := Ne.symm g1
  have g2' := Ne.symm g2
  have g3' := Ne.symm g3
  have a1 : M1 N = some (.cells false 59 ((newDev n).own ((newDev n).row nl) nL)) := s0 _ _ (Mem.set_same _ _ _)
  have k0 : ((n * 64 : Nat) : Int) = (n : Int) * 64 := by omega
  repeat' first
    | simp -dsimp (disch := omega) only [↓rulesA, rulesB, rulesC, Int.reduceLT, nth, upd, put, storeN, AV.one, Nat.reduceBEq, Nat.reduceBNe, Int.reduceBEq, Int.reduceBNe, Int.reduceLE, Int.reduceEq, Int.reduceMod, Int.reduceNeg, boolBin, strBin, intBin, unA, fillA, ne_eq, reduceCtorEq, Nat.reduceAdd, Nat.reduceSub, Nat.reduceLeDiff, Nat.reduceLT, Nat.reduceEqDiff, Int.reduceToNat, eq_self, rulesT, bne_self_eq_false, mm_min, mm_max, buOf_some, nilCheck_vp, nilCheck_ptr, nilCheck_yld, nilCheck_func, Dev.row, Dev.o0, Dev.o1, Dev.o2, Dev.o3, Dev.o4, Dev.o5, Dev.o6, Dev.o7, Dev.olen, Dev.s0, Dev.s1, Dev.s2, Dev.s5, Dev.s6, Dev.s7, hn0, *]
    | (refine allK_intro fun n hn => ?_; try simp only [fresh_set] at hn)
    | (refine ifK_intro (fun h => ?_) (fun h => ?_) <;> (try simp only [decide_eq_true_eq, decide_eq_false_iff_not, Bool.not_eq_true', Bool.not_eq_false'] at h) <;> try (exfalso; (try simp only [beq_iff_eq, beq_eq_false_iff_ne, bne_iff_ne, bne_eq_false_iff_eq, ne_eq] at h); omega))
    | (refine keeps_sub (Mem.sub_set (by simp [Mem.set_at, nomem, *])) ?_)
  clear k0
  refine loop_intro (fun j env m => ∃ i : Nat, i ≤ n ∧ j = n - i ∧ (({ newDev n with laid := laidTo l n i } : Dev).mem N nl nL).sub m ∧ env.length = 42 ∧ nth env 0 = .vs (l.map byteC) x ∧ nth env 4 = .ptr N 0 ∧ nth env 24 = .val (.int .i64 n) ∧ nth env 25 = .val (.int .i64 i)) n _ (Mem.sub.refl _) ⟨0, by omega, by omega, s0, rfl, rfl, rfl, rfl, rfl⟩ ?_
  clear a1 s0
  rintro j env m ⟨i, hi, rfl, hsub, hlen, e0, e4, e24, e25⟩
  have hll := laidTo_len l n i
  have a1 : m N = some (.cells false 59 (({ newDev n with laid := laidTo l n i } : Dev).own ((newDev n).row nl) nL)) := hsub _ _ (Mem.set_same _ _ _)
  have a2 : m nL = some (.cells false 68 ((laidTo l n i).map Sec.cells).flatten) := hsub _ _ ((Mem.set_ne _ _ g2').trans ((Mem.set_ne _ _ g3').trans (Mem.set_same _ _ _)))
  have a3 : m nl = some (.cells true 70 (([] : List Wr).map Wr.cells).flatten) := hsub _ _ ((Mem.set_ne _ _ g1').trans (Mem.set_same _ _ _))
  have k1 : (i : Int) * 64 = ((i * 64 : Nat) : Int) := by omega
  repeat' first
    | simp -dsimp (disch := omega) only [↓rulesA, rulesB, rulesC, Int.reduceLT, nth, upd, put, storeN, AV.one, Nat.reduceBEq, Nat.reduceBNe, Int.reduceBEq, Int.reduceBNe, Int.reduceLE, Int.reduceEq, Int.reduceMod, Int.reduceNeg, boolBin, strBin, intBin, unA, fillA, ne_eq, reduceCtorEq, Nat.reduceAdd, Nat.reduceSub, Nat.reduceLeDiff, Nat.reduceLT, Nat.reduceEqDiff, Int.reduceToNat, eq_self, rulesT, bne_self_eq_false, mm_min, mm_max, buOf_some, nilCheck_vp, nilCheck_ptr, nilCheck_yld, nilCheck_func, Dev.row, Dev.o0, Dev.o1, Dev.o2, Dev.o3, Dev.o4, Dev.o5, Dev.o6, Dev.o7, Dev.olen, Dev.s0, Dev.s1, Dev.s2, Dev.s5, Dev.s6, Dev.s7, hn0, rlo_27, Sec.len, Sec.zr, Sec.zr', Sec.all, Sec.take, Sec.drop, Sec.put, Sec.rlen, Sec.rpart, Sec.rin, Sec.rset, *]
    | (refine allK_intro fun n hn => ?_; try simp only [fresh_set] at hn)
    | (refine ifK_intro (fun h => ?_) (fun h => ?_) <;> (try simp only [decide_eq_true_eq, decide_eq_false_iff_not, Bool.not_eq_true', Bool.not_eq_false'] at h) <;> try (exfalso; (try simp only [beq_iff_eq, beq_eq_false_iff_ne, bne_iff_ne, bne_eq_false_iff_eq, ne_eq] at h); omega))
    | (refine keeps_sub (Mem.sub_set (by simp [Mem.set_at, nomem, *])) ?_)
  · have hdl : 64 ≤ (l.drop (i * 64)).length := by rw [List.length_drop]; omega
    have ht : (((l.drop (i * 64)).take 64).map byteC).flatten = (secAt l i).cells := by
      unfold secAt Sec.cells fillS
      have : 64 - (l.drop (i * 64)).length = 0 := by omega
      simp only [this, List.replicate_zero, List.append_nil]
    repeat' first
      | simp -dsimp (disch := omega) only [↓rulesA, rulesB, rulesC, Int.reduceLT, nth, upd, put, storeN, AV.one, Nat.reduceBEq, Nat.reduceBNe, Int.reduceBEq, Int.reduceBNe, Int.reduceLE, Int.reduceEq, Int.reduceMod, Int.reduceNeg, boolBin, strBin, intBin, unA, fillA, ne_eq, reduceCtorEq, Nat.reduceAdd, Nat.reduceSub, Nat.reduceLeDiff, Nat.reduceLT, Nat.reduceEqDiff, Int.reduceToNat, eq_self, rulesT, bne_self_eq_false, mm_min, mm_max, buOf_some, nilCheck_vp, nilCheck_ptr, nilCheck_yld, nilCheck_func, Dev.row, Dev.o0, Dev.o1, Dev.o2, Dev.o3, Dev.o4, Dev.o5, Dev.o6, Dev.o7, Dev.olen, Dev.s0, Dev.s1, Dev.s2, Dev.s5, Dev.s6, Dev.s7, hn0, rlo_27, Sec.len, Sec.zr, Sec.zr', Sec.all, Sec.take, Sec.drop, Sec.put, Sec.rlen, Sec.rpart, Sec.rin, Sec.rset, ht, *]
      | (refine allK_intro fun n hn => ?_; try simp only [fresh_set] at hn)
      | (refine ifK_intro (fun h => ?_) (fun h => ?_) <;> (try simp only [decide_eq_true_eq, decide_eq_false_iff_not, Bool.not_eq_true', Bool.not_eq_false'] at h) <;> try (exfalso; (try simp only [beq_iff_eq, beq_eq_false_iff_ne, bne_iff_ne, bne_eq_false_iff_eq, ne_eq] at h); omega))
      | (refine keeps_sub (Mem.sub_set (by simp [Mem.set_at, nomem, *])) ?_)
    refine again_intro (n - (i + 1)) (by omega) _ (Mem.sub.refl _) ⟨i + 1, by omega, rfl, ?_, ?_, ?_, ?_, ?_, ?_⟩
    · have e : laidTo l n (i + 1) = (laidTo l n i).set i (secAt l i) := rfl
      unfold Dev.mem
      have er : ({ newDev n with laid := laidTo l n (i + 1) } : Dev).own (Dev.row { newDev n with laid := laidTo l n (i + 1) } nl) nL = ({ newDev n with laid := laidTo l n i } : Dev).own ((newDev n).row nl) nL := by
        unfold Dev.own Dev.row
        simp only [laidTo_len]
      rw [er]
      refine Mem.set_sub (Mem.set_sub (Mem.set_sub (nomem_sub _) ?_) ?_) ?_
      · rw [Mem.set_same]; rfl
      · rw [Mem.set_ne _ _ g3, a3]; rfl
      · rw [Mem.set_ne _ _ g2, a1]
    all_goals try (simp (disch := omega) only [nth_upd, pickB_true, pickB_false, inB_lt, upd_len, cast_succ, Nat.reduceBEq, beq_self_eq_true, reduceCtorEq, *]; done)
  · have : i = n := by omega
    subst this
    exact .sub (m' := (loadD l i).mem N nl nL) hsub ⟨N, rfl, nl, nL, g1, g2, g3, rfl⟩
theorem C25_no (l : List UInt8) (x : Bool) (h : ¬ (l.length % 64 = 0 ∧ 64 ≤ l.length ∧ l.length ≤ 262144)) (hl : l.length ≤ 140737488355328) : C Try.prog 25 [.vs (l.map byteC) x] nomem (fun r m' => r = .val (.pointer none) ∧ m' = nomem) := by
  refine C.turn (C25_of ?_)
  unfold k25
  repeat' first
    | simp -dsimp (disch := omega) only [↓rulesA, rulesB, rulesC, Int.reduceLT, nth, upd, put, storeN, AV.one, Nat.reduceBEq, Nat.reduceBNe, Int.reduceBEq, Int.reduceBNe, Int.reduceLE, Int.reduceEq, Int.reduceMod, Int.reduceNeg, boolBin, strBin, intBin, unA, fillA, ne_eq, reduceCtorEq, Nat.reduceAdd, Nat.reduceSub, Nat.reduceLeDiff, Nat.reduceLT, Nat.reduceEqDiff, Int.reduceToNat, eq_self, rulesT, bne_self_eq_false, mm_min, mm_max, buOf_some, nilCheck_vp, nilCheck_ptr, nilCheck_yld, nilCheck_func, tdiv64, *]
    | (refine allK_intro fun n hn => ?_; try simp only [fresh_set] at hn)
    | (refine ifK_intro (fun h => ?_) (fun h => ?_) <;> (try simp only [decide_eq_true_eq, decide_eq_false_iff_not, Bool.not_eq_true', Bool.not_eq_false'] at h) <;> try (exfalso; (try simp only [beq_iff_eq, beq_eq_false_iff_ne, bne_iff_ne, bne_eq_false_iff_eq, ne_eq] at h); omega))
    | (refine keeps_sub (Mem.sub_set (by simp [Mem.set_at, nomem, *])) ?_)
  by_cases hq : 1 ≤ l.length / 64 ∧ l.length / 64 ≤ 4096
  · refine call_at (C8 _ hq.1 hq.2) (nomem_sub _) fun r m1 M1 ⟨N, hr, a0⟩ s0 _ => ?_
    subst hr
    repeat' first
      | simp -dsimp (disch := omega) only [↓rulesA, rulesB, rulesC, Int.reduceLT, nth, upd, put, storeN, AV.one, Nat.reduceBEq, Nat.reduceBNe, Int.reduceBEq, Int.reduceBNe, Int.reduceLE, Int.reduceEq, Int.reduceMod, Int.reduceNeg, boolBin, strBin, intBin, unA, fillA, ne_eq, reduceCtorEq, Nat.reduceAdd, Nat.reduceSub, Nat.reduceLeDiff, Nat.reduceLT, Nat.reduceEqDiff, Int.reduceToNat, eq_self, rulesT, bne_self_eq_false, mm_min, mm_max, buOf_some, nilCheck_vp, nilCheck_ptr, nilCheck_yld, nilCheck_func, *]
      | (refine allK_intro fun n hn => ?_; try simp only [fresh_set] at hn)
      | (refine ifK_intro (fun h => ?_) (fun h => ?_) <;> (try simp only [decide_eq_true_eq, decide_eq_false_iff_not, Bool.not_eq_true', Bool.not_eq_false'] at h) <;> try (exfalso; (try simp only [beq_iff_eq, beq_eq_false_iff_ne, bne_iff_ne, bne_eq_false_iff_eq, ne_eq] at h); omega))
      | (refine keeps_sub (Mem.sub_set (by simp [Mem.set_at, nomem, *])) ?_)
    exact .sub (nomem_sub _) ⟨rfl, rfl⟩
  · refine call_at (C8_no _ (by omega)) (nomem_sub _) fun r m1 M1 ⟨hr, _⟩ s0 _ => ?_
    subst hr
    repeat' first
      | simp -dsimp (disch := omega) only [↓rulesA, rulesB, rulesC, Int.reduceLT, nth, upd, put, storeN, AV.one, Nat.reduceBEq, Nat.reduceBNe, Int.reduceBEq, Int.reduceBNe, Int.reduceLE, Int.reduceEq, Int.reduceMod, Int.reduceNeg, boolBin, strBin, intBin, unA, fillA, ne_eq, reduceCtorEq, Nat.reduceAdd, Nat.reduceSub, Nat.reduceLeDiff, Nat.reduceLT, Nat.reduceEqDiff, Int.reduceToNat, eq_self, rulesT, bne_self_eq_false, mm_min, mm_max, buOf_some, nilCheck_vp, nilCheck_ptr, nilCheck_yld, nilCheck_func, *]
      | (refine allK_intro fun n hn => ?_; try simp only [fresh_set] at hn)
      | (refine ifK_intro (fun h => ?_) (fun h => ?_) <;> (try simp only [decide_eq_true_eq, decide_eq_false_iff_not, Bool.not_eq_true', Bool.not_eq_false'] at h) <;> try (exfalso; (try simp only [beq_iff_eq, beq_eq_false_iff_ne, bne_iff_ne, bne_eq_false_iff_eq, ne_eq] at h); omega))
      | (refine keeps_sub (Mem.sub_set (by simp [Mem.set_at, nomem, *])) ?_)
    exact .sub (nomem_sub _) ⟨rfl, rfl⟩
/-! ### The reference loads -/
theorem C26_no (l : List UInt8) (x : Bool) (h : ¬ (l.length % 64 = 0 ∧ 64 ≤ l.length ∧ l.length ≤ 262144)) (hl : l.length ≤ 140737488355328) : C Try.prog 26 [.vs (l.map byteC) x] nomem (fun r m' => r = .val (.pointer none)) := by
  refine C26_of ?_
  unfold k26
  repeat' first
    | simp -dsimp (disch := omega) only [↓rulesA, rulesB, rulesC, Int.reduceLT, nth, upd, put, storeN, AV.one, Nat.reduceBEq, Nat.reduceBNe, Int.reduceBEq, Int.reduceBNe, Int.reduceLE, Int.reduceEq, Int.reduceMod, Int.reduceNeg, boolBin, strBin, intBin, unA, fillA, ne_eq, reduceCtorEq, Nat.reduceAdd, Nat.reduceSub, Nat.reduceLeDiff, Nat.reduceLT, Nat.reduceEqDiff, Int.reduceToNat, eq_self, rulesT, bne_self_eq_false, mm_min, mm_max, buOf_some, nilCheck_vp, nilCheck_ptr, nilCheck_yld, nilCheck_func, tdiv64, tmod64, *]
    | (refine allK_intro fun n hn => ?_; try simp only [fresh_set] at hn)
    | (refine ifK_intro (fun h => ?_) (fun h => ?_) <;> (try simp only [decide_eq_true_eq, decide_eq_false_iff_not, Bool.not_eq_true', Bool.not_eq_false'] at h) <;> try (exfalso; (try simp only [beq_iff_eq, beq_eq_false_iff_ne, bne_iff_ne, bne_eq_false_iff_eq, ne_eq] at h); omega))
    | (refine keeps_sub (Mem.sub_set (by simp [Mem.set_at, nomem, *])) ?_)
  have hb : (((l.length % 64 : Nat) : Int) != 0) = false := by assumption
  rw [bne_eq_false_iff_eq] at hb
  refine call_at (C21_no _ (by omega)) (nomem_sub _) fun r m1 M1 ⟨hr, _⟩ s0 _ => ?_
  subst hr
  repeat' first
    | simp -dsimp (disch := omega) only [↓rulesA, rulesB, rulesC, Int.reduceLT, nth, upd, put, storeN, AV.one, Nat.reduceBEq, Nat.reduceBNe, Int.reduceBEq, Int.reduceBNe, Int.reduceLE, Int.reduceEq, Int.reduceMod, Int.reduceNeg, boolBin, strBin, intBin, unA, fillA, ne_eq, reduceCtorEq, Nat.reduceAdd, Nat.reduceSub, Nat.reduceLeDiff, Nat.reduceLT, Nat.reduceEqDiff, Int.reduceToNat, eq_self, rulesT, bne_self_eq_false, mm_min, mm_max, buOf_some, nilCheck_vp, nilCheck_ptr, nilCheck_yld, nilCheck_func, *]
    | (refine allK_intro fun n hn => ?_; try simp only [fresh_set] at hn)
    | (refine ifK_intro (fun h => ?_) (fun h => ?_) <;> (try simp only [decide_eq_true_eq, decide_eq_false_iff_not, Bool.not_eq_true', Bool.not_eq_false'] at h) <;> try (exfalso; (try simp only [beq_iff_eq, beq_eq_false_iff_ne, bne_iff_ne, bne_eq_false_iff_eq, ne_eq] at h); omega))
    | (refine keeps_sub (Mem.sub_set (by simp [Mem.set_at, nomem, *])) ?_)
theorem C26 (l : List UInt8) (x : Bool) (n : Nat) (h1 : 1 ≤ n) (h2 : n ≤ 4096) (hl : l.length = n * 64) : C Try.prog 26 [.vs (l.map byteC) x] nomem (fun r m' => ∃ N, r = .ptr N 0 ∧ (loadD l n).RAt N m') := by
  have hq : n * 64 / 64 = n := by omega
  have hz : n * 64 % 64 = 0 := by omega
  refine C.turn (C26_of ?_)
  unfold k26
  repeat' first
    | simp -dsimp (disch := omega) only [↓rulesA, rulesB, rulesC, Int.reduceLT, nth, upd, put, storeN, AV.one, Nat.reduceBEq, Nat.reduceBNe, Int.reduceBEq, Int.reduceBNe, Int.reduceLE, Int.reduceEq, Int.reduceMod, Int.reduceNeg, boolBin, strBin, intBin, unA, fillA, ne_eq, reduceCtorEq, Nat.reduceAdd, Nat.reduceSub, Nat.reduceLeDiff, Nat.reduceLT, Nat.reduceEqDiff, Int.reduceToNat, eq_self, rulesT, bne_self_eq_false, mm_min, mm_max, buOf_some, nilCheck_vp, nilCheck_ptr, nilCheck_yld, nilCheck_func, tdiv64, tmod64, *]
    | (refine allK_intro fun n hn => ?_; try simp only [fresh_set] at hn)
    | (refine ifK_intro (fun h => ?_) (fun h => ?_) <;> (try simp only [decide_eq_true_eq, decide_eq_false_iff_not, Bool.not_eq_true', Bool.not_eq_false'] at h) <;> try (exfalso; (try simp only [beq_iff_eq, beq_eq_false_iff_ne, bne_iff_ne, bne_eq_false_iff_eq, ne_eq] at h); omega))
    | (refine keeps_sub (Mem.sub_set (by simp [Mem.set_at, nomem, *])) ?_)
  refine call_at (C21 n h1 h2) (nomem_sub _) fun r m1 M1 ⟨N, hr, a0⟩ s0 _ => ?_
  subst hr
  obtain ⟨nC, nD, pk, g1, g2, g3, -, rfl⟩ := a0
  have hn0 : (newDev n).laid.length = n := by simp [newDev]
  have a1 : M1 N = some (.cells false 73 ((newDev n).ro nD ((newDev n).rrow nC) pk)) := s0 _ _ (Mem.set_same _ _ _)
  have a2 : M1 nD = some (.cells false 5 ((imgL (newDev n).laid).map byteC).flatten) := s0 _ _ ((Mem.set_ne _ _ (Ne.symm g2)).trans ((Mem.set_ne _ _ (Ne.symm g3)).trans (Mem.set_same _ _ _)))
  have a3 : M1 nC = some (.cells true 81 (([] : List Wr).map slotC).flatten) := s0 _ _ ((Mem.set_ne _ _ (Ne.symm g1)).trans (Mem.set_same _ _ _))
  repeat' first
    | simp -dsimp (disch := omega) only [↓rulesA, rulesB, rulesC, Int.reduceLT, nth, upd, put, storeN, AV.one, Nat.reduceBEq, Nat.reduceBNe, Int.reduceBEq, Int.reduceBNe, Int.reduceLE, Int.reduceEq, Int.reduceMod, Int.reduceNeg, boolBin, strBin, intBin, unA, fillA, ne_eq, reduceCtorEq, Nat.reduceAdd, Nat.reduceSub, Nat.reduceLeDiff, Nat.reduceLT, Nat.reduceEqDiff, Int.reduceToNat, eq_self, rulesT, bne_self_eq_false, mm_min, mm_max, buOf_some, nilCheck_vp, nilCheck_ptr, nilCheck_yld, nilCheck_func, Dev.rrow, Dev.ro, Dev.t4, Dev.p0, Dev.p1, Dev.p2, Dev.p3, Dev.p4, Dev.p5, Dev.p6, Dev.p7, Dev.plen, Dev.t2, Dev.t3, Dev.t5, Dev.t6, Dev.t7, hn0, *]
    | (refine allK_intro fun n hn => ?_; try simp only [fresh_set] at hn)
    | (refine ifK_intro (fun h => ?_) (fun h => ?_) <;> (try simp only [decide_eq_true_eq, decide_eq_false_iff_not, Bool.not_eq_true', Bool.not_eq_false'] at h) <;> try (exfalso; (try simp only [beq_iff_eq, beq_eq_false_iff_ne, bne_iff_ne, bne_eq_false_iff_eq, ne_eq] at h); omega))
    | (refine keeps_sub (Mem.sub_set (by simp [Mem.set_at, nomem, *])) ?_)
  refine copy_own ti_27 rfl ti_5 (k := n * 64) (q := n * 64) (src := (l.map byteC).flatten) a2 (by simp [lenS, hl]) ?_ ?_ ?_ ?_
  · rw [Nat.min_self]
    simp only [truncA, ← List.map_take, ← hl, List.take_length]
    exact src_27 _ _ _
  · rw [flatten_one, hl, Nat.min_self]; show _ = n * 64 * 1; omega
  · rw [flatten_one, imgL_len, hn0]; show 0 + n * 64 * 1 ≤ n * 64; omega
  · have e : setRange ((imgL (newDev n).laid).map byteC).flatten 0 (l.map byteC).flatten = ((imgL (loadD l n).laid).map byteC).flatten := by
      rw [load_img hl]
      unfold setRange
      rw [List.take_zero, List.nil_append, List.drop_eq_nil_of_le (by rw [flatten_one, flatten_one, imgL_len, hn0, hl]; omega), List.append_nil]
    rw [e]
    repeat' first
      | simp -dsimp (disch := omega) only [↓rulesA, rulesB, rulesC, Int.reduceLT, nth, upd, put, storeN, AV.one, Nat.reduceBEq, Nat.reduceBNe, Int.reduceBEq, Int.reduceBNe, Int.reduceLE, Int.reduceEq, Int.reduceMod, Int.reduceNeg, boolBin, strBin, intBin, unA, fillA, ne_eq, reduceCtorEq, Nat.reduceAdd, Nat.reduceSub, Nat.reduceLeDiff, Nat.reduceLT, Nat.reduceEqDiff, Int.reduceToNat, eq_self, rulesT, bne_self_eq_false, mm_min, mm_max, buOf_some, nilCheck_vp, nilCheck_ptr, nilCheck_yld, nilCheck_func, *]
      | (refine allK_intro fun n hn => ?_; try simp only [fresh_set] at hn)
      | (refine ifK_intro (fun h => ?_) (fun h => ?_) <;> (try simp only [decide_eq_true_eq, decide_eq_false_iff_not, Bool.not_eq_true', Bool.not_eq_false'] at h) <;> try (exfalso; (try simp only [beq_iff_eq, beq_eq_false_iff_ne, bne_iff_ne, bne_eq_false_iff_eq, ne_eq] at h); omega))
      | (refine keeps_sub (Mem.sub_set (by simp [Mem.set_at, nomem, *])) ?_)
    refine .sub (m' := (loadD l n).rmem N nC nD pk) ?_ ⟨N, rfl, nC, nD, pk, g1, g2, g3, fun h => (by cases h), rfl⟩
    unfold Dev.rmem
    have er : (loadD l n).ro nD ((loadD l n).rrow nC) pk = (newDev n).ro nD ((newDev n).rrow nC) pk := by
      unfold Dev.ro Dev.rl
      have e1 : (loadD l n).laid.length = (newDev n).laid.length := by rw [hn0]; exact laidTo_len l n n
      rw [e1]; rfl
    rw [er]
    refine Mem.set_sub (Mem.set_sub (Mem.set_sub (nomem_sub _) ?_) ?_) ?_
    · rw [Mem.set_same]
    · rw [Mem.set_ne _ _ g3, a3]; rfl
    · rw [Mem.set_ne _ _ g2, a1]
end Go.Proofs.Ytkfjjjjejdogbaa

