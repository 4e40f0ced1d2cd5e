/- Package 20: small functions, second part. -/
import Derived.Test.YtoankcclbnnfiaaD1
set_option maxRecDepth 100000
set_option maxHeartbeats 1000000
set_option linter.unusedSimpArgs false
set_option linter.unusedVariables false
namespace Go.Proofs.Ytoankcclbnnfiaa
open Go.Abs
attribute [local irreducible] C X CC Y CV CW binK litK AppK PureC PureCV againK loopV rangeV allK ifK got onB condK V stepsK planK opK firstK seeE keepsK

def Dup.same (d e : Dup) : Bool := d.client == e.client && (d.inst == e.inst && (d.tid == e.tid && (d.err == e.err && (d.num == e.num && (d.rinst == e.rinst && d.data.toList == e.data.toList)))))
theorem guard_39 : Try.prog.eqGuardType Try.prog.depth 39 = false := by kernel_rfl
theorem eqA_39 (d e : Dup) : eqA Try.prog 20 39 (.agg d.cells) (.agg e.cells) = some (d.same e) := by kernel_rfl
theorem eq_39 (d e : Dup)   : cmpA Try.prog 39 .eql (.agg d.cells) (.agg e.cells) = some (.val (.bool (d.same e))) := by
  simp only [cmpA, ti_39, binA, nilBin, isNilA, guard_39, eqA_39]
  rfl
theorem ne_39 (d e : Dup)  : cmpA Try.prog 39 .neq (.agg d.cells) (.agg e.cells) = some (.val (.bool !(d.same e))) := by
  simp only [cmpA, ti_39, binA, nilBin, isNilA, guard_39, eqA_39]
  rfl
theorem F29 (a b c : Int) : F Try.prog 29 [.val (.int .i64 c), .val (.int .i64 a), .val (.int .i64 b)] (.val (.bool (stampB c a b))) := by
  refine F29_of ?_
  unfold k29 stampB okB
  repeat' first
    | simp -dsimp (disch := omega) only [↓rulesA, rulesB, rulesC, Int.reduceLT, nth, upd, put, storeN, AV.one, Nat.reduceBEq, Nat.reduceBNe, Int.reduceBEq, Int.reduceBNe, Int.reduceLE, boolBin, strBin, intBin, unA, buildA, placesA, fillA, ne_eq, reduceCtorEq, Nat.reduceAdd, Nat.reduceSub, Nat.reduceLeDiff, Nat.reduceLT, Nat.reduceEqDiff, Int.reduceToNat, eq_self, rulesT, *]
    | (refine allK_intro fun n hn => ?_; try simp only [fresh_set] at hn)
    | (refine ifK_intro (fun h => ?_) (fun h => ?_) <;> (try simp only [decide_eq_true_eq, decide_eq_false_iff_not, Bool.not_eq_true', Bool.not_eq_false'] at h) <;> try (exfalso; (try simp only [beq_iff_eq, beq_eq_false_iff_ne, bne_iff_ne, bne_eq_false_iff_eq, ne_eq] at h); omega))
    | (refine keeps_sub (Mem.sub_set (by simp [Mem.set_at, nomem, *])) ?_)
  all_goals exact .val
def laterB (i t i' t' : Int) : Bool := decide (i' < i) || (i == i' && decide (t' < t))
theorem F33 (a b c d : Int) : F Try.prog 33 [.val (.int .i64 a), .val (.int .i64 b), .val (.int .i64 c), .val (.int .i64 d)] (.val (.bool (laterB a b c d))) := by
  refine F33_of ?_
  unfold k33 laterB
  repeat' first
    | simp -dsimp (disch := omega) only [↓rulesA, rulesB, rulesC, Int.reduceLT, nth, upd, put, storeN, AV.one, Nat.reduceBEq, Nat.reduceBNe, Int.reduceBEq, Int.reduceBNe, Int.reduceLE, boolBin, strBin, intBin, unA, buildA, placesA, fillA, ne_eq, reduceCtorEq, Nat.reduceAdd, Nat.reduceSub, Nat.reduceLeDiff, Nat.reduceLT, Nat.reduceEqDiff, Int.reduceToNat, eq_self, rulesT, *]
    | (refine allK_intro fun n hn => ?_; try simp only [fresh_set] at hn)
    | (refine ifK_intro (fun h => ?_) (fun h => ?_) <;> (try simp only [decide_eq_true_eq, decide_eq_false_iff_not, Bool.not_eq_true', Bool.not_eq_false'] at h) <;> try (exfalso; (try simp only [beq_iff_eq, beq_eq_false_iff_ne, bne_iff_ne, bne_eq_false_iff_eq, ne_eq] at h); omega))
    | (refine keeps_sub (Mem.sub_set (by simp [Mem.set_at, nomem, *])) ?_)
  all_goals exact .val
theorem F31 (a b c d : Int) : F Try.prog 31 [.agg [.val (.int .i64 a), .val (.int .i64 b)], .agg [.val (.int .i64 c), .val (.int .i64 d)]] (.val (.bool (laterB a b c d))) := by
  refine F31_of ?_
  unfold k31 laterB
  repeat' first
    | simp -dsimp (disch := omega) only [↓rulesA, rulesB, rulesC, Int.reduceLT, nth, upd, put, storeN, AV.one, Nat.reduceBEq, Nat.reduceBNe, Int.reduceBEq, Int.reduceBNe, Int.reduceLE, boolBin, strBin, intBin, unA, buildA, placesA, fillA, ne_eq, reduceCtorEq, Nat.reduceAdd, Nat.reduceSub, Nat.reduceLeDiff, Nat.reduceLT, Nat.reduceEqDiff, Int.reduceToNat, eq_self, rulesT, *]
    | (refine allK_intro fun n hn => ?_; try simp only [fresh_set] at hn)
    | (refine ifK_intro (fun h => ?_) (fun h => ?_) <;> (try simp only [decide_eq_true_eq, decide_eq_false_iff_not, Bool.not_eq_true', Bool.not_eq_false'] at h) <;> try (exfalso; (try simp only [beq_iff_eq, beq_eq_false_iff_ne, bne_iff_ne, bne_eq_false_iff_eq, ne_eq] at h); omega))
    | (refine keeps_sub (Mem.sub_set (by simp [Mem.set_at, nomem, *])) ?_)
  all_goals exact .val

def okAt (l : List Dup) (k : Nat) : Bool := stampB (l.getD k default).client (l.getD k default).inst (l.getD k default).tid && !(decide (0 < k) && decide ((l.getD k default).client ≤ (l.getD (k - 1) default).client))
def fitB (l : List Dup) : Bool := (List.range l.length).all (okAt l) && decide (l.length ≤ 16)
theorem fitB_no {l : List Dup} {i : Nat} (h : i < l.length) (hb : okAt l i = false) : fitB l = false := by
  unfold fitB
  rw [Bool.and_eq_false_iff]
  refine .inl ?_
  rw [List.all_eq_false]
  exact ⟨i, by simpa using h, by simp [hb]⟩
theorem fitB_yes {l : List Dup} (h : ∀ k, k < l.length → okAt l k = true) : fitB l = decide (l.length ≤ 16) := by
  unfold fitB
  have : (List.range l.length).all (okAt l) = true := List.all_eq_true.2 fun k hk => h k (by simpa using hk)
  rw [this, Bool.true_and]

theorem F18 (l : List Dup) (x : Bool) (hl : l.length ≤ 140737488355328) : F Try.prog 18 [.vs (l.map Dup.cells) x] (.val (.bool (fitB l))) := by
  refine F18_of ?_
  unfold k18
  repeat' first
    | simp -dsimp (disch := omega) only [↓rulesA, rulesB, rulesC, Int.reduceLT, nth, upd, put, storeN, AV.one, Nat.reduceBEq, Nat.reduceBNe, Int.reduceBEq, Int.reduceBNe, Int.reduceLE, boolBin, strBin, intBin, unA, buildA, placesA, fillA, ne_eq, reduceCtorEq, Nat.reduceAdd, Nat.reduceSub, Nat.reduceLeDiff, Nat.reduceLT, Nat.reduceEqDiff, Int.reduceToNat, eq_self, rulesT, len_22, *]
    | (refine allK_intro fun n hn => ?_; try simp only [fresh_set] at hn)
    | (refine ifK_intro (fun h => ?_) (fun h => ?_) <;> (try simp only [decide_eq_true_eq, decide_eq_false_iff_not, Bool.not_eq_true', Bool.not_eq_false'] at h) <;> try (exfalso; (try simp only [beq_iff_eq, beq_eq_false_iff_ne, bne_iff_ne, bne_eq_false_iff_eq, ne_eq] at h); omega))
    | (refine keeps_sub (Mem.sub_set (by simp [Mem.set_at, nomem, *])) ?_)
  refine loop_intro (fun j env m => ∃ i : Nat, i ≤ l.length ∧ j = l.length - i ∧ m = nomem ∧ env.length = 35 ∧ nth env 0 = .vs (l.map Dup.cells) x ∧ nth env 5 = .vs (l.map Dup.cells) x ∧ nth env 6 = .val (.int .i64 l.length) ∧ nth env 7 = .val (.int .i64 i) ∧ ∀ k, k < i → okAt l k = true) l.length nomem (fun _ _ h => h) ⟨0, by omega, by omega, rfl, rfl, rfl, rfl, rfl, rfl, fun k h => by omega⟩ ?_
  rintro j env m ⟨i, hi, rfl, rfl, hlen, e0, e5, e6, e7, hok⟩
  repeat' first
    | simp -dsimp (disch := omega) only [↓rulesA, rulesB, rulesC, Int.reduceLT, nth, upd, put, storeN, AV.one, Nat.reduceBEq, Nat.reduceBNe, Int.reduceBEq, Int.reduceBNe, Int.reduceLE, boolBin, strBin, intBin, unA, buildA, placesA, fillA, ne_eq, reduceCtorEq, Nat.reduceAdd, Nat.reduceSub, Nat.reduceLeDiff, Nat.reduceLT, Nat.reduceEqDiff, Int.reduceToNat, eq_self, rulesT, len_22, ix_22, Dup.g0, Dup.g1, Dup.g2, Dup.g3, Dup.g4, Dup.g5, Dup.g6, Dup.len, Dup.take, Dup.all, *]
    | (refine allK_intro fun n hn => ?_; try simp only [fresh_set] at hn)
    | (refine ifK_intro (fun h => ?_) (fun h => ?_) <;> (try simp only [decide_eq_true_eq, decide_eq_false_iff_not, Bool.not_eq_true', Bool.not_eq_false'] at h) <;> try (exfalso; (try simp only [beq_iff_eq, beq_eq_false_iff_ne, bne_iff_ne, bne_eq_false_iff_eq, ne_eq] at h); omega))
    | (refine keeps_sub (Mem.sub_set (by simp [Mem.set_at, nomem, *])) ?_)
    | (refine call_F (F32 _) (Seens.refl _ _) ?_)
    | (refine pure_F (F32 _) (Seens.refl _ _) ?_)
    | (refine call_F (F38 _ _ _) (Seens.refl _ _) ?_)
    | (refine pure_F (F38 _ _ _) (Seens.refl _ _) ?_)
  · rw [fitB_no (i := i) (by omega) (by simp only [okAt, show ((i : Int) - 1).toNat = i - 1 by omega] at *; simp only [*, show 0 < i by omega]; rfl)]
    exact .val
  · refine again_intro (l.length - (i + 1)) (by omega) nomem (nomem_sub _) ⟨i + 1, by omega, rfl, rfl, ?_, ?_, ?_, ?_, ?_, fun k hk => ?_⟩
    all_goals try (simp (disch := omega) only [nth_upd, pickB_true, pickB_false, inB_lt, upd_len, cast_succ, Nat.reduceBEq, beq_self_eq_true, reduceCtorEq, *]; done)
    rcases Nat.lt_or_ge k i with h' | h'
    · exact hok k h'
    · have : k = i := by omega
      subst this
      simp only [okAt, show ((k : Int) - 1).toNat = k - 1 by omega] at *
      simp only [*]; simp
  · refine again_intro (l.length - (i + 1)) (by omega) nomem (nomem_sub _) ⟨i + 1, by omega, rfl, rfl, ?_, ?_, ?_, ?_, ?_, fun k hk => ?_⟩
    all_goals try (simp (disch := omega) only [nth_upd, pickB_true, pickB_false, inB_lt, upd_len, cast_succ, Nat.reduceBEq, beq_self_eq_true, reduceCtorEq, *]; done)
    rcases Nat.lt_or_ge k i with h' | h'
    · exact hok k h'
    · have : k = i := by omega
      subst this
      have hk0 : ¬ 0 < k := by omega
      simp only [okAt, hk0, decide_false, Bool.false_and, Bool.not_false, Bool.and_true]; assumption
  · rw [fitB_no (i := i) (by omega) (by simp only [okAt, *]; rfl)]
    exact .val
  · rw [fitB_yes (fun k hk => hok k (by omega))]
    have : decide ((l.length : Int) ≤ 16) = decide (l.length ≤ 16) := by congr 1; simp only [eq_iff_iff]; omega
    rw [this]
    exact .val
end Go.Proofs.Ytoankcclbnnfiaa

