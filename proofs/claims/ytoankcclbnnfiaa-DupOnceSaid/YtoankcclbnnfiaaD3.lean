/- Package 20: loops over dups. -/
import Derived.Test.YtoankcclbnnfiaaD2
set_option maxRecDepth 100000
set_option maxHeartbeats 1000000
set_option linter.unusedSimpArgs false
set_option linter.unusedVariables false
namespace Go.Proofs.Ytoankcclbnnfiaa
open Go.Abs
attribute [local irreducible] C X CC Y CV CW binK litK AppK PureC PureCV againK loopV rangeV allK ifK got onB condK V stepsK planK opK firstK seeE keepsK

theorem F9 (l : List Dup) (x : Bool) (hl : l.length ≤ 140737488355328) : F Try.prog 9 [.vs (l.map Dup.cells) x] (.val (.bool (fitB l))) := by
  refine F9_of ?_
  unfold k9
  repeat' first
    | simp -dsimp (disch := omega) only [↓rulesA, rulesB, rulesC, Int.reduceLT, nth, upd, put, storeN, AV.one, Nat.reduceBEq, Nat.reduceBNe, Int.reduceBEq, Int.reduceBNe, Int.reduceLE, boolBin, strBin, intBin, unA, buildA, placesA, fillA, ne_eq, reduceCtorEq, Nat.reduceAdd, Nat.reduceSub, Nat.reduceLeDiff, Nat.reduceLT, Nat.reduceEqDiff, Int.reduceToNat, eq_self, rulesT, len_22, *]
    | (refine allK_intro fun n hn => ?_; try simp only [fresh_set] at hn)
    | (refine ifK_intro (fun h => ?_) (fun h => ?_) <;> (try simp only [decide_eq_true_eq, decide_eq_false_iff_not, Bool.not_eq_true', Bool.not_eq_false'] at h) <;> try (exfalso; (try simp only [beq_iff_eq, beq_eq_false_iff_ne, bne_iff_ne, bne_eq_false_iff_eq, ne_eq] at h); omega))
    | (refine keeps_sub (Mem.sub_set (by simp [Mem.set_at, nomem, *])) ?_)
  · have : fitB l = false := by
      unfold fitB
      rw [Bool.and_eq_false_iff]
      exact .inr (decide_eq_false (by omega))
    rw [this]
    exact .val
  refine loop_intro (fun j env m => ∃ i : Nat, i ≤ l.length ∧ j = l.length - i ∧ m = nomem ∧ env.length = 41 ∧ nth env 0 = .vs (l.map Dup.cells) x ∧ nth env 3 = .val (.int .i64 i) ∧ ∀ k, k < i → okAt l k = true) l.length nomem (fun _ _ h => h) ⟨0, by omega, by omega, rfl, rfl, rfl, rfl, fun k h => by omega⟩ ?_
  rintro j env m ⟨i, hi, rfl, rfl, hlen, e0, e3, hok⟩
  repeat' first
    | simp -dsimp (disch := omega) only [↓rulesA, rulesB, rulesC, Int.reduceLT, nth, upd, put, storeN, AV.one, Nat.reduceBEq, Nat.reduceBNe, Int.reduceBEq, Int.reduceBNe, Int.reduceLE, boolBin, strBin, intBin, unA, buildA, placesA, fillA, ne_eq, reduceCtorEq, Nat.reduceAdd, Nat.reduceSub, Nat.reduceLeDiff, Nat.reduceLT, Nat.reduceEqDiff, Int.reduceToNat, eq_self, rulesT, len_22, ix_22, Dup.g0, Dup.g1, Dup.g2, Dup.g3, Dup.g4, Dup.g5, Dup.g6, Dup.len, Dup.take, Dup.all, *]
    | (refine allK_intro fun n hn => ?_; try simp only [fresh_set] at hn)
    | (refine ifK_intro (fun h => ?_) (fun h => ?_) <;> (try simp only [decide_eq_true_eq, decide_eq_false_iff_not, Bool.not_eq_true', Bool.not_eq_false'] at h) <;> try (exfalso; (try simp only [beq_iff_eq, beq_eq_false_iff_ne, bne_iff_ne, bne_eq_false_iff_eq, ne_eq] at h); omega))
    | (refine keeps_sub (Mem.sub_set (by simp [Mem.set_at, nomem, *])) ?_)
    | (refine call_F (F29 _ _ _) (Seens.refl _ _) ?_)
    | (refine pure_F (F29 _ _ _) (Seens.refl _ _) ?_)
  · rw [fitB_no (i := i) (by omega) (by simp only [okAt, show ((i : Int) - 1).toNat = i - 1 by omega] at *; simp only [*, show 0 < i by omega]; rfl)]
    exact .val
  · refine again_intro (l.length - (i + 1)) (by omega) nomem (nomem_sub _) ⟨i + 1, by omega, rfl, rfl, ?_, ?_, ?_, fun k hk => ?_⟩
    all_goals try (simp (disch := omega) only [nth_upd, pickB_true, pickB_false, inB_lt, upd_len, cast_succ, Nat.reduceBEq, beq_self_eq_true, reduceCtorEq, *]; done)
    rcases Nat.lt_or_ge k i with h' | h'
    · exact hok k h'
    · have : k = i := by omega
      subst this
      simp only [okAt, show ((k : Int) - 1).toNat = k - 1 by omega] at *
      simp only [*]; simp
  · refine again_intro (l.length - (i + 1)) (by omega) nomem (nomem_sub _) ⟨i + 1, by omega, rfl, rfl, ?_, ?_, ?_, fun k hk => ?_⟩
    all_goals try (simp (disch := omega) only [nth_upd, pickB_true, pickB_false, inB_lt, upd_len, cast_succ, Nat.reduceBEq, beq_self_eq_true, reduceCtorEq, *]; done)
    rcases Nat.lt_or_ge k i with h' | h'
    · exact hok k h'
    · have : k = i := by omega
      subst this
      have hk0 : ¬ 0 < k := by omega
      simp only [okAt, hk0, decide_false, Bool.false_and, Bool.not_false, Bool.and_true]; assumption
  · rw [fitB_no (i := i) (by omega) (by simp only [okAt, *]; rfl)]
    exact .val
  · rw [fitB_yes (fun k hk => hok k (by omega))]
    have : decide (l.length ≤ 16) = true := decide_eq_true (by omega)
    rw [this]
    exact .val

/-- Held against each other, one by one. -/
def samesB (l m : List Dup) : Bool := decide (l.length = m.length) && (List.range l.length).all fun k => (l.getD k default).same (m.getD k default)
theorem samesB_no {l m : List Dup} {i : Nat} (h : i < l.length) (hb : (l.getD i default).same (m.getD i default) = false) : samesB l m = false := by
  unfold samesB
  rw [Bool.and_eq_false_iff]
  refine .inr ?_
  rw [List.all_eq_false]
  exact ⟨i, by simpa using h, by simp only [hb]; simp⟩
theorem samesB_yes {l m : List Dup} (hl : l.length = m.length) (h : ∀ k, k < l.length → (l.getD k default).same (m.getD k default) = true) : samesB l m = true := by
  unfold samesB
  rw [decide_eq_true hl, Bool.true_and]
  exact List.all_eq_true.2 fun k hk => h k (by simpa using hk)
theorem samesB_self (l : List Dup) : samesB l l = true := samesB_yes rfl fun k _ => by unfold Dup.same; simp
theorem cast_beq (a b : Nat) : ((a : Int) == (b : Int)) = decide (a = b) := by
  rw [Bool.eq_iff_iff]; simp only [beq_iff_eq, decide_eq_true_eq]; omega
theorem cast_bne (a b : Nat) : ((a : Int) != (b : Int)) = !decide (a = b) := by
  unfold bne; rw [cast_beq]

theorem F16 (l l' : List Dup) (x x' : Bool) (hl : l.length ≤ 140737488355328) : F Try.prog 16 [.vs (l.map Dup.cells) x, .vs (l'.map Dup.cells) x'] (.val (.bool (samesB l l'))) := by
  refine F16_of ?_
  unfold k16
  repeat' first
    | simp -dsimp (disch := omega) only [↓rulesA, rulesB, rulesC, Int.reduceLT, nth, upd, put, storeN, AV.one, Nat.reduceBEq, Nat.reduceBNe, Int.reduceBEq, Int.reduceBNe, Int.reduceLE, boolBin, strBin, intBin, unA, buildA, placesA, fillA, ne_eq, reduceCtorEq, Nat.reduceAdd, Nat.reduceSub, Nat.reduceLeDiff, Nat.reduceLT, Nat.reduceEqDiff, Int.reduceToNat, eq_self, rulesT, len_22, cast_bne, *]
    | (refine allK_intro fun n hn => ?_; try simp only [fresh_set] at hn)
    | (refine ifK_intro (fun h => ?_) (fun h => ?_) <;> (try simp only [decide_eq_true_eq, decide_eq_false_iff_not, Bool.not_eq_true', Bool.not_eq_false'] at h) <;> try (exfalso; (try simp only [beq_iff_eq, beq_eq_false_iff_ne, bne_iff_ne, bne_eq_false_iff_eq, ne_eq] at h); omega))
    | (refine keeps_sub (Mem.sub_set (by simp [Mem.set_at, nomem, *])) ?_)
  · have : samesB l l' = false := by unfold samesB; rw [decide_eq_false h]; rfl
    rw [this]
    exact .val
  refine loop_intro (fun j env m => ∃ i : Nat, i ≤ l.length ∧ j = l.length - i ∧ m = nomem ∧ env.length = 26 ∧ nth env 0 = .vs (l.map Dup.cells) x ∧ nth env 1 = .vs (l'.map Dup.cells) x' ∧ nth env 5 = .val (.int .i64 i) ∧ ∀ k, k < i → (l.getD k default).same (l'.getD k default) = true) l.length nomem (fun _ _ h => h) ⟨0, by omega, by omega, rfl, rfl, rfl, rfl, rfl, fun k h => by omega⟩ ?_
  rintro j env m ⟨i, hi, rfl, rfl, hlen, e0, e1, e5, hok⟩
  repeat' first
    | simp -dsimp (disch := omega) only [↓rulesA, rulesB, rulesC, Int.reduceLT, nth, upd, put, storeN, AV.one, Nat.reduceBEq, Nat.reduceBNe, Int.reduceBEq, Int.reduceBNe, Int.reduceLE, boolBin, strBin, intBin, unA, buildA, placesA, fillA, ne_eq, reduceCtorEq, Nat.reduceAdd, Nat.reduceSub, Nat.reduceLeDiff, Nat.reduceLT, Nat.reduceEqDiff, Int.reduceToNat, eq_self, rulesT, len_22, ix_22, ne_39, Dup.len, Dup.take, Dup.all, *]
    | (refine allK_intro fun n hn => ?_; try simp only [fresh_set] at hn)
    | (refine ifK_intro (fun h => ?_) (fun h => ?_) <;> (try simp only [decide_eq_true_eq, decide_eq_false_iff_not, Bool.not_eq_true', Bool.not_eq_false'] at h) <;> try (exfalso; (try simp only [beq_iff_eq, beq_eq_false_iff_ne, bne_iff_ne, bne_eq_false_iff_eq, ne_eq] at h); omega))
    | (refine keeps_sub (Mem.sub_set (by simp [Mem.set_at, nomem, *])) ?_)
  · rw [samesB_no (i := i) (by omega) h]
    exact .val
  · refine again_intro (l.length - (i + 1)) (by omega) nomem (nomem_sub _) ⟨i + 1, by omega, rfl, rfl, ?_, ?_, ?_, ?_, fun k hk => ?_⟩
    all_goals try (simp (disch := omega) only [nth_upd, pickB_true, pickB_false, inB_lt, upd_len, cast_succ, Nat.reduceBEq, beq_self_eq_true, reduceCtorEq, *]; done)
    rcases Nat.lt_or_ge k i with h' | h'
    · exact hok k h'
    · have : k = i := by omega
      subst this
      exact h
  · rw [samesB_yes (by omega) (fun k hk => hok k (by omega))]
    exact .val
theorem F39 (l l' : List Dup) (x x' : Bool) (hl : l.length ≤ 140737488355328) : F Try.prog 39 [.vs (l.map Dup.cells) x, .vs (l'.map Dup.cells) x'] (.val (.bool (samesB l l'))) := by
  refine F39_of ?_
  unfold k39
  repeat' first
    | simp -dsimp (disch := omega) only [↓rulesA, rulesB, rulesC, Int.reduceLT, nth, upd, put, storeN, AV.one, Nat.reduceBEq, Nat.reduceBNe, Int.reduceBEq, Int.reduceBNe, Int.reduceLE, boolBin, strBin, intBin, unA, buildA, placesA, fillA, ne_eq, reduceCtorEq, Nat.reduceAdd, Nat.reduceSub, Nat.reduceLeDiff, Nat.reduceLT, Nat.reduceEqDiff, Int.reduceToNat, eq_self, rulesT, len_22, cast_bne, *]
    | (refine allK_intro fun n hn => ?_; try simp only [fresh_set] at hn)
    | (refine ifK_intro (fun h => ?_) (fun h => ?_) <;> (try simp only [decide_eq_true_eq, decide_eq_false_iff_not, Bool.not_eq_true', Bool.not_eq_false'] at h) <;> try (exfalso; (try simp only [beq_iff_eq, beq_eq_false_iff_ne, bne_iff_ne, bne_eq_false_iff_eq, ne_eq] at h); omega))
    | (refine keeps_sub (Mem.sub_set (by simp [Mem.set_at, nomem, *])) ?_)
  · have : samesB l l' = false := by unfold samesB; rw [decide_eq_false h]; rfl
    rw [this]
    exact .val
  refine loop_intro (fun j env m => ∃ i : Nat, i ≤ l.length ∧ j = l.length - i ∧ m = nomem ∧ env.length = 26 ∧ nth env 0 = .vs (l.map Dup.cells) x ∧ nth env 1 = .vs (l'.map Dup.cells) x' ∧ nth env 12 = .val (.int .i64 l.length) ∧ nth env 13 = .val (.int .i64 i) ∧ ∀ k, k < i → (l.getD k default).same (l'.getD k default) = true) l.length nomem (fun _ _ h => h) ⟨0, by omega, by omega, rfl, rfl, rfl, rfl, by rw [h]; rfl, rfl, fun k h => by omega⟩ ?_
  rintro j env m ⟨i, hi, rfl, rfl, hlen, e0, e1, e12, e13, hok⟩
  repeat' first
    | simp -dsimp (disch := omega) only [↓rulesA, rulesB, rulesC, Int.reduceLT, nth, upd, put, storeN, AV.one, Nat.reduceBEq, Nat.reduceBNe, Int.reduceBEq, Int.reduceBNe, Int.reduceLE, boolBin, strBin, intBin, unA, buildA, placesA, fillA, ne_eq, reduceCtorEq, Nat.reduceAdd, Nat.reduceSub, Nat.reduceLeDiff, Nat.reduceLT, Nat.reduceEqDiff, Int.reduceToNat, eq_self, rulesT, len_22, ix_22, ne_39, Dup.len, Dup.take, Dup.all, *]
    | (refine allK_intro fun n hn => ?_; try simp only [fresh_set] at hn)
    | (refine ifK_intro (fun h => ?_) (fun h => ?_) <;> (try simp only [decide_eq_true_eq, decide_eq_false_iff_not, Bool.not_eq_true', Bool.not_eq_false'] at h) <;> try (exfalso; (try simp only [beq_iff_eq, beq_eq_false_iff_ne, bne_iff_ne, bne_eq_false_iff_eq, ne_eq] at h); omega))
    | (refine keeps_sub (Mem.sub_set (by simp [Mem.set_at, nomem, *])) ?_)
  · rw [samesB_no (i := i) (by omega) h]
    exact .val
  · refine again_intro (l.length - (i + 1)) (by omega) nomem (nomem_sub _) ⟨i + 1, by omega, rfl, rfl, ?_, ?_, ?_, ?_, ?_, fun k hk => ?_⟩
    all_goals try (simp (disch := omega) only [nth_upd, pickB_true, pickB_false, inB_lt, upd_len, cast_succ, Nat.reduceBEq, beq_self_eq_true, reduceCtorEq, *]; done)
    rcases Nat.lt_or_ge k i with h' | h'
    · exact hok k h'
    · have : k = i := by omega
      subst this
      exact h
  · rw [samesB_yes (by omega) (fun k hk => hok k (by omega))]
    exact .val
theorem F20 (l l' : List Dup) (x x' : Bool) (hl : l.length ≤ 140737488355328) : F Try.prog 20 [.vs (l.map Dup.cells) x, .vs (l'.map Dup.cells) x'] (.val (.bool (samesB l l'))) := by
  refine F20_of ?_
  unfold k20
  repeat' first
    | simp -dsimp (disch := omega) only [↓rulesA, rulesB, rulesC, Int.reduceLT, nth, upd, put, storeN, AV.one, Nat.reduceBEq, Nat.reduceBNe, Int.reduceBEq, Int.reduceBNe, Int.reduceLE, boolBin, strBin, intBin, unA, buildA, placesA, fillA, ne_eq, reduceCtorEq, Nat.reduceAdd, Nat.reduceSub, Nat.reduceLeDiff, Nat.reduceLT, Nat.reduceEqDiff, Int.reduceToNat, eq_self, rulesT, *]
    | (refine allK_intro fun n hn => ?_; try simp only [fresh_set] at hn)
    | (refine ifK_intro (fun h => ?_) (fun h => ?_) <;> (try simp only [decide_eq_true_eq, decide_eq_false_iff_not, Bool.not_eq_true', Bool.not_eq_false'] at h) <;> try (exfalso; (try simp only [beq_iff_eq, beq_eq_false_iff_ne, bne_iff_ne, bne_eq_false_iff_eq, ne_eq] at h); omega))
    | (refine keeps_sub (Mem.sub_set (by simp [Mem.set_at, nomem, *])) ?_)
    | (refine call_F (F39 _ _ _ _ hl) (Seens.refl _ _) ?_)
    | (refine pure_F (F39 _ _ _ _ hl) (Seens.refl _ _) ?_)
  exact .val
theorem src_22 (m : Mem) (l : List Dup) (x : Bool) : srcA Try.prog m 22 7 (.vs (l.map Dup.cells) x) = some (l.length, (l.map Dup.cells).flatten) := src_vs Dup.cells ti_22 rfl (fun _ => ⟨rfl, rfl⟩) m l x
theorem F12 (l : List Dup) (x : Bool) (hl : l.length * 64 ≤ 140737488355328) : F Try.prog 12 [.vs (l.map Dup.cells) x] (.vs (l.map Dup.cells) false) := by
  refine F12_of ?_
  unfold k12
  repeat' first
    | simp -dsimp (disch := omega) only [↓rulesA, rulesB, rulesC, Int.reduceLT, nth, upd, put, storeN, AV.one, Nat.reduceBEq, Nat.reduceBNe, Int.reduceBEq, Int.reduceBNe, Int.reduceLE, boolBin, strBin, intBin, unA, buildA, placesA, fillA, ne_eq, reduceCtorEq, Nat.reduceAdd, Nat.reduceSub, Nat.reduceLeDiff, Nat.reduceLT, Nat.reduceEqDiff, Int.reduceToNat, eq_self, rulesT, *]
    | (refine allK_intro fun n hn => ?_; try simp only [fresh_set] at hn)
    | (refine ifK_intro (fun h => ?_) (fun h => ?_) <;> (try simp only [decide_eq_true_eq, decide_eq_false_iff_not, Bool.not_eq_true', Bool.not_eq_false'] at h) <;> try (exfalso; (try simp only [beq_iff_eq, beq_eq_false_iff_ne, bne_iff_ne, bne_eq_false_iff_eq, ne_eq] at h); omega))
    | (refine keeps_sub (Mem.sub_set (by simp [Mem.set_at, nomem, *])) ?_)
  refine append_nil ⟨⟨_, ti_22, rfl⟩, ⟨_, ti_22, .inl ⟨_, rfl⟩⟩, ti_39, z_39, rfl, by decide, by decide⟩ (src_22 _ _ _) hl fun n hn => ?_
  repeat' first
    | simp -dsimp (disch := omega) only [↓rulesA, rulesB, rulesC, Int.reduceLT, nth, upd, put, storeN, AV.one, Nat.reduceBEq, Nat.reduceBNe, Int.reduceBEq, Int.reduceBNe, Int.reduceLE, boolBin, strBin, intBin, unA, buildA, placesA, fillA, ne_eq, reduceCtorEq, Nat.reduceAdd, Nat.reduceSub, Nat.reduceLeDiff, Nat.reduceLT, Nat.reduceEqDiff, Int.reduceToNat, eq_self, rulesT, *]
    | (refine allK_intro fun n hn => ?_; try simp only [fresh_set] at hn)
    | (refine ifK_intro (fun h => ?_) (fun h => ?_) <;> (try simp only [decide_eq_true_eq, decide_eq_false_iff_not, Bool.not_eq_true', Bool.not_eq_false'] at h) <;> try (exfalso; (try simp only [beq_iff_eq, beq_eq_false_iff_ne, bne_iff_ne, bne_eq_false_iff_eq, ne_eq] at h); omega))
    | (refine keeps_sub (Mem.sub_set (by simp [Mem.set_at, nomem, *])) ?_)
  exact New.row Dup.cells (s := 7) (fun _ => rfl) (fun _ => rfl) l (Mem.set_same _ _ _)
end Go.Proofs.Ytoankcclbnnfiaa

