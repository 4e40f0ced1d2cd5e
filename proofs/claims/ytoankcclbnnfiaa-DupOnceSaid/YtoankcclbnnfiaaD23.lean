/- Package 20: the reference's Merge; the law DupOfs. -/
import Derived.Test.YtoankcclbnnfiaaD22
set_option maxRecDepth 100000
set_option maxHeartbeats 1000000
set_option linter.unusedSimpArgs false
set_option linter.unusedVariables false
namespace Go.Proofs.Ytoankcclbnnfiaa
open Go.Abs
attribute [local irreducible] C X CC Y CV CW binK litK AppK PureC PureCV againK loopV rangeV allK ifK got onB condK V stepsK planK opK firstK seeE keepsK

theorem up_spec {l : List Dup} (hp : Up l) (c : Int) : pl l c ≤ l.length ∧ (∀ i, i < pl l c → (l.getD i default).client < c) ∧ (∀ i, pl l c ≤ i → i < l.length → c ≤ (l.getD i default).client) := by
  replace hp : l.Pairwise (fun a b => a.client < b.client) := hp
  unfold pl
  refine ⟨takeWhile_len_le _ l, ?_, ?_⟩
  · induction l with
    | nil => intro i hi; simp at hi
    | cons a l ih =>
      rw [List.pairwise_cons] at hp
      intro i hi
      rw [List.takeWhile_cons] at hi
      split at hi
      · rename_i ha
        cases i with
        | zero => simpa using ha
        | succ i => simpa using ih hp.2 i (by simpa using hi)
      · simp at hi
  · induction l with
    | nil => intro i _ hi; simp at hi
    | cons a l ih =>
      rw [List.pairwise_cons] at hp
      intro i hi hl
      rw [List.takeWhile_cons] at hi
      split at hi
      · cases i with
        | zero => simp at hi
        | succ i => simpa using ih hp.2 i (by simpa using hi) (by simpa using hl)
      · rename_i ha
        have ha' : c ≤ a.client := by simpa using ha
        cases i with
        | zero => simpa using ha'
        | succ i =>
          have hl' : i < l.length := by simpa using hl
          have := hp.1 (l.getD i default) (by rw [getD_get hl']; exact List.getElem_mem _)
          simp only [List.getD_cons_succ]
          omega
theorem N37 {l : List Dup} (h : Up l) (hl : (l.length + 1) * 64 ≤ 140737488355328) (x : Bool) (d : Dup) : O Try.prog 37 [.vs (l.map Dup.cells) x, .agg d.cells] 39 (putd l d).length ((putd l d).map Dup.cells).flatten :=
  let ⟨a, b, c⟩ := up_spec h d.client; O37 l x d hl _ a b c
def refTo (a b : List Dup) : Nat → List Dup
  | 0 => a
  | i + 1 => if condB a (b.getD i default) then putd (refTo a b i) (b.getD i default) else refTo a b i
theorem ref_up {a : List Dup} (h : Up a) (b : List Dup) : ∀ i, Up (refTo a b i)
  | 0 => h
  | i + 1 => by unfold refTo; split; exact put_up _ (ref_up h b i); exact ref_up h b i
theorem ref_len (a b : List Dup) : ∀ i, (refTo a b i).length ≤ a.length + i
  | 0 => by simp [refTo]
  | i + 1 => by
    have := ref_len a b i
    have := put_len (b.getD i default) (refTo a b i)
    unfold refTo; split <;> omega
theorem ref_yes {a b : List Dup} {i : Nat} (h : condB a (b.getD i default) = true) : refTo a b (i + 1) = putd (refTo a b i) (b.getD i default) := if_pos h
theorem ref_no {a b : List Dup} {i : Nat} (h : condB a (b.getD i default) = false) : refTo a b (i + 1) = refTo a b i := if_neg (by rw [h]; simp)
theorem fold_ref (a : List Dup) (b : List Dup) : ∀ i, i ≤ b.length → foldC (condB a) (refTo a b (b.length - i)) (b.drop (b.length - i)) = refTo a b b.length
  | 0, _ => by simp [foldC]
  | i + 1, h => by
    have hi : b.length - (i + 1) < b.length := by omega
    rw [List.drop_eq_getElem_cons hi]
    unfold foldC
    have e : b.length - (i + 1) + 1 = b.length - i := by omega
    have := fold_ref a b i (by omega)
    rw [← e] at this
    rw [← this, refTo, getD_get hi]
theorem min16 (k : IntKind) (n : Nat) : mmA false [.val (.int k n), .val (.int k 16)] = some (.val (.int k ((min n 16 : Nat) : Int))) := by
  show some (AV.val (.int k (if (16 : Int) < n then 16 else n))) = _
  congr 3
  split <;> omega
theorem F28 {a b : List Dup} (ha : Fit a) (hb : Fit b) (xa xb : Bool) : F Try.prog 28 [.vs (a.map Dup.cells) xa, .vs (b.map Dup.cells) xb] (.vs (((refTo a b b.length).take 16).map Dup.cells) false) := by
  have la := ha.1
  have lb := hb.1
  refine F28_of ?_
  unfold k28
  repeat' first
    | simp -dsimp (disch := omega) only [↓rulesA, rulesB, rulesC, Int.reduceLT, nth, upd, put, storeN, AV.one, Nat.reduceBEq, Nat.reduceBNe, Int.reduceBEq, Int.reduceBNe, Int.reduceLE, boolBin, strBin, intBin, unA, buildA, placesA, fillA, ne_eq, reduceCtorEq, Nat.reduceAdd, Nat.reduceSub, Nat.reduceLeDiff, Nat.reduceLT, Nat.reduceEqDiff, Int.reduceToNat, eq_self, rulesT, *]
    | (refine allK_intro fun n hn => ?_; try simp only [fresh_set] at hn)
    | (refine ifK_intro (fun h => ?_) (fun h => ?_) <;> (try simp only [decide_eq_true_eq, decide_eq_false_iff_not, Bool.not_eq_true', Bool.not_eq_false'] at h) <;> try (exfalso; (try simp only [beq_iff_eq, beq_eq_false_iff_ne, bne_iff_ne, bne_eq_false_iff_eq, ne_eq] at h); omega))
    | (refine keeps_sub (Mem.sub_set (by simp [Mem.set_at, nomem, *])) ?_)
  refine append_nil app_22 (src_22 _ a xa) (show a.length * 64 ≤ 140737488355328 by omega) fun n1 hn1 => ?_
  repeat' first
    | simp -dsimp (disch := omega) only [↓rulesA, rulesB, rulesC, Int.reduceLT, nth, upd, put, storeN, AV.one, Nat.reduceBEq, Nat.reduceBNe, Int.reduceBEq, Int.reduceBNe, Int.reduceLE, boolBin, strBin, intBin, unA, buildA, placesA, fillA, ne_eq, reduceCtorEq, Nat.reduceAdd, Nat.reduceSub, Nat.reduceLeDiff, Nat.reduceLT, Nat.reduceEqDiff, Int.reduceToNat, eq_self, rulesT, *]
    | (refine allK_intro fun n hn => ?_; try simp only [fresh_set] at hn)
    | (refine ifK_intro (fun h => ?_) (fun h => ?_) <;> (try simp only [decide_eq_true_eq, decide_eq_false_iff_not, Bool.not_eq_true', Bool.not_eq_false'] at h) <;> try (exfalso; (try simp only [beq_iff_eq, beq_eq_false_iff_ne, bne_iff_ne, bne_eq_false_iff_eq, ne_eq] at h); omega))
    | (refine keeps_sub (Mem.sub_set (by simp [Mem.set_at, nomem, *])) ?_)
  refine loop_intro (fun j env m => ∃ (i n1 : Nat), i ≤ b.length ∧ j = b.length - i ∧ m = nomem.set n1 (.cells true 39 ((refTo a b i).map Dup.cells).flatten) ∧ env.length = 58 ∧ nth env 0 = .vs (a.map Dup.cells) xa ∧ nth env 1 = .vs (b.map Dup.cells) xb ∧
    nth env 5 = .sl n1 0 (refTo a b i).length (refTo a b i).length ∧ nth env 6 = .val (.int .i64 i)) b.length _ (fun _ _ h => h) ⟨0, n1, by omega, by omega, rfl, rfl, rfl, rfl, rfl, rfl⟩ ?_
  clear hn1 n1
  rintro j env m ⟨i, n1, hi, rfl, rfl, hlen, e0, e1, e5, e6⟩
  have hu := ref_up ha.2.2 b i
  have hl := ref_len a b i
  repeat' first
    | simp -dsimp (disch := omega) only [↓rulesA, rulesB, rulesC, Int.reduceLT, nth, upd, put, storeN, AV.one, Nat.reduceBEq, Nat.reduceBNe, Int.reduceBEq, Int.reduceBNe, Int.reduceLE, boolBin, strBin, intBin, unA, buildA, placesA, fillA, ne_eq, reduceCtorEq, Nat.reduceAdd, Nat.reduceSub, Nat.reduceLeDiff, Nat.reduceLT, Nat.reduceEqDiff, Int.reduceToNat, eq_self, rulesT, len_22, ix_22, rhi_22, rlo_22, rlohi_22, Dup.g0, Dup.g1, Dup.g2, Dup.g3, Dup.g4, Dup.g5, Dup.g6, Dup.len, Dup.take, Dup.all, Dup.drop, Dup.rlen, Dup.rat, Dup.rat0, Dup.rpart, Dup.rin, Dup.rset, Dup.sall, Dup.slit, Dup.part3, Dup.join, *]
    | (refine allK_intro fun n hn => ?_; try simp only [fresh_set] at hn)
    | (refine ifK_intro (fun h => ?_) (fun h => ?_) <;> (try simp only [decide_eq_true_eq, decide_eq_false_iff_not, Bool.not_eq_true', Bool.not_eq_false'] at h) <;> try (exfalso; (try simp only [beq_iff_eq, beq_eq_false_iff_ne, bne_iff_ne, bne_eq_false_iff_eq, ne_eq] at h); omega))
    | (refine keeps_sub (Mem.sub_set (by simp [Mem.set_at, nomem, *])) ?_)
    | (refine call_F (J21 ha _ _) (Seens.refl _ _) ?_)
    | (refine pure_F (J21 ha _ _) (Seens.refl _ _) ?_)
    | (refine call_F (F33 _ _ _ _) (Seens.refl _ _) ?_)
    | (refine pure_F (F33 _ _ _ _) (Seens.refl _ _) ?_)
  · have e := ref_yes (a := a) (b := b) (i := i) (by unfold condB; simp only [*, Bool.not_true, Bool.not_false, Bool.true_or, Bool.false_or])
    refine call_O (N37 hu (by omega) false (b.getD i default)) (Seens.cons (Seen.row Dup.cells (s := 7) (opn := true) (t := 39) (fun _ => rfl) _ (by simp [Mem.set_at, *])) (Seens.refl _ _)) (dup_vals _) fun n4 hn4 => ?_
    simp only [fresh_set] at hn4
    repeat' first
      | simp -dsimp (disch := omega) only [↓rulesA, rulesB, rulesC, Int.reduceLT, nth, upd, put, storeN, AV.one, Nat.reduceBEq, Nat.reduceBNe, Int.reduceBEq, Int.reduceBNe, Int.reduceLE, boolBin, strBin, intBin, unA, buildA, placesA, fillA, ne_eq, reduceCtorEq, Nat.reduceAdd, Nat.reduceSub, Nat.reduceLeDiff, Nat.reduceLT, Nat.reduceEqDiff, Int.reduceToNat, eq_self, rulesT, *]
      | (refine allK_intro fun n hn => ?_; try simp only [fresh_set] at hn)
      | (refine ifK_intro (fun h => ?_) (fun h => ?_) <;> (try simp only [decide_eq_true_eq, decide_eq_false_iff_not, Bool.not_eq_true', Bool.not_eq_false'] at h) <;> try (exfalso; (try simp only [beq_iff_eq, beq_eq_false_iff_ne, bne_iff_ne, bne_eq_false_iff_eq, ne_eq] at h); omega))
      | (refine keeps_sub (Mem.sub_set (by simp [Mem.set_at, nomem, *])) ?_)
    refine again_intro (b.length - (i + 1)) (by omega) (nomem.set n4 (.cells true 39 ((refTo a b (i + 1)).map Dup.cells).flatten)) ?_ ⟨i + 1, n4, by omega, rfl, rfl, ?_, ?_, ?_, ?_, ?_⟩
    · refine nomem_set_sub ?_; simp [Mem.set_at, *]
    all_goals try (simp (disch := omega) only [nth_upd, pickB_true, pickB_false, inB_lt, upd_len, cast_succ, Nat.reduceBEq, beq_self_eq_true, reduceCtorEq, *]; done)
  · have e := ref_no (a := a) (b := b) (i := i) (by unfold condB; simp only [*, Bool.not_true, Bool.not_false, Bool.true_or, Bool.false_or])
    refine again_intro (b.length - (i + 1)) (by omega) (nomem.set n1 (.cells true 39 ((refTo a b (i + 1)).map Dup.cells).flatten)) ?_ ⟨i + 1, n1, by omega, rfl, rfl, ?_, ?_, ?_, ?_, ?_⟩
    · refine nomem_set_sub ?_; simp [Mem.set_at, *]
    all_goals try (simp (disch := omega) only [nth_upd, pickB_true, pickB_false, inB_lt, upd_len, cast_succ, Nat.reduceBEq, beq_self_eq_true, reduceCtorEq, *]; done)
  · have e := ref_yes (a := a) (b := b) (i := i) (by unfold condB; simp only [*, Bool.not_true, Bool.not_false, Bool.true_or, Bool.false_or])
    refine call_O (N37 hu (by omega) false (b.getD i default)) (Seens.cons (Seen.row Dup.cells (s := 7) (opn := true) (t := 39) (fun _ => rfl) _ (by simp [Mem.set_at, *])) (Seens.refl _ _)) (dup_vals _) fun n4 hn4 => ?_
    simp only [fresh_set] at hn4
    repeat' first
      | simp -dsimp (disch := omega) only [↓rulesA, rulesB, rulesC, Int.reduceLT, nth, upd, put, storeN, AV.one, Nat.reduceBEq, Nat.reduceBNe, Int.reduceBEq, Int.reduceBNe, Int.reduceLE, boolBin, strBin, intBin, unA, buildA, placesA, fillA, ne_eq, reduceCtorEq, Nat.reduceAdd, Nat.reduceSub, Nat.reduceLeDiff, Nat.reduceLT, Nat.reduceEqDiff, Int.reduceToNat, eq_self, rulesT, *]
      | (refine allK_intro fun n hn => ?_; try simp only [fresh_set] at hn)
      | (refine ifK_intro (fun h => ?_) (fun h => ?_) <;> (try simp only [decide_eq_true_eq, decide_eq_false_iff_not, Bool.not_eq_true', Bool.not_eq_false'] at h) <;> try (exfalso; (try simp only [beq_iff_eq, beq_eq_false_iff_ne, bne_iff_ne, bne_eq_false_iff_eq, ne_eq] at h); omega))
      | (refine keeps_sub (Mem.sub_set (by simp [Mem.set_at, nomem, *])) ?_)
    refine again_intro (b.length - (i + 1)) (by omega) (nomem.set n4 (.cells true 39 ((refTo a b (i + 1)).map Dup.cells).flatten)) ?_ ⟨i + 1, n4, by omega, rfl, rfl, ?_, ?_, ?_, ?_, ?_⟩
    · refine nomem_set_sub ?_; simp [Mem.set_at, *]
    all_goals try (simp (disch := omega) only [nth_upd, pickB_true, pickB_false, inB_lt, upd_len, cast_succ, Nat.reduceBEq, beq_self_eq_true, reduceCtorEq, *]; done)
  · have : i = b.length := by omega
    subst this
    repeat' first
      | simp -dsimp (disch := omega) only [↓rulesA, rulesB, rulesC, Int.reduceLT, nth, upd, put, storeN, AV.one, Nat.reduceBEq, Nat.reduceBNe, Int.reduceBEq, Int.reduceBNe, Int.reduceLE, boolBin, strBin, intBin, unA, buildA, placesA, fillA, ne_eq, reduceCtorEq, Nat.reduceAdd, Nat.reduceSub, Nat.reduceLeDiff, Nat.reduceLT, Nat.reduceEqDiff, Int.reduceToNat, eq_self, rulesT, min16, *]
      | (refine allK_intro fun n hn => ?_; try simp only [fresh_set] at hn)
      | (refine ifK_intro (fun h => ?_) (fun h => ?_) <;> (try simp only [decide_eq_true_eq, decide_eq_false_iff_not, Bool.not_eq_true', Bool.not_eq_false'] at h) <;> try (exfalso; (try simp only [beq_iff_eq, beq_eq_false_iff_ne, bne_iff_ne, bne_eq_false_iff_eq, ne_eq] at h); omega))
      | (refine keeps_sub (Mem.sub_set (by simp [Mem.set_at, nomem, *])) ?_)
    refine Eq.mp (congrArg (New _ _) (?_ : AV.vs (((refTo a b b.length).take (min (refTo a b b.length).length 16)).map Dup.cells) false = _)) (New.rowTake Dup.cells (s := 7) (opn := true) (t := 39) (fun _ => rfl) (fun _ => rfl) _ (Mem.set_same _ _ _) (by omega))
    rcases Nat.le_total (refTo a b b.length).length 16 with h16 | h16
    · rw [Nat.min_eq_left h16, List.take_length, List.take_of_length_le h16]
    · rw [Nat.min_eq_right h16]
theorem mrg_refTo {a b : List Dup} (ha : Fit a) (hb : Fit b) : refTo a b b.length = mrg a b := by
  rw [mrg_ref a b ha.2.2 hb.2.2, ← fold_ref a b b.length (Nat.le_refl _), Nat.sub_self]; rfl
theorem F7 (l m : List Dup) (x y : Bool) (es : List Entry) (z : Bool) (hl : l.length ≤ 140737488355328) (hm : m.length ≤ 140737488355328) (hes : es.length ≤ 140737488355320) : F Try.prog 7 [.vs (l.map Dup.cells) x, .vs (m.map Dup.cells) y, .vs (es.map Entry.cells) z] (.val (.bool true)) := by
  have h9 := F9 l x hl
  have h9' := F9 m y hm
  have h11 := F11
  cases hfit : fitB l with
  | false =>
    rw [hfit] at h9
    refine F7_of ?_
    unfold k7
    repeat' first
      | simp -dsimp (disch := omega) only [↓rulesA, rulesB, rulesC, Int.reduceLT, nth, upd, put, storeN, AV.one, Nat.reduceBEq, Nat.reduceBNe, Int.reduceBEq, Int.reduceBNe, Int.reduceLE, boolBin, strBin, intBin, unA, buildA, placesA, fillA, ne_eq, reduceCtorEq, Nat.reduceAdd, Nat.reduceSub, Nat.reduceLeDiff, Nat.reduceLT, Nat.reduceEqDiff, Int.reduceToNat, eq_self, rulesT, *]
      | (refine allK_intro fun n hn => ?_; try simp only [fresh_set] at hn)
      | (refine ifK_intro (fun h => ?_) (fun h => ?_) <;> (try simp only [decide_eq_true_eq, decide_eq_false_iff_not, Bool.not_eq_true', Bool.not_eq_false'] at h) <;> try (exfalso; (try simp only [beq_iff_eq, beq_eq_false_iff_ne, bne_iff_ne, bne_eq_false_iff_eq, ne_eq] at h); omega))
      | (refine keeps_sub (Mem.sub_set (by simp [Mem.set_at, nomem, *])) ?_)
      | (refine call_F (h9) (Seens.refl _ _) ?_)
      | (refine pure_F (h9) (Seens.refl _ _) ?_)
      | (refine call_F (h11) (Seens.refl _ _) ?_)
      | (refine pure_F (h11) (Seens.refl _ _) ?_)
    exact .val
  | true =>
  cases hfit' : fitB m with
  | false =>
    rw [hfit] at h9
    rw [hfit'] at h9'
    refine F7_of ?_
    unfold k7
    repeat' first
      | simp -dsimp (disch := omega) only [↓rulesA, rulesB, rulesC, Int.reduceLT, nth, upd, put, storeN, AV.one, Nat.reduceBEq, Nat.reduceBNe, Int.reduceBEq, Int.reduceBNe, Int.reduceLE, boolBin, strBin, intBin, unA, buildA, placesA, fillA, ne_eq, reduceCtorEq, Nat.reduceAdd, Nat.reduceSub, Nat.reduceLeDiff, Nat.reduceLT, Nat.reduceEqDiff, Int.reduceToNat, eq_self, rulesT, *]
      | (refine allK_intro fun n hn => ?_; try simp only [fresh_set] at hn)
      | (refine ifK_intro (fun h => ?_) (fun h => ?_) <;> (try simp only [decide_eq_true_eq, decide_eq_false_iff_not, Bool.not_eq_true', Bool.not_eq_false'] at h) <;> try (exfalso; (try simp only [beq_iff_eq, beq_eq_false_iff_ne, bne_iff_ne, bne_eq_false_iff_eq, ne_eq] at h); omega))
      | (refine keeps_sub (Mem.sub_set (by simp [Mem.set_at, nomem, *])) ?_)
      | (refine call_F (h9) (Seens.refl _ _) ?_)
      | (refine pure_F (h9) (Seens.refl _ _) ?_)
      | (refine call_F (h9') (Seens.refl _ _) ?_)
      | (refine pure_F (h9') (Seens.refl _ _) ?_)
      | (refine call_F (h11) (Seens.refl _ _) ?_)
      | (refine pure_F (h11) (Seens.refl _ _) ?_)
    exact .val
  | true =>
  have hf := (fit_iff l).1 hfit
  have hf' := (fit_iff m).1 hfit'
  have h25 := F25 hf x es z hes
  have h26 := F26 hf x es z hes
  have hof := of_fit hf es es.length
  have h16 := F16 (ofTo l es es.length) (ofTo l es es.length) false false hof.small.2
  rw [samesB_self] at h16
  have hmf := merge_fit hf hf'
  have h27 := F27 l m x y hl hm
  have h28 := F28 hf hf' x y
  rw [mrg_refTo hf hf'] at h28
  have h16' := F16 ((mrg l m).take 16) ((mrg l m).take 16) false false hmf.small.2
  rw [samesB_self] at h16'
  have h18 := F18 ((mrg l m).take 16) false hmf.small.2
  rw [(fit_iff _).2 hmf] at h18
  refine F7_of ?_
  unfold k7
  repeat' first
    | simp -dsimp (disch := omega) only [↓rulesA, rulesB, rulesC, Int.reduceLT, nth, upd, put, storeN, AV.one, Nat.reduceBEq, Nat.reduceBNe, Int.reduceBEq, Int.reduceBNe, Int.reduceLE, boolBin, strBin, intBin, unA, buildA, placesA, fillA, ne_eq, reduceCtorEq, Nat.reduceAdd, Nat.reduceSub, Nat.reduceLeDiff, Nat.reduceLT, Nat.reduceEqDiff, Int.reduceToNat, eq_self, rulesT, *]
    | (refine allK_intro fun n hn => ?_; try simp only [fresh_set] at hn)
    | (refine ifK_intro (fun h => ?_) (fun h => ?_) <;> (try simp only [decide_eq_true_eq, decide_eq_false_iff_not, Bool.not_eq_true', Bool.not_eq_false'] at h) <;> try (exfalso; (try simp only [beq_iff_eq, beq_eq_false_iff_ne, bne_iff_ne, bne_eq_false_iff_eq, ne_eq] at h); omega))
    | (refine keeps_sub (Mem.sub_set (by simp [Mem.set_at, nomem, *])) ?_)
    | (refine call_F (h9) (Seens.refl _ _) ?_)
    | (refine pure_F (h9) (Seens.refl _ _) ?_)
    | (refine call_F (h9') (Seens.refl _ _) ?_)
    | (refine pure_F (h9') (Seens.refl _ _) ?_)
    | (refine call_F (h11) (Seens.refl _ _) ?_)
    | (refine pure_F (h11) (Seens.refl _ _) ?_)
    | (refine call_F (h25) (Seens.refl _ _) ?_)
    | (refine pure_F (h25) (Seens.refl _ _) ?_)
    | (refine call_F (h26) (Seens.refl _ _) ?_)
    | (refine pure_F (h26) (Seens.refl _ _) ?_)
    | (refine call_F (h16) (Seens.refl _ _) ?_)
    | (refine pure_F (h16) (Seens.refl _ _) ?_)
    | (refine call_F (h27) (Seens.refl _ _) ?_)
    | (refine pure_F (h27) (Seens.refl _ _) ?_)
    | (refine call_F (h28) (Seens.refl _ _) ?_)
    | (refine pure_F (h28) (Seens.refl _ _) ?_)
    | (refine call_F (h16') (Seens.refl _ _) ?_)
    | (refine pure_F (h16') (Seens.refl _ _) ?_)
    | (refine call_F (h18) (Seens.refl _ _) ?_)
    | (refine pure_F (h18) (Seens.refl _ _) ?_)
  exact .val
theorem entries_of {c : AV} (h : ShapedV Try.prog 51 c) : ∃ l : List Entry, c = .vs (l.map Entry.cells) false ∧ l.length * 136 ≤ 140737488351232 ∧ l.length ≤ 9223372036854775807 ∧ ∀ d ∈ l, d.ok :=
  Shaped.rows Entry.cells Entry.ok ti_51 rfl ti_58 rfl (fun _ h => Entry.of_shaped h) (h.one ti_51 rfl)
theorem ofs_law : ∀ args, ShapedAll Try.prog Try.f7.params.toList args → F Try.prog 7 args (.val (.bool true)) := by
  intro args h
  have hp : Try.f7.params.toList = [22, 22, 51] := by kernel_rfl
  rw [hp] at h
  match args, h with
  | [a, b, c], ⟨h0, h1, h2, _⟩ =>
    obtain ⟨l, rfl, l1, _⟩ := dups_of h0
    obtain ⟨m, rfl, l2, _⟩ := dups_of h1
    obtain ⟨es, rfl, l3, _⟩ := entries_of h2
    exact F7 l m false false es false (by omega) (by omega) (by omega)
end Go.Proofs.Ytoankcclbnnfiaa

