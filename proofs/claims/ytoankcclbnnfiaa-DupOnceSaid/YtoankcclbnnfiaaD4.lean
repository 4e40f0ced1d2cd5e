/- Package 20: searching. -/
import Derived.Test.YtoankcclbnnfiaaD3
set_option maxRecDepth 100000
set_option maxHeartbeats 1000000
set_option linter.unusedSimpArgs false
set_option linter.unusedVariables false
namespace Go.Proofs.Ytoankcclbnnfiaa
open Go.Abs
attribute [local irreducible] C X CC Y CV CW binK litK AppK PureC PureCV againK loopV rangeV allK ifK got onB condK V stepsK planK opK firstK seeE keepsK

theorem cv_3_82 (m : Mem) (kk : IntKind) (n : Int) : convA Try.prog m 3 82 (.val (.int kk n)) = some (.val (.int .u64 (IntKind.u64.wrap n))) := by simp only [convA, ti_3, ti_82]
theorem cv_82_3 (m : Mem) (kk : IntKind) (n : Int) : convA Try.prog m 82 3 (.val (.int kk n)) = some (.val (.int .i64 (IntKind.i64.wrap n))) := by simp only [convA, ti_3, ti_82]
/-- What the search looks at. -/
theorem F42 (l : List Dup) (x : Bool) (c i : Int) (h0 : 0 ≤ i) (h1 : i < l.length) : F Try.prog 42 [.val (.int .i64 i), .vp [.vs (l.map Dup.cells) x] 0, .vp [.val (.int .i64 c)] 0] (.val (.bool (decide (c ≤ (l.getD i.toNat default).client)))) := by
  refine F42_of ?_
  unfold k42
  repeat' first
    | simp -dsimp (disch := omega) only [↓rulesA, rulesB, rulesC, Int.reduceLT, nth, upd, put, storeN, AV.one, Nat.reduceBEq, Nat.reduceBNe, Int.reduceBEq, Int.reduceBNe, Int.reduceLE, boolBin, strBin, intBin, unA, buildA, placesA, fillA, ne_eq, reduceCtorEq, Nat.reduceAdd, Nat.reduceSub, Nat.reduceLeDiff, Nat.reduceLT, Nat.reduceEqDiff, Int.reduceToNat, eq_self, rulesT, len_22, ix_22, Dup.g0, *]
    | (refine allK_intro fun n hn => ?_; try simp only [fresh_set] at hn)
    | (refine ifK_intro (fun h => ?_) (fun h => ?_) <;> (try simp only [decide_eq_true_eq, decide_eq_false_iff_not, Bool.not_eq_true', Bool.not_eq_false'] at h) <;> try (exfalso; (try simp only [beq_iff_eq, beq_eq_false_iff_ne, bne_iff_ne, bne_eq_false_iff_eq, ne_eq] at h); omega))
    | (refine keeps_sub (Mem.sub_set (by simp [Mem.set_at, nomem, *])) ?_)
  exact .val
/-- sort.Search, where what is asked is false up to k and true from there on. -/
theorem F41 (n : Nat) (hn : n ≤ 140737488355328) (g : FuncId) (first caps : List AV) (p : Nat → Bool) (hp : ∀ i, i < n → F Try.prog g (first ++ [.val (.int .i64 (i : Int))] ++ caps) (.val (.bool (p i)))) (k : Nat) (hk : k ≤ n)
    (hlo : ∀ i, i < k → p i = false) (hhi : ∀ i, k ≤ i → i < n → p i = true) : F Try.prog 41 [.val (.int .i64 n), .fn (.func g) first caps] (.val (.int .i64 k)) := by
  refine F41_of ?_
  unfold k41
  repeat' first
    | simp -dsimp (disch := omega) only [↓rulesA, rulesB, rulesC, Int.reduceLT, nth, upd, put, storeN, AV.one, Nat.reduceBEq, Nat.reduceBNe, Int.reduceBEq, Int.reduceBNe, Int.reduceLE, boolBin, strBin, intBin, unA, buildA, placesA, fillA, ne_eq, reduceCtorEq, Nat.reduceAdd, Nat.reduceSub, Nat.reduceLeDiff, Nat.reduceLT, Nat.reduceEqDiff, Int.reduceToNat, eq_self, rulesT, *]
    | (refine allK_intro fun n hn => ?_; try simp only [fresh_set] at hn)
    | (refine ifK_intro (fun h => ?_) (fun h => ?_) <;> (try simp only [decide_eq_true_eq, decide_eq_false_iff_not, Bool.not_eq_true', Bool.not_eq_false'] at h) <;> try (exfalso; (try simp only [beq_iff_eq, beq_eq_false_iff_ne, bne_iff_ne, bne_eq_false_iff_eq, ne_eq] at h); omega))
    | (refine keeps_sub (Mem.sub_set (by simp [Mem.set_at, nomem, *])) ?_)
  refine loop_intro (fun j env m => ∃ lo hi : Nat, lo ≤ k ∧ k ≤ hi ∧ hi ≤ n ∧ j = hi - lo ∧ m = nomem ∧ env.length = 26 ∧ nth env 1 = .fn (.func g) first caps ∧ nth env 5 = .val (.int .i64 lo) ∧ nth env 6 = .val (.int .i64 hi)) n nomem (fun _ _ h => h) ⟨0, n, by omega, hk, by omega, by omega, rfl, rfl, rfl, rfl, rfl⟩ ?_
  rintro j env m ⟨lo, hi, h1, h2, h3, rfl, rfl, hlen, e1, e5, e6⟩
  repeat' first
    | simp -dsimp (disch := omega) only [↓rulesA, rulesB, rulesC, Int.reduceLT, nth, upd, put, storeN, AV.one, Nat.reduceBEq, Nat.reduceBNe, Int.reduceBEq, Int.reduceBNe, Int.reduceLE, boolBin, strBin, intBin, unA, buildA, placesA, fillA, ne_eq, reduceCtorEq, Nat.reduceAdd, Nat.reduceSub, Nat.reduceLeDiff, Nat.reduceLT, Nat.reduceEqDiff, Int.reduceToNat, eq_self, rulesT, cv_3_82, cv_82_3, *]
    | (refine allK_intro fun n hn => ?_; try simp only [fresh_set] at hn)
    | (refine ifK_intro (fun h => ?_) (fun h => ?_) <;> (try simp only [decide_eq_true_eq, decide_eq_false_iff_not, Bool.not_eq_true', Bool.not_eq_false'] at h) <;> try (exfalso; (try simp only [beq_iff_eq, beq_eq_false_iff_ne, bne_iff_ne, bne_eq_false_iff_eq, ne_eq] at h); omega))
    | (refine keeps_sub (Mem.sub_set (by simp [Mem.set_at, nomem, *])) ?_)
  · have hmid : ((lo : Int) + hi) / 2 = ((lo + hi) / 2 : Nat) := by omega
    rw [hmid]
    generalize hm : (lo + hi) / 2 = mid
    refine call_F (hp mid (by omega)) (Seens.refl _ _) ?_
    repeat' first
      | simp -dsimp (disch := omega) only [↓rulesA, rulesB, rulesC, Int.reduceLT, nth, upd, put, storeN, AV.one, Nat.reduceBEq, Nat.reduceBNe, Int.reduceBEq, Int.reduceBNe, Int.reduceLE, boolBin, strBin, intBin, unA, buildA, placesA, fillA, ne_eq, reduceCtorEq, Nat.reduceAdd, Nat.reduceSub, Nat.reduceLeDiff, Nat.reduceLT, Nat.reduceEqDiff, Int.reduceToNat, eq_self, rulesT, *]
      | (refine allK_intro fun n hn => ?_; try simp only [fresh_set] at hn)
      | (refine ifK_intro (fun h => ?_) (fun h => ?_) <;> (try simp only [decide_eq_true_eq, decide_eq_false_iff_not, Bool.not_eq_true', Bool.not_eq_false'] at h) <;> try (exfalso; (try simp only [beq_iff_eq, beq_eq_false_iff_ne, bne_iff_ne, bne_eq_false_iff_eq, ne_eq] at h); omega))
      | (refine keeps_sub (Mem.sub_set (by simp [Mem.set_at, nomem, *])) ?_)
    · have hk1 : mid < k := by
        rcases Nat.lt_or_ge mid k with h' | h'
        · exact h'
        · rw [hhi mid h' (by omega)] at h; cases h
      refine again_intro (hi - (mid + 1)) (by omega) nomem (nomem_sub _) ⟨mid + 1, hi, by omega, by omega, by omega, rfl, rfl, ?_, ?_, ?_, ?_⟩
      all_goals try (simp (disch := omega) only [nth_upd, pickB_true, pickB_false, inB_lt, upd_len, cast_succ, Nat.reduceBEq, beq_self_eq_true, reduceCtorEq, *]; done)
    · have hk1 : k ≤ mid := by
        rcases Nat.lt_or_ge mid k with h' | h'
        · rw [hlo mid h'] at h; cases h
        · exact h'
      refine again_intro (mid - lo) (by omega) nomem (nomem_sub _) ⟨lo, mid, by omega, by omega, by omega, rfl, rfl, ?_, ?_, ?_, ?_⟩
      all_goals try (simp (disch := omega) only [nth_upd, pickB_true, pickB_false, inB_lt, upd_len, cast_succ, Nat.reduceBEq, beq_self_eq_true, reduceCtorEq, *]; done)
  · have : lo = k := by omega
    subst this
    exact .val
theorem seen_fn {m : Mem} {f : Fn} {fs fs' cs cs' : List AV} (h : Seens m fs fs') (h' : Seens m cs cs') : Seen m (.fn f fs cs) (.fn f fs' cs') := .fn h.1 h.2 h'.1 h'.2
theorem seen_ptr1 {m : Mem} {n off : Nat} {opn : Bool} {t : TypeId} {v : AV} (hm : m n = some (.cells opn t [v])) : Seen m (.ptr n off) (.vp [v] off) :=
  .ptr hm (by simp) rfl fun i a b => .same
/-- Where a client's stands, or would: k. -/
def foundB (l : List Dup) (c : Int) (k : Nat) : Bool := decide (k < l.length) && ((l.getD k default).client == c)
theorem F35 (l : List Dup) (x : Bool) (c : Int) (hl : l.length ≤ 140737488355328) (k : Nat) (hk : k ≤ l.length) (hlo : ∀ i, i < k → (l.getD i default).client < c) (hhi : ∀ i, k ≤ i → i < l.length → c ≤ (l.getD i default).client) :
    F Try.prog 35 [.vs (l.map Dup.cells) x, .val (.int .i64 c)] (.tup [.val (.int .i64 k), .val (.bool (foundB l c k))]) := by
  refine F35_of ?_
  unfold k35 foundB
  repeat' first
    | simp -dsimp (disch := omega) only [↓rulesA, rulesB, rulesC, Int.reduceLT, nth, upd, put, storeN, AV.one, Nat.reduceBEq, Nat.reduceBNe, Int.reduceBEq, Int.reduceBNe, Int.reduceLE, boolBin, strBin, intBin, unA, buildA, placesA, fillA, ne_eq, reduceCtorEq, Nat.reduceAdd, Nat.reduceSub, Nat.reduceLeDiff, Nat.reduceLT, Nat.reduceEqDiff, Int.reduceToNat, eq_self, rulesT, len_22, mkFnA, staticFn, *]
    | (refine allK_intro fun n hn => ?_; try simp only [fresh_set] at hn)
    | (refine ifK_intro (fun h => ?_) (fun h => ?_) <;> (try simp only [decide_eq_true_eq, decide_eq_false_iff_not, Bool.not_eq_true', Bool.not_eq_false'] at h) <;> try (exfalso; (try simp only [beq_iff_eq, beq_eq_false_iff_ne, bne_iff_ne, bne_eq_false_iff_eq, ne_eq] at h); omega))
    | (refine keeps_sub (Mem.sub_set (by simp [Mem.set_at, nomem, *])) ?_)
  refine call_F (F41 l.length hl 42 [] [.vp [.vs (l.map Dup.cells) x] 0, .vp [.val (.int .i64 c)] 0] (fun i => decide (c ≤ (l.getD i default).client)) (fun i hi => F42 l x c i (by omega) (by omega)) k hk (fun i hi => decide_eq_false (by have := hlo i hi; omega)) (fun i h1 h2 => decide_eq_true (hhi i h1 h2))) ?_ ?_
  · exact Seens.cons .same (Seens.cons (seen_fn (Seens.nil _) (Seens.cons (seen_ptr1 (opn := false) (t := 22) (by simp [Mem.set_at, *])) (Seens.cons (seen_ptr1 (opn := false) (t := 3) (by simp [Mem.set_at])) (Seens.nil _)))) (Seens.nil _))
  repeat' first
    | simp -dsimp (disch := omega) only [↓rulesA, rulesB, rulesC, Int.reduceLT, nth, upd, put, storeN, AV.one, Nat.reduceBEq, Nat.reduceBNe, Int.reduceBEq, Int.reduceBNe, Int.reduceLE, boolBin, strBin, intBin, unA, buildA, placesA, fillA, ne_eq, reduceCtorEq, Nat.reduceAdd, Nat.reduceSub, Nat.reduceLeDiff, Nat.reduceLT, Nat.reduceEqDiff, Int.reduceToNat, eq_self, rulesT, len_22, ix_22, Dup.g0, *]
    | (refine allK_intro fun n hn => ?_; try simp only [fresh_set] at hn)
    | (refine ifK_intro (fun h => ?_) (fun h => ?_) <;> (try simp only [decide_eq_true_eq, decide_eq_false_iff_not, Bool.not_eq_true', Bool.not_eq_false'] at h) <;> try (exfalso; (try simp only [beq_iff_eq, beq_eq_false_iff_ne, bne_iff_ne, bne_eq_false_iff_eq, ne_eq] at h); omega))
    | (refine keeps_sub (Mem.sub_set (by simp [Mem.set_at, nomem, *])) ?_)
  · rw [decide_eq_true (show k < l.length by omega), Bool.true_and]
    exact .flat rfl
  · rw [decide_eq_false (show ¬ k < l.length by omega), Bool.false_and]
    exact .flat rfl
/-- What the document's search comes to: the first with this client. -/
def d0 : Dup := ⟨0, 0, 0, 0, 0, 0, .empty⟩
def findB (l : List Dup) (c : Int) (k : Nat) : Dup := if foundB l c k then l.getD k default else d0
theorem F19 (l : List Dup) (x : Bool) (c : Int) (hl : l.length ≤ 140737488355328) (k : Nat) (hk : k ≤ l.length) (hlo : ∀ i, i < k → (l.getD i default).client < c) (hhi : ∀ i, k ≤ i → i < l.length → c ≤ (l.getD i default).client) :
    F Try.prog 19 [.vs (l.map Dup.cells) x, .val (.int .i64 c)] (.tup [.agg (findB l c k).cells, .val (.bool (foundB l c k))]) := by
  refine F19_of ?_
  unfold k19 findB
  repeat' first
    | simp -dsimp (disch := omega) only [↓rulesA, rulesB, rulesC, Int.reduceLT, nth, upd, put, storeN, AV.one, Nat.reduceBEq, Nat.reduceBNe, Int.reduceBEq, Int.reduceBNe, Int.reduceLE, boolBin, strBin, intBin, unA, buildA, placesA, fillA, ne_eq, reduceCtorEq, Nat.reduceAdd, Nat.reduceSub, Nat.reduceLeDiff, Nat.reduceLT, Nat.reduceEqDiff, Int.reduceToNat, eq_self, rulesT, len_22, ix_22, Dup.g0, Dup.len, Dup.take, Dup.all, *]
    | (refine allK_intro fun n hn => ?_; try simp only [fresh_set] at hn)
    | (refine ifK_intro (fun h => ?_) (fun h => ?_) <;> (try simp only [decide_eq_true_eq, decide_eq_false_iff_not, Bool.not_eq_true', Bool.not_eq_false'] at h) <;> try (exfalso; (try simp only [beq_iff_eq, beq_eq_false_iff_ne, bne_iff_ne, bne_eq_false_iff_eq, ne_eq] at h); omega))
    | (refine keeps_sub (Mem.sub_set (by simp [Mem.set_at, nomem, *])) ?_)
    | (refine call_F (F35 l x c hl k hk hlo hhi) (Seens.refl _ _) ?_)
    | (refine pure_F (F35 l x c hl k hk hlo hhi) (Seens.refl _ _) ?_)
  · exact .flat rfl
  · have hkl : k < l.length := by
      unfold foundB at h
      simp only [Bool.and_eq_true, decide_eq_true_eq] at h
      exact h.1
    repeat' first
      | simp -dsimp (disch := omega) only [↓rulesA, rulesB, rulesC, Int.reduceLT, nth, upd, put, storeN, AV.one, Nat.reduceBEq, Nat.reduceBNe, Int.reduceBEq, Int.reduceBNe, Int.reduceLE, boolBin, strBin, intBin, unA, buildA, placesA, fillA, ne_eq, reduceCtorEq, Nat.reduceAdd, Nat.reduceSub, Nat.reduceLeDiff, Nat.reduceLT, Nat.reduceEqDiff, Int.reduceToNat, eq_self, rulesT, len_22, ix_22, Dup.g0, Dup.len, Dup.take, Dup.all, *]
      | (refine allK_intro fun n hn => ?_; try simp only [fresh_set] at hn)
      | (refine ifK_intro (fun h => ?_) (fun h => ?_) <;> (try simp only [decide_eq_true_eq, decide_eq_false_iff_not, Bool.not_eq_true', Bool.not_eq_false'] at h) <;> try (exfalso; (try simp only [beq_iff_eq, beq_eq_false_iff_ne, bne_iff_ne, bne_eq_false_iff_eq, ne_eq] at h); omega))
      | (refine keeps_sub (Mem.sub_set (by simp [Mem.set_at, nomem, *])) ?_)
    exact .flat rfl
/-- The first with this client. -/
def firstB (l : List Dup) (c : Int) : Option Dup := l.find? fun d => d.client == c
theorem F21 (l : List Dup) (x : Bool) (c : Int) (hl : l.length ≤ 140737488355328) (d : Dup) (b : Bool) (hd : (∃ k, k < l.length ∧ l.getD k default = d ∧ d.client = c ∧ b = true ∧ ∀ i, i < k → (l.getD i default).client ≠ c) ∨ (d = d0 ∧ b = false ∧ ∀ i, i < l.length → (l.getD i default).client ≠ c)) :
    F Try.prog 21 [.vs (l.map Dup.cells) x, .val (.int .i64 c)] (.tup [.agg d.cells, .val (.bool b)]) := by
  refine F21_of ?_
  unfold k21
  repeat' first
    | simp -dsimp (disch := omega) only [↓rulesA, rulesB, rulesC, Int.reduceLT, nth, upd, put, storeN, AV.one, Nat.reduceBEq, Nat.reduceBNe, Int.reduceBEq, Int.reduceBNe, Int.reduceLE, boolBin, strBin, intBin, unA, buildA, placesA, fillA, ne_eq, reduceCtorEq, Nat.reduceAdd, Nat.reduceSub, Nat.reduceLeDiff, Nat.reduceLT, Nat.reduceEqDiff, Int.reduceToNat, eq_self, rulesT, *]
    | (refine allK_intro fun n hn => ?_; try simp only [fresh_set] at hn)
    | (refine ifK_intro (fun h => ?_) (fun h => ?_) <;> (try simp only [decide_eq_true_eq, decide_eq_false_iff_not, Bool.not_eq_true', Bool.not_eq_false'] at h) <;> try (exfalso; (try simp only [beq_iff_eq, beq_eq_false_iff_ne, bne_iff_ne, bne_eq_false_iff_eq, ne_eq] at h); omega))
    | (refine keeps_sub (Mem.sub_set (by simp [Mem.set_at, nomem, *])) ?_)
  refine loop_intro (fun j env m => ∃ i : Nat, i ≤ l.length ∧ j = l.length - i ∧ m = nomem.set n (.cells false 39 d0.cells) ∧ env.length = 25 ∧ nth env 0 = .vs (l.map Dup.cells) x ∧ nth env 1 = .val (.int .i64 c) ∧ nth env 4 = .ptr n 0 ∧ nth env 6 = .val (.int .i64 i) ∧ ∀ q, q < i → (l.getD q default).client ≠ c) l.length _ (fun _ _ h => h) ⟨0, by omega, by omega, rfl, rfl, rfl, rfl, rfl, rfl, fun k h => by omega⟩ ?_
  rintro j env m ⟨i, hi, rfl, rfl, hlen, e0, e1, e4, e6, hok⟩
  repeat' first
    | simp -dsimp (disch := omega) only [↓rulesA, rulesB, rulesC, Int.reduceLT, nth, upd, put, storeN, AV.one, Nat.reduceBEq, Nat.reduceBNe, Int.reduceBEq, Int.reduceBNe, Int.reduceLE, boolBin, strBin, intBin, unA, buildA, placesA, fillA, ne_eq, reduceCtorEq, Nat.reduceAdd, Nat.reduceSub, Nat.reduceLeDiff, Nat.reduceLT, Nat.reduceEqDiff, Int.reduceToNat, eq_self, rulesT, len_22, ix_22, Dup.g0, Dup.len, Dup.take, Dup.drop, Dup.all, Dup.sall, Dup.slit, *]
    | (refine allK_intro fun n hn => ?_; try simp only [fresh_set] at hn)
    | (refine ifK_intro (fun h => ?_) (fun h => ?_) <;> (try simp only [decide_eq_true_eq, decide_eq_false_iff_not, Bool.not_eq_true', Bool.not_eq_false'] at h) <;> try (exfalso; (try simp only [beq_iff_eq, beq_eq_false_iff_ne, bne_iff_ne, bne_eq_false_iff_eq, ne_eq] at h); omega))
    | (refine keeps_sub (Mem.sub_set (by simp [Mem.set_at, nomem, *])) ?_)
  · have hi' : (l.getD i default).client = c := by simpa using h
    rcases hd with ⟨k, hk, h1, h2, rfl, h3⟩ | ⟨_, _, h3⟩
    · have : k = i := by
        rcases Nat.lt_trichotomy k i with h' | h' | h'
        · exact absurd (by rw [h1]; exact h2) (hok k h')
        · exact h'
        · exact absurd hi' (h3 i h')
      subst this
      rw [← h1]
      exact .flat rfl
    · exact absurd hi' (h3 i (by omega))
  · refine again_intro (l.length - (i + 1)) (by omega) (nomem.set n (.cells false 39 d0.cells)) (fun _ _ h => h) ⟨i + 1, by omega, rfl, rfl, ?_, ?_, ?_, ?_, ?_, fun k hk => ?_⟩
    all_goals try (simp (disch := omega) only [nth_upd, pickB_true, pickB_false, inB_lt, upd_len, cast_succ, Nat.reduceBEq, beq_self_eq_true, reduceCtorEq, *]; done)
    rcases Nat.lt_or_ge k i with h' | h'
    · exact hok k h'
    · have : k = i := by omega
      subst this
      simpa using h
  · rcases hd with ⟨k, hk, h1, h2, rfl, h3⟩ | ⟨rfl, rfl, h3⟩
    · exact absurd (by rw [h1]; exact h2) (hok k (by omega))
    · exact .flat rfl
end Go.Proofs.Ytoankcclbnnfiaa

