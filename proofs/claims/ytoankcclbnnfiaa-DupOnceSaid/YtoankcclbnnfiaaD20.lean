/- Package 20: two rows merged, by an iterator: the iterator. -/
import Derived.Test.YtoankcclbnnfiaaD19
set_option maxRecDepth 100000
set_option maxHeartbeats 1000000
set_option linter.unusedSimpArgs false
set_option linter.unusedVariables false
namespace Go.Proofs.Ytoankcclbnnfiaa
open Go.Abs
attribute [local irreducible] C X CC Y CV CW binK litK AppK PureC PureCV againK loopV rangeV allK ifK got onB condK V stepsK planK opK firstK seeE keepsK

/-- The one of both that is later. -/
def win (y x : Dup) : Dup := if laterB x.inst x.tid y.inst y.tid then x else y
def mrg : List Dup → List Dup → List Dup
  | [], cur => cur
  | y :: a, [] => y :: mrg a []
  | y :: a, x :: r => if x.client < y.client then x :: mrg (y :: a) r else if x.client = y.client then win y x :: mrg a r else y :: mrg a (x :: r)
termination_by a b => a.length + b.length
theorem mrg_done (cur : List Dup) : mrg [] cur = cur := by unfold mrg; rfl
theorem mrg_none (y : Dup) (a : List Dup) : mrg (y :: a) [] = y :: mrg a [] := by rw [mrg]
theorem mrg_low {y x : Dup} (a r : List Dup) (h : x.client < y.client) : mrg (y :: a) (x :: r) = x :: mrg (y :: a) r := by rw [mrg, if_pos h]
theorem mrg_same {y x : Dup} (a r : List Dup) (h : x.client = y.client) : mrg (y :: a) (x :: r) = win y x :: mrg a r := by rw [mrg, if_neg (by omega), if_pos h]
theorem mrg_high {y x : Dup} (a r : List Dup) (h : y.client < x.client) : mrg (y :: a) (x :: r) = y :: mrg a (x :: r) := by rw [mrg, if_neg (by omega), if_neg (by omega)]

def drow (d : Dup) : List AV := [.agg d.cells]
theorem drow_at {L : List Dup} {k : Nat} {z : Dup} {r : List Dup} (h : z :: r = L.drop k) : ∃ hk : k < (L.map drow).length, (L.map drow)[k] = [.agg z.cells] ∧ r = L.drop (k + 1) := by
  have hk : k < L.length := by
    rcases Nat.lt_or_ge k L.length with h' | h'
    · exact h'
    · rw [List.drop_eq_nil_of_le h'] at h; cases h
  rw [List.drop_eq_getElem_cons hk] at h
  injection h with h1 h2
  exact ⟨by simpa using hk, by simp [drow, h1], h2⟩
def Kept (p : Prop) : Prop := p
theorem I46 (a b : List Dup) (xa xb : Bool) (ha : a.length ≤ 140737488355328) (hb : b.length ≤ 140737488355328) (n2 n3 : Nat) (h23 : n2 ≠ n3) : Iter Try.prog 46 [] [.ptr n3 0, .ptr n2 0] ((nomem.set n2 (.cells false 22 [.vs (a.map Dup.cells) xa])).set n3 (.cells false 22 [.vs (b.map Dup.cells) xb])) ((mrg a b).map drow) := by
  intro ny M I S K' hB h0 hY hend hstop
  have M2 : M n2 = some (.cells false 22 [.vs (a.map Dup.cells) xa]) := hB _ _ (by simp [Mem.set_at, h23])
  have M3 : M n3 = some (.cells false 22 [.vs (b.map Dup.cells) xb]) := hB _ _ (by simp [Mem.set_at])
  clear hB
  -- a yield of the next in turn
  have hyield : ∀ (k : Nat) (z : Dup) (rest : List Dup) (mI m : Mem) (K'' : AV → Mem → Prop) (x : Hid K''), z :: rest = (mrg a b).drop k → I k mI → mI.sub m →
      (∀ M' m', rest = (mrg a b).drop (k + 1) ∧ k + 1 ≤ (mrg a b).length → I (k + 1) m' → m'.sub M' → (∀ q b, mI q = none → m q = some b → m' q = none ∧ M' q = some b) → K'' (.val (.bool true)) M') →
      (∀ M' m', S m' → m'.sub M' → K'' (.val (.bool false)) M') → Y Try.prog ny [.agg z.cells] m (hid K'' x) := fun k z rest mI m K'' x hz hI hs h1 h2 => by
    obtain ⟨hk, e, hr⟩ := drow_at hz
    have := hY k hk mI hI
    rw [e] at this
    refine yield_on this hs fun r m' M' h hs' hf => ?_
    rcases h with ⟨rfl, h⟩ | ⟨rfl, h⟩
    · exact h1 M' m' ⟨hr, by have := hk; simp only [List.length_map] at this; omega⟩ h hs' hf
    · exact h2 M' m' h hs'
  refine C.turn (C46_of ?_)
  unfold k46
  repeat' first
    | simp -dsimp (disch := omega) only [↓rulesA, rulesB, rulesC, Int.reduceLT, nth, upd, put, storeN, AV.one, Nat.reduceBEq, Nat.reduceBNe, Int.reduceBEq, Int.reduceBNe, Int.reduceLE, boolBin, strBin, intBin, unA, buildA, placesA, fillA, ne_eq, reduceCtorEq, Nat.reduceAdd, Nat.reduceSub, Nat.reduceLeDiff, Nat.reduceLT, Nat.reduceEqDiff, Int.reduceToNat, eq_self, rulesT, len_22, ix_22, rhi_22, rlo_22, rlohi_22, Dup.g0, Dup.g1, Dup.g2, Dup.g3, Dup.g4, Dup.g5, Dup.g6, Dup.len, Dup.take, Dup.all, Dup.drop, Dup.rlen, Dup.rat, Dup.rat0, Dup.rpart, Dup.rin, Dup.rset, Dup.sall, Dup.slit, Dup.part3, Dup.join, mkFnA, staticFn, *]
    | (refine allK_intro fun n hn => ?_; try simp only [fresh_set] at hn)
    | (refine ifK_intro (fun h => ?_) (fun h => ?_) <;> (try simp only [decide_eq_true_eq, decide_eq_false_iff_not, Bool.not_eq_true', Bool.not_eq_false'] at h) <;> try (exfalso; (try simp only [beq_iff_eq, beq_eq_false_iff_ne, bne_iff_ne, bne_eq_false_iff_eq, ne_eq] at h); omega))
    | (refine keeps_sub (Mem.sub_set (by simp [Mem.set_at, nomem, *])) ?_)
  refine call_obj (C47 b xb n hb) (Mem.set_same _ _ _) fun r m' hr => ?_
  obtain ⟨rfl, rfl⟩ := hr
  refine ⟨_, rfl, ?_⟩
  obtain ⟨n4, e4⟩ : ∃ q, q = n := ⟨n, rfl⟩
  subst e4
  have hn4 := hn
  clear hn
  have h24 : n2 ≠ n4 := fun e => by rw [e, hn4] at M2; cases M2
  repeat' simp -dsimp (disch := omega) only [↓rulesA, rulesB, rulesC, Int.reduceLT, nth, upd, put, storeN, AV.one, Nat.reduceBEq, Nat.reduceBNe, Int.reduceBEq, Int.reduceBNe, Int.reduceLE, boolBin, strBin, intBin, unA, buildA, placesA, fillA, ne_eq, reduceCtorEq, Nat.reduceAdd, Nat.reduceSub, Nat.reduceLeDiff, Nat.reduceLT, Nat.reduceEqDiff, Int.reduceToNat, eq_self, rulesT, len_22, ix_22, rhi_22, rlo_22, rlohi_22, Dup.g0, Dup.g1, Dup.g2, Dup.g3, Dup.g4, Dup.g5, Dup.g6, Dup.len, Dup.take, Dup.all, Dup.drop, Dup.rlen, Dup.rat, Dup.rat0, Dup.rpart, Dup.rin, Dup.rset, Dup.sall, Dup.slit, Dup.part3, Dup.join, *]
  refine allK_intro fun n6 hn6 => ?_
  simp only [fresh_set] at hn6
  have h26 : n2 ≠ n6 := fun e => by rw [e, hn6.2.2] at M2; cases M2
  repeat' first
    | simp -dsimp (disch := omega) only [↓rulesA, rulesB, rulesC, Int.reduceLT, nth, upd, put, storeN, AV.one, Nat.reduceBEq, Nat.reduceBNe, Int.reduceBEq, Int.reduceBNe, Int.reduceLE, boolBin, strBin, intBin, unA, buildA, placesA, fillA, ne_eq, reduceCtorEq, Nat.reduceAdd, Nat.reduceSub, Nat.reduceLeDiff, Nat.reduceLT, Nat.reduceEqDiff, Int.reduceToNat, eq_self, rulesT, len_22, ix_22, rhi_22, rlo_22, rlohi_22, Dup.g0, Dup.g1, Dup.g2, Dup.g3, Dup.g4, Dup.g5, Dup.g6, Dup.len, Dup.take, Dup.all, Dup.drop, Dup.rlen, Dup.rat, Dup.rat0, Dup.rpart, Dup.rin, Dup.rset, Dup.sall, Dup.slit, Dup.part3, Dup.join, *]
    | (refine allK_intro fun n hn => ?_; try simp only [fresh_set] at hn)
    | (refine ifK_intro (fun h => ?_) (fun h => ?_) <;> (try simp only [decide_eq_true_eq, decide_eq_false_iff_not, Bool.not_eq_true', Bool.not_eq_false'] at h) <;> try (exfalso; (try simp only [beq_iff_eq, beq_eq_false_iff_ne, bne_iff_ne, bne_eq_false_iff_eq, ne_eq] at h); omega))
    | (refine keeps_sub (Mem.sub_set (by simp [Mem.set_at, nomem, *])) ?_)
  obtain ⟨hne, -, hn6⟩ := hn6
  refine loop_intro (fun j env m => ∃ (i k : Nat) (cur : List Dup) (mI : Mem), i ≤ a.length ∧ j = a.length - i ∧ cur.length ≤ 140737488355328 ∧ mrg (a.drop i) cur = (mrg a b).drop k ∧ k ≤ (mrg a b).length ∧ I k mI ∧ mI.sub m ∧ mI n4 = none ∧ mI n6 = none ∧
    m n4 = some (.cells false 22 [.vs ((cur.drop 1).map Dup.cells) xb]) ∧ m n6 = some (.cells false 39 (cur.getD 0 default).cells) ∧ env.length = 76 ∧ nth env 0 = .yld ny ∧ nth env 4 = .ptr n4 0 ∧ nth env 5 = .fn (.func 47) [] [.ptr n4 0] ∧ nth env 6 = .ptr n6 0 ∧
    nth env 7 = .val (.bool (decide (0 < cur.length))) ∧ nth env 17 = .vs (a.map Dup.cells) xa ∧ nth env 18 = .val (.int .i64 a.length) ∧ nth env 19 = .val (.int .i64 i)) a.length _ (Mem.sub.refl _)
    ⟨0, 0, b, M, by omega, by omega, hb, by simp, by omega, h0, ?_, hn4, hn6, ?_, ?_, rfl, rfl, rfl, rfl, rfl, rfl, rfl, rfl, rfl⟩ ?_
  · exact (Mem.sub_set hn4).trans (Mem.sub_set (by rw [Mem.set_ne _ _ hne]; exact hn6))
  · rw [Mem.set_ne _ _ (Ne.symm hne), Mem.set_same]
  · rw [Mem.set_same]
  rintro j env m ⟨i, k, cur, mI, hi, rfl, hcur, hmrg, hk, hI, hsub, hI4, hI6, h4, h6, hlen, e0, e4, e5, e6, e7, e17, e18, e19⟩
  repeat' first
    | simp -dsimp (disch := omega) only [↓rulesA, rulesB, rulesC, Int.reduceLT, nth, upd, put, storeN, AV.one, Nat.reduceBEq, Nat.reduceBNe, Int.reduceBEq, Int.reduceBNe, Int.reduceLE, boolBin, strBin, intBin, unA, buildA, placesA, fillA, ne_eq, reduceCtorEq, Nat.reduceAdd, Nat.reduceSub, Nat.reduceLeDiff, Nat.reduceLT, Nat.reduceEqDiff, Int.reduceToNat, eq_self, rulesT, len_22, ix_22, rhi_22, rlo_22, rlohi_22, Dup.g0, Dup.g1, Dup.g2, Dup.g3, Dup.g4, Dup.g5, Dup.g6, Dup.len, Dup.take, Dup.all, Dup.drop, Dup.rlen, Dup.rat, Dup.rat0, Dup.rpart, Dup.rin, Dup.rset, Dup.sall, Dup.slit, Dup.part3, Dup.join, *]
    | (refine allK_intro fun n hn => ?_; try simp only [fresh_set] at hn)
    | (refine ifK_intro (fun h => ?_) (fun h => ?_) <;> (try simp only [decide_eq_true_eq, decide_eq_false_iff_not, Bool.not_eq_true', Bool.not_eq_false'] at h) <;> try (exfalso; (try simp only [beq_iff_eq, beq_eq_false_iff_ne, bne_iff_ne, bne_eq_false_iff_eq, ne_eq] at h); omega))
    | (refine keeps_sub (Mem.sub_set (by simp [Mem.set_at, nomem, *])) ?_)
  · obtain ⟨n9, e9⟩ : ∃ q, q = n := ⟨n, rfl⟩
    subst e9
    have hn9 := hn
    clear hn
    have hia : i < a.length := by omega
    have n94 : n9 ≠ n4 := fun e => by rw [e, h4] at hn9; cases hn9
    have n96 : n9 ≠ n6 := fun e => by rw [e, h6] at hn9; cases hn9
    have n49 := Ne.symm n94
    have n69 := Ne.symm n96
    have n46 := Ne.symm hne
    have hI9 : mI n9 = none := by
      cases h : mI n9 with
      | none => rfl
      | some b => have := hsub n9 b h; rw [hn9] at this; cases this
    obtain ⟨y, hy⟩ : ∃ y, y = a.getD i default := ⟨_, rfl⟩
    have hya : a.drop i = y :: a.drop (i + 1) := by rw [List.drop_eq_getElem_cons hia, hy, List.getD_eq_getElem?_getD, List.getElem?_eq_getElem hia]; rfl
    rw [← hy]
    rw [hya] at hmrg
    clear hy
    refine loop_intro (fun j env m => ∃ (k : Nat) (cur : List Dup) (mI : Mem), j = cur.length ∧ cur.length ≤ 140737488355328 ∧ mrg (y :: a.drop (i + 1)) cur = (mrg a b).drop k ∧ k ≤ (mrg a b).length ∧ I k mI ∧ mI.sub m ∧ mI n4 = none ∧ mI n6 = none ∧ mI n9 = none ∧
      m n4 = some (.cells false 22 [.vs ((cur.drop 1).map Dup.cells) xb]) ∧ m n6 = some (.cells false 39 (cur.getD 0 default).cells) ∧ m n9 = some (.cells false 39 y.cells) ∧ env.length = 76 ∧ nth env 0 = .yld ny ∧ nth env 4 = .ptr n4 0 ∧ nth env 5 = .fn (.func 47) [] [.ptr n4 0] ∧ nth env 6 = .ptr n6 0 ∧
      nth env 7 = .val (.bool (decide (0 < cur.length))) ∧ nth env 9 = .ptr n9 0 ∧ nth env 17 = .vs (a.map Dup.cells) xa ∧ nth env 18 = .val (.int .i64 a.length) ∧ nth env 19 = .val (.int .i64 i)) cur.length _ (Mem.sub.refl _)
      ⟨k, cur, mI, rfl, hcur, hmrg, hk, hI, hsub.trans (Mem.sub_set hn9), hI4, hI6, hI9, ?_, ?_, Mem.set_same _ _ _, ?_, ?_, ?_, ?_, ?_, ?_, ?_, ?_, ?_, ?_⟩ ?_
    · rw [Mem.set_ne _ _ (Ne.symm n94)]; exact h4
    · rw [Mem.set_ne _ _ (Ne.symm n96)]; exact h6
    · simp only [upd_len]; exact hlen
    all_goals try (simp (disch := omega) only [nth_upd, pickB_true, pickB_false, inB_lt, upd_len, cast_succ, Nat.reduceBEq, beq_self_eq_true, reduceCtorEq, *]; done)
    clear hmrg hk hI hsub hI4 hI6 hI9 h4 h6 hlen e0 e4 e5 e6 e7 e17 e18 e19 hn9 hcur env m k cur mI
    rintro j env m ⟨k, cur, mI, rfl, hcur, hmrg, hk, hI, hsub, hI4, hI6, hI9, h4, h6, h9, hlen, e0, e4, e5, e6, e7, e9, e17, e18, e19⟩
    rcases cur with _ | ⟨x, r⟩
    · replace e7 : nth env 7 = .val (.bool false) := e7
      rw [mrg_none] at hmrg
      repeat' first
        | simp -dsimp (disch := omega) only [↓rulesA, rulesB, rulesC, Int.reduceLT, nth, upd, put, storeN, AV.one, Nat.reduceBEq, Nat.reduceBNe, Int.reduceBEq, Int.reduceBNe, Int.reduceLE, boolBin, strBin, intBin, unA, buildA, placesA, fillA, ne_eq, reduceCtorEq, Nat.reduceAdd, Nat.reduceSub, Nat.reduceLeDiff, Nat.reduceLT, Nat.reduceEqDiff, Int.reduceToNat, eq_self, rulesT, len_22, ix_22, rhi_22, rlo_22, rlohi_22, Dup.g0, Dup.g1, Dup.g2, Dup.g3, Dup.g4, Dup.g5, Dup.g6, Dup.len, Dup.take, Dup.all, Dup.drop, Dup.rlen, Dup.rat, Dup.rat0, Dup.rpart, Dup.rin, Dup.rset, Dup.sall, Dup.slit, Dup.part3, Dup.join, *]
        | (refine allK_intro fun n hn => ?_; try simp only [fresh_set] at hn)
        | (refine ifK_intro (fun h => ?_) (fun h => ?_) <;> (try simp only [decide_eq_true_eq, decide_eq_false_iff_not, Bool.not_eq_true', Bool.not_eq_false'] at h) <;> try (exfalso; (try simp only [beq_iff_eq, beq_eq_false_iff_ne, bne_iff_ne, bne_eq_false_iff_eq, ne_eq] at h); omega))
        | (refine keeps_sub (Mem.sub_set (by simp [Mem.set_at, nomem, *])) ?_)
      refine hyield k y _ mI _ _ _ hmrg hI hsub (fun M' m' ⟨hr, hk'⟩ hI' hs' hf => ?_) (fun M' m' hS hs' => ?_)
      · obtain ⟨f4, g4⟩ := hf n4 _ hI4 h4
        obtain ⟨f6, g6⟩ := hf n6 _ hI6 h6
        repeat' first
          | simp -dsimp (disch := omega) only [↓rulesA, rulesB, rulesC, Int.reduceLT, nth, upd, put, storeN, AV.one, Nat.reduceBEq, Nat.reduceBNe, Int.reduceBEq, Int.reduceBNe, Int.reduceLE, boolBin, strBin, intBin, unA, buildA, placesA, fillA, ne_eq, reduceCtorEq, Nat.reduceAdd, Nat.reduceSub, Nat.reduceLeDiff, Nat.reduceLT, Nat.reduceEqDiff, Int.reduceToNat, eq_self, rulesT, len_22, ix_22, rhi_22, rlo_22, rlohi_22, Dup.g0, Dup.g1, Dup.g2, Dup.g3, Dup.g4, Dup.g5, Dup.g6, Dup.len, Dup.take, Dup.all, Dup.drop, Dup.rlen, Dup.rat, Dup.rat0, Dup.rpart, Dup.rin, Dup.rset, Dup.sall, Dup.slit, Dup.part3, Dup.join, *]
          | (refine allK_intro fun n hn => ?_; try simp only [fresh_set] at hn)
          | (refine ifK_intro (fun h => ?_) (fun h => ?_) <;> (try simp only [decide_eq_true_eq, decide_eq_false_iff_not, Bool.not_eq_true', Bool.not_eq_false'] at h) <;> try (exfalso; (try simp only [beq_iff_eq, beq_eq_false_iff_ne, bne_iff_ne, bne_eq_false_iff_eq, ne_eq] at h); omega))
          | (refine keeps_sub (Mem.sub_set (by simp [Mem.set_at, nomem, *])) ?_)
        refine again_intro (a.length - (i + 1)) (by omega) M' (Mem.sub.refl _) ⟨i + 1, k + 1, [], m', by omega, rfl, by simp, hr, hk', hI', hs', f4, f6, g4, g6, ?_, ?_, ?_, ?_, ?_, ?_, ?_, ?_, ?_⟩
        all_goals try simp only [List.length_nil, Nat.lt_irrefl, decide_false]
        all_goals try (simp (disch := omega) only [nth_upd, pickB_true, pickB_false, inB_lt, upd_len, cast_succ, Nat.reduceBEq, beq_self_eq_true, reduceCtorEq, *]; done)
      · repeat' first
          | simp -dsimp (disch := omega) only [↓rulesA, rulesB, rulesC, Int.reduceLT, nth, upd, put, storeN, AV.one, Nat.reduceBEq, Nat.reduceBNe, Int.reduceBEq, Int.reduceBNe, Int.reduceLE, boolBin, strBin, intBin, unA, buildA, placesA, fillA, ne_eq, reduceCtorEq, Nat.reduceAdd, Nat.reduceSub, Nat.reduceLeDiff, Nat.reduceLT, Nat.reduceEqDiff, Int.reduceToNat, eq_self, rulesT, len_22, ix_22, rhi_22, rlo_22, rlohi_22, Dup.g0, Dup.g1, Dup.g2, Dup.g3, Dup.g4, Dup.g5, Dup.g6, Dup.len, Dup.take, Dup.all, Dup.drop, Dup.rlen, Dup.rat, Dup.rat0, Dup.rpart, Dup.rin, Dup.rset, Dup.sall, Dup.slit, Dup.part3, Dup.join, *]
          | (refine allK_intro fun n hn => ?_; try simp only [fresh_set] at hn)
          | (refine ifK_intro (fun h => ?_) (fun h => ?_) <;> (try simp only [decide_eq_true_eq, decide_eq_false_iff_not, Bool.not_eq_true', Bool.not_eq_false'] at h) <;> try (exfalso; (try simp only [beq_iff_eq, beq_eq_false_iff_ne, bne_iff_ne, bne_eq_false_iff_eq, ne_eq] at h); omega))
          | (refine keeps_sub (Mem.sub_set (by simp [Mem.set_at, nomem, *])) ?_)
        exact Turns.sub hs' (hstop _ hS)
    · replace e7 : nth env 7 = .val (.bool true) := by rw [e7]; simp
      replace h4 : m n4 = some (.cells false 22 [.vs (r.map Dup.cells) xb]) := h4
      replace h6 : m n6 = some (.cells false 39 x.cells) := h6
      have hrl : r.length ≤ 140737488355328 := by simp at hcur; omega
      repeat' first
        | simp -dsimp (disch := omega) only [↓rulesA, rulesB, rulesC, Int.reduceLT, nth, upd, put, storeN, AV.one, Nat.reduceBEq, Nat.reduceBNe, Int.reduceBEq, Int.reduceBNe, Int.reduceLE, boolBin, strBin, intBin, unA, buildA, placesA, fillA, ne_eq, reduceCtorEq, Nat.reduceAdd, Nat.reduceSub, Nat.reduceLeDiff, Nat.reduceLT, Nat.reduceEqDiff, Int.reduceToNat, eq_self, rulesT, len_22, ix_22, rhi_22, rlo_22, rlohi_22, Dup.g0, Dup.g1, Dup.g2, Dup.g3, Dup.g4, Dup.g5, Dup.g6, Dup.len, Dup.take, Dup.all, Dup.drop, Dup.rlen, Dup.rat, Dup.rat0, Dup.rpart, Dup.rin, Dup.rset, Dup.sall, Dup.slit, Dup.part3, Dup.join, fl_65, *]
        | (refine allK_intro fun n hn => ?_; try simp only [fresh_set] at hn)
        | (refine ifK_intro (fun h => ?_) (fun h => ?_) <;> (try simp only [decide_eq_true_eq, decide_eq_false_iff_not, Bool.not_eq_true', Bool.not_eq_false'] at h) <;> try (exfalso; (try simp only [beq_iff_eq, beq_eq_false_iff_ne, bne_iff_ne, bne_eq_false_iff_eq, ne_eq] at h); omega))
        | (refine keeps_sub (Mem.sub_set (by simp [Mem.set_at, nomem, *])) ?_)
        | (refine call_F (F32 _) (Seens.refl _ _) ?_)
        | (refine pure_F (F32 _) (Seens.refl _ _) ?_)
        | (refine call_F (F31 _ _ _ _) (Seens.refl _ _) ?_)
        | (refine pure_F (F31 _ _ _ _) (Seens.refl _ _) ?_)
      · rw [mrg_low _ _ (by assumption)] at hmrg
        refine hyield k x _ mI _ _ _ hmrg hI hsub (fun M' m' ⟨hr, hk'⟩ hI' hs' hf => ?_) (fun M' m' hS hs' => ?_)
        · obtain ⟨f4, g4⟩ := hf n4 _ hI4 h4
          obtain ⟨f6, g6⟩ := hf n6 _ hI6 h6
          obtain ⟨f9, g9⟩ := hf n9 _ hI9 h9
          repeat' first
            | simp -dsimp (disch := omega) only [↓rulesA, rulesB, rulesC, Int.reduceLT, nth, upd, put, storeN, AV.one, Nat.reduceBEq, Nat.reduceBNe, Int.reduceBEq, Int.reduceBNe, Int.reduceLE, boolBin, strBin, intBin, unA, buildA, placesA, fillA, ne_eq, reduceCtorEq, Nat.reduceAdd, Nat.reduceSub, Nat.reduceLeDiff, Nat.reduceLT, Nat.reduceEqDiff, Int.reduceToNat, eq_self, rulesT, len_22, ix_22, rhi_22, rlo_22, rlohi_22, Dup.g0, Dup.g1, Dup.g2, Dup.g3, Dup.g4, Dup.g5, Dup.g6, Dup.len, Dup.take, Dup.all, Dup.drop, Dup.rlen, Dup.rat, Dup.rat0, Dup.rpart, Dup.rin, Dup.rset, Dup.sall, Dup.slit, Dup.part3, Dup.join, *]
            | (refine allK_intro fun n hn => ?_; try simp only [fresh_set] at hn)
            | (refine ifK_intro (fun h => ?_) (fun h => ?_) <;> (try simp only [decide_eq_true_eq, decide_eq_false_iff_not, Bool.not_eq_true', Bool.not_eq_false'] at h) <;> try (exfalso; (try simp only [beq_iff_eq, beq_eq_false_iff_ne, bne_iff_ne, bne_eq_false_iff_eq, ne_eq] at h); omega))
            | (refine keeps_sub (Mem.sub_set (by simp [Mem.set_at, nomem, *])) ?_)
          refine call_obj (C47 r xb n4 hrl) g4 fun r m' hr => ?_
          obtain ⟨rfl, rfl⟩ := hr
          refine ⟨_, rfl, ?_⟩
          repeat' first
            | simp -dsimp (disch := omega) only [↓rulesA, rulesB, rulesC, Int.reduceLT, nth, upd, put, storeN, AV.one, Nat.reduceBEq, Nat.reduceBNe, Int.reduceBEq, Int.reduceBNe, Int.reduceLE, boolBin, strBin, intBin, unA, buildA, placesA, fillA, ne_eq, reduceCtorEq, Nat.reduceAdd, Nat.reduceSub, Nat.reduceLeDiff, Nat.reduceLT, Nat.reduceEqDiff, Int.reduceToNat, eq_self, rulesT, len_22, ix_22, rhi_22, rlo_22, rlohi_22, Dup.g0, Dup.g1, Dup.g2, Dup.g3, Dup.g4, Dup.g5, Dup.g6, Dup.len, Dup.take, Dup.all, Dup.drop, Dup.rlen, Dup.rat, Dup.rat0, Dup.rpart, Dup.rin, Dup.rset, Dup.sall, Dup.slit, Dup.part3, Dup.join, *]
            | (refine allK_intro fun n hn => ?_; try simp only [fresh_set] at hn)
            | (refine ifK_intro (fun h => ?_) (fun h => ?_) <;> (try simp only [decide_eq_true_eq, decide_eq_false_iff_not, Bool.not_eq_true', Bool.not_eq_false'] at h) <;> try (exfalso; (try simp only [beq_iff_eq, beq_eq_false_iff_ne, bne_iff_ne, bne_eq_false_iff_eq, ne_eq] at h); omega))
            | (refine keeps_sub (Mem.sub_set (by simp [Mem.set_at, nomem, *])) ?_)
          refine again_intro r.length (by simp) _ (Mem.sub.refl _) ⟨k + 1, r, m', rfl, hrl, hr, hk', hI', Mem.sub_set_new (Mem.sub_set_new hs' f4) f6, f4, f6, f9, ?_, ?_, ?_, ?_, ?_, ?_, ?_, ?_, ?_, ?_, ?_, ?_, ?_⟩
          all_goals try (simp (disch := omega) only [nth_upd, pickB_true, pickB_false, inB_lt, upd_len, cast_succ, Nat.reduceBEq, beq_self_eq_true, reduceCtorEq, *]; done)
          all_goals simp [Mem.set_at, *]
        · repeat' first
            | simp -dsimp (disch := omega) only [↓rulesA, rulesB, rulesC, Int.reduceLT, nth, upd, put, storeN, AV.one, Nat.reduceBEq, Nat.reduceBNe, Int.reduceBEq, Int.reduceBNe, Int.reduceLE, boolBin, strBin, intBin, unA, buildA, placesA, fillA, ne_eq, reduceCtorEq, Nat.reduceAdd, Nat.reduceSub, Nat.reduceLeDiff, Nat.reduceLT, Nat.reduceEqDiff, Int.reduceToNat, eq_self, rulesT, len_22, ix_22, rhi_22, rlo_22, rlohi_22, Dup.g0, Dup.g1, Dup.g2, Dup.g3, Dup.g4, Dup.g5, Dup.g6, Dup.len, Dup.take, Dup.all, Dup.drop, Dup.rlen, Dup.rat, Dup.rat0, Dup.rpart, Dup.rin, Dup.rset, Dup.sall, Dup.slit, Dup.part3, Dup.join, *]
            | (refine allK_intro fun n hn => ?_; try simp only [fresh_set] at hn)
            | (refine ifK_intro (fun h => ?_) (fun h => ?_) <;> (try simp only [decide_eq_true_eq, decide_eq_false_iff_not, Bool.not_eq_true', Bool.not_eq_false'] at h) <;> try (exfalso; (try simp only [beq_iff_eq, beq_eq_false_iff_ne, bne_iff_ne, bne_eq_false_iff_eq, ne_eq] at h); omega))
            | (refine keeps_sub (Mem.sub_set (by simp [Mem.set_at, nomem, *])) ?_)
          exact Turns.sub hs' (hstop _ hS)
      · rw [mrg_same _ _ (by simpa using ‹(x.client == y.client) = true›), win, if_pos (by assumption)] at hmrg
        refine call_obj (C47 r xb n4 hrl) (b := .cells false 22 [.vs (r.map Dup.cells) xb]) (by rw [Mem.set_ne _ _ n49]; exact h4) fun r m' hr => ?_
        obtain ⟨rfl, rfl⟩ := hr
        refine ⟨_, rfl, ?_⟩
        repeat' first
          | simp -dsimp (disch := omega) only [↓rulesA, rulesB, rulesC, Int.reduceLT, nth, upd, put, storeN, AV.one, Nat.reduceBEq, Nat.reduceBNe, Int.reduceBEq, Int.reduceBNe, Int.reduceLE, boolBin, strBin, intBin, unA, buildA, placesA, fillA, ne_eq, reduceCtorEq, Nat.reduceAdd, Nat.reduceSub, Nat.reduceLeDiff, Nat.reduceLT, Nat.reduceEqDiff, Int.reduceToNat, eq_self, rulesT, len_22, ix_22, rhi_22, rlo_22, rlohi_22, Dup.g0, Dup.g1, Dup.g2, Dup.g3, Dup.g4, Dup.g5, Dup.g6, Dup.len, Dup.take, Dup.all, Dup.drop, Dup.rlen, Dup.rat, Dup.rat0, Dup.rpart, Dup.rin, Dup.rset, Dup.sall, Dup.slit, Dup.part3, Dup.join, *]
          | (refine allK_intro fun n hn => ?_; try simp only [fresh_set] at hn)
          | (refine ifK_intro (fun h => ?_) (fun h => ?_) <;> (try simp only [decide_eq_true_eq, decide_eq_false_iff_not, Bool.not_eq_true', Bool.not_eq_false'] at h) <;> try (exfalso; (try simp only [beq_iff_eq, beq_eq_false_iff_ne, bne_iff_ne, bne_eq_false_iff_eq, ne_eq] at h); omega))
          | (refine keeps_sub (Mem.sub_set (by simp [Mem.set_at, nomem, *])) ?_)
        refine hyield k x _ mI _ _ _ hmrg hI (Mem.sub_set_new (Mem.sub_set_new (Mem.sub_set_new hsub hI9) hI4) hI6) (fun M' m' ⟨hr, hk'⟩ hI' hs' hf => ?_) (fun M' m' hS hs' => ?_)
        · obtain ⟨f4, g4⟩ := hf n4 (.cells false 22 [.vs ((r.drop 1).map Dup.cells) xb]) hI4 (by simp [Mem.set_at, *])
          obtain ⟨f6, g6⟩ := hf n6 (.cells false 39 (r.getD 0 default).cells) hI6 (by simp [Mem.set_at, *])
          repeat' first
            | simp -dsimp (disch := omega) only [↓rulesA, rulesB, rulesC, Int.reduceLT, nth, upd, put, storeN, AV.one, Nat.reduceBEq, Nat.reduceBNe, Int.reduceBEq, Int.reduceBNe, Int.reduceLE, boolBin, strBin, intBin, unA, buildA, placesA, fillA, ne_eq, reduceCtorEq, Nat.reduceAdd, Nat.reduceSub, Nat.reduceLeDiff, Nat.reduceLT, Nat.reduceEqDiff, Int.reduceToNat, eq_self, rulesT, len_22, ix_22, rhi_22, rlo_22, rlohi_22, Dup.g0, Dup.g1, Dup.g2, Dup.g3, Dup.g4, Dup.g5, Dup.g6, Dup.len, Dup.take, Dup.all, Dup.drop, Dup.rlen, Dup.rat, Dup.rat0, Dup.rpart, Dup.rin, Dup.rset, Dup.sall, Dup.slit, Dup.part3, Dup.join, *]
            | (refine allK_intro fun n hn => ?_; try simp only [fresh_set] at hn)
            | (refine ifK_intro (fun h => ?_) (fun h => ?_) <;> (try simp only [decide_eq_true_eq, decide_eq_false_iff_not, Bool.not_eq_true', Bool.not_eq_false'] at h) <;> try (exfalso; (try simp only [beq_iff_eq, beq_eq_false_iff_ne, bne_iff_ne, bne_eq_false_iff_eq, ne_eq] at h); omega))
            | (refine keeps_sub (Mem.sub_set (by simp [Mem.set_at, nomem, *])) ?_)
          refine again_intro (a.length - (i + 1)) (by omega) M' (Mem.sub.refl _) ⟨i + 1, k + 1, r, m', by omega, rfl, hrl, hr, hk', hI', hs', f4, f6, g4, g6, ?_, ?_, ?_, ?_, ?_, ?_, ?_, ?_, ?_⟩
          all_goals try (simp (disch := omega) only [nth_upd, pickB_true, pickB_false, inB_lt, upd_len, cast_succ, Nat.reduceBEq, beq_self_eq_true, reduceCtorEq, *]; done)
        · repeat' first
            | simp -dsimp (disch := omega) only [↓rulesA, rulesB, rulesC, Int.reduceLT, nth, upd, put, storeN, AV.one, Nat.reduceBEq, Nat.reduceBNe, Int.reduceBEq, Int.reduceBNe, Int.reduceLE, boolBin, strBin, intBin, unA, buildA, placesA, fillA, ne_eq, reduceCtorEq, Nat.reduceAdd, Nat.reduceSub, Nat.reduceLeDiff, Nat.reduceLT, Nat.reduceEqDiff, Int.reduceToNat, eq_self, rulesT, len_22, ix_22, rhi_22, rlo_22, rlohi_22, Dup.g0, Dup.g1, Dup.g2, Dup.g3, Dup.g4, Dup.g5, Dup.g6, Dup.len, Dup.take, Dup.all, Dup.drop, Dup.rlen, Dup.rat, Dup.rat0, Dup.rpart, Dup.rin, Dup.rset, Dup.sall, Dup.slit, Dup.part3, Dup.join, *]
            | (refine allK_intro fun n hn => ?_; try simp only [fresh_set] at hn)
            | (refine ifK_intro (fun h => ?_) (fun h => ?_) <;> (try simp only [decide_eq_true_eq, decide_eq_false_iff_not, Bool.not_eq_true', Bool.not_eq_false'] at h) <;> try (exfalso; (try simp only [beq_iff_eq, beq_eq_false_iff_ne, bne_iff_ne, bne_eq_false_iff_eq, ne_eq] at h); omega))
            | (refine keeps_sub (Mem.sub_set (by simp [Mem.set_at, nomem, *])) ?_)
          exact Turns.sub hs' (hstop _ hS)
      · rw [mrg_same _ _ (by simpa using ‹(x.client == y.client) = true›), win, if_neg (by simp [*])] at hmrg
        refine call_obj (C47 r xb n4 hrl) h4 fun r m' hr => ?_
        obtain ⟨rfl, rfl⟩ := hr
        refine ⟨_, rfl, ?_⟩
        repeat' first
          | simp -dsimp (disch := omega) only [↓rulesA, rulesB, rulesC, Int.reduceLT, nth, upd, put, storeN, AV.one, Nat.reduceBEq, Nat.reduceBNe, Int.reduceBEq, Int.reduceBNe, Int.reduceLE, boolBin, strBin, intBin, unA, buildA, placesA, fillA, ne_eq, reduceCtorEq, Nat.reduceAdd, Nat.reduceSub, Nat.reduceLeDiff, Nat.reduceLT, Nat.reduceEqDiff, Int.reduceToNat, eq_self, rulesT, len_22, ix_22, rhi_22, rlo_22, rlohi_22, Dup.g0, Dup.g1, Dup.g2, Dup.g3, Dup.g4, Dup.g5, Dup.g6, Dup.len, Dup.take, Dup.all, Dup.drop, Dup.rlen, Dup.rat, Dup.rat0, Dup.rpart, Dup.rin, Dup.rset, Dup.sall, Dup.slit, Dup.part3, Dup.join, *]
          | (refine allK_intro fun n hn => ?_; try simp only [fresh_set] at hn)
          | (refine ifK_intro (fun h => ?_) (fun h => ?_) <;> (try simp only [decide_eq_true_eq, decide_eq_false_iff_not, Bool.not_eq_true', Bool.not_eq_false'] at h) <;> try (exfalso; (try simp only [beq_iff_eq, beq_eq_false_iff_ne, bne_iff_ne, bne_eq_false_iff_eq, ne_eq] at h); omega))
          | (refine keeps_sub (Mem.sub_set (by simp [Mem.set_at, nomem, *])) ?_)
        refine hyield k y _ mI _ _ _ hmrg hI (Mem.sub_set_new (Mem.sub_set_new hsub hI4) hI6) (fun M' m' ⟨hr, hk'⟩ hI' hs' hf => ?_) (fun M' m' hS hs' => ?_)
        · obtain ⟨f4, g4⟩ := hf n4 (.cells false 22 [.vs ((r.drop 1).map Dup.cells) xb]) hI4 (by simp [Mem.set_at, *])
          obtain ⟨f6, g6⟩ := hf n6 (.cells false 39 (r.getD 0 default).cells) hI6 (by simp [Mem.set_at, *])
          repeat' first
            | simp -dsimp (disch := omega) only [↓rulesA, rulesB, rulesC, Int.reduceLT, nth, upd, put, storeN, AV.one, Nat.reduceBEq, Nat.reduceBNe, Int.reduceBEq, Int.reduceBNe, Int.reduceLE, boolBin, strBin, intBin, unA, buildA, placesA, fillA, ne_eq, reduceCtorEq, Nat.reduceAdd, Nat.reduceSub, Nat.reduceLeDiff, Nat.reduceLT, Nat.reduceEqDiff, Int.reduceToNat, eq_self, rulesT, len_22, ix_22, rhi_22, rlo_22, rlohi_22, Dup.g0, Dup.g1, Dup.g2, Dup.g3, Dup.g4, Dup.g5, Dup.g6, Dup.len, Dup.take, Dup.all, Dup.drop, Dup.rlen, Dup.rat, Dup.rat0, Dup.rpart, Dup.rin, Dup.rset, Dup.sall, Dup.slit, Dup.part3, Dup.join, *]
            | (refine allK_intro fun n hn => ?_; try simp only [fresh_set] at hn)
            | (refine ifK_intro (fun h => ?_) (fun h => ?_) <;> (try simp only [decide_eq_true_eq, decide_eq_false_iff_not, Bool.not_eq_true', Bool.not_eq_false'] at h) <;> try (exfalso; (try simp only [beq_iff_eq, beq_eq_false_iff_ne, bne_iff_ne, bne_eq_false_iff_eq, ne_eq] at h); omega))
            | (refine keeps_sub (Mem.sub_set (by simp [Mem.set_at, nomem, *])) ?_)
          refine again_intro (a.length - (i + 1)) (by omega) M' (Mem.sub.refl _) ⟨i + 1, k + 1, r, m', by omega, rfl, hrl, hr, hk', hI', hs', f4, f6, g4, g6, ?_, ?_, ?_, ?_, ?_, ?_, ?_, ?_, ?_⟩
          all_goals try (simp (disch := omega) only [nth_upd, pickB_true, pickB_false, inB_lt, upd_len, cast_succ, Nat.reduceBEq, beq_self_eq_true, reduceCtorEq, *]; done)
        · repeat' first
            | simp -dsimp (disch := omega) only [↓rulesA, rulesB, rulesC, Int.reduceLT, nth, upd, put, storeN, AV.one, Nat.reduceBEq, Nat.reduceBNe, Int.reduceBEq, Int.reduceBNe, Int.reduceLE, boolBin, strBin, intBin, unA, buildA, placesA, fillA, ne_eq, reduceCtorEq, Nat.reduceAdd, Nat.reduceSub, Nat.reduceLeDiff, Nat.reduceLT, Nat.reduceEqDiff, Int.reduceToNat, eq_self, rulesT, len_22, ix_22, rhi_22, rlo_22, rlohi_22, Dup.g0, Dup.g1, Dup.g2, Dup.g3, Dup.g4, Dup.g5, Dup.g6, Dup.len, Dup.take, Dup.all, Dup.drop, Dup.rlen, Dup.rat, Dup.rat0, Dup.rpart, Dup.rin, Dup.rset, Dup.sall, Dup.slit, Dup.part3, Dup.join, *]
            | (refine allK_intro fun n hn => ?_; try simp only [fresh_set] at hn)
            | (refine ifK_intro (fun h => ?_) (fun h => ?_) <;> (try simp only [decide_eq_true_eq, decide_eq_false_iff_not, Bool.not_eq_true', Bool.not_eq_false'] at h) <;> try (exfalso; (try simp only [beq_iff_eq, beq_eq_false_iff_ne, bne_iff_ne, bne_eq_false_iff_eq, ne_eq] at h); omega))
            | (refine keeps_sub (Mem.sub_set (by simp [Mem.set_at, nomem, *])) ?_)
          exact Turns.sub hs' (hstop _ hS)
      · have hne' : ¬ x.client = y.client := by simpa using ‹(x.client == y.client) = false›
        rw [mrg_high _ _ (by omega)] at hmrg
        refine hyield k y _ mI _ _ _ hmrg hI hsub (fun M' m' ⟨hr, hk'⟩ hI' hs' hf => ?_) (fun M' m' hS hs' => ?_)
        · obtain ⟨f4, g4⟩ := hf n4 _ hI4 h4
          obtain ⟨f6, g6⟩ := hf n6 _ hI6 h6
          repeat' first
            | simp -dsimp (disch := omega) only [↓rulesA, rulesB, rulesC, Int.reduceLT, nth, upd, put, storeN, AV.one, Nat.reduceBEq, Nat.reduceBNe, Int.reduceBEq, Int.reduceBNe, Int.reduceLE, boolBin, strBin, intBin, unA, buildA, placesA, fillA, ne_eq, reduceCtorEq, Nat.reduceAdd, Nat.reduceSub, Nat.reduceLeDiff, Nat.reduceLT, Nat.reduceEqDiff, Int.reduceToNat, eq_self, rulesT, len_22, ix_22, rhi_22, rlo_22, rlohi_22, Dup.g0, Dup.g1, Dup.g2, Dup.g3, Dup.g4, Dup.g5, Dup.g6, Dup.len, Dup.take, Dup.all, Dup.drop, Dup.rlen, Dup.rat, Dup.rat0, Dup.rpart, Dup.rin, Dup.rset, Dup.sall, Dup.slit, Dup.part3, Dup.join, *]
            | (refine allK_intro fun n hn => ?_; try simp only [fresh_set] at hn)
            | (refine ifK_intro (fun h => ?_) (fun h => ?_) <;> (try simp only [decide_eq_true_eq, decide_eq_false_iff_not, Bool.not_eq_true', Bool.not_eq_false'] at h) <;> try (exfalso; (try simp only [beq_iff_eq, beq_eq_false_iff_ne, bne_iff_ne, bne_eq_false_iff_eq, ne_eq] at h); omega))
            | (refine keeps_sub (Mem.sub_set (by simp [Mem.set_at, nomem, *])) ?_)
          refine again_intro (a.length - (i + 1)) (by omega) M' (Mem.sub.refl _) ⟨i + 1, k + 1, x :: r, m', by omega, rfl, hcur, hr, hk', hI', hs', f4, f6, g4, g6, ?_, ?_, ?_, ?_, ?_, ?_, ?_, ?_, ?_⟩
          all_goals try simp only [List.length_cons, Nat.zero_lt_succ, decide_true]
          all_goals try (simp (disch := omega) only [nth_upd, pickB_true, pickB_false, inB_lt, upd_len, cast_succ, Nat.reduceBEq, beq_self_eq_true, reduceCtorEq, *]; done)
        · repeat' first
            | simp -dsimp (disch := omega) only [↓rulesA, rulesB, rulesC, Int.reduceLT, nth, upd, put, storeN, AV.one, Nat.reduceBEq, Nat.reduceBNe, Int.reduceBEq, Int.reduceBNe, Int.reduceLE, boolBin, strBin, intBin, unA, buildA, placesA, fillA, ne_eq, reduceCtorEq, Nat.reduceAdd, Nat.reduceSub, Nat.reduceLeDiff, Nat.reduceLT, Nat.reduceEqDiff, Int.reduceToNat, eq_self, rulesT, len_22, ix_22, rhi_22, rlo_22, rlohi_22, Dup.g0, Dup.g1, Dup.g2, Dup.g3, Dup.g4, Dup.g5, Dup.g6, Dup.len, Dup.take, Dup.all, Dup.drop, Dup.rlen, Dup.rat, Dup.rat0, Dup.rpart, Dup.rin, Dup.rset, Dup.sall, Dup.slit, Dup.part3, Dup.join, *]
            | (refine allK_intro fun n hn => ?_; try simp only [fresh_set] at hn)
            | (refine ifK_intro (fun h => ?_) (fun h => ?_) <;> (try simp only [decide_eq_true_eq, decide_eq_false_iff_not, Bool.not_eq_true', Bool.not_eq_false'] at h) <;> try (exfalso; (try simp only [beq_iff_eq, beq_eq_false_iff_ne, bne_iff_ne, bne_eq_false_iff_eq, ne_eq] at h); omega))
            | (refine keeps_sub (Mem.sub_set (by simp [Mem.set_at, nomem, *])) ?_)
          exact Turns.sub hs' (hstop _ hS)
  · have hia : i = a.length := by omega
    subst hia
    rw [List.drop_eq_nil_of_le (Nat.le_refl _), mrg_done] at hmrg
    have n46 := Ne.symm hne
    refine loop_intro (fun j env m => ∃ (k : Nat) (cur : List Dup) (mI : Mem), j = cur.length ∧ cur.length ≤ 140737488355328 ∧ cur = (mrg a b).drop k ∧ k ≤ (mrg a b).length ∧ I k mI ∧ mI.sub m ∧ mI n4 = none ∧ mI n6 = none ∧
      m n4 = some (.cells false 22 [.vs ((cur.drop 1).map Dup.cells) xb]) ∧ m n6 = some (.cells false 39 (cur.getD 0 default).cells) ∧ env.length = 76 ∧ nth env 0 = .yld ny ∧ nth env 4 = .ptr n4 0 ∧ nth env 5 = .fn (.func 47) [] [.ptr n4 0] ∧ nth env 6 = .ptr n6 0 ∧
      nth env 7 = .val (.bool (decide (0 < cur.length)))) cur.length _ (Mem.sub.refl _)
      ⟨k, cur, mI, rfl, hcur, hmrg, hk, hI, hsub, hI4, hI6, h4, h6, ?_, ?_, ?_, ?_, ?_, ?_⟩ ?_
    · simp only [upd_len]; exact hlen
    all_goals try (simp (disch := omega) only [nth_upd, pickB_true, pickB_false, inB_lt, upd_len, cast_succ, Nat.reduceBEq, beq_self_eq_true, reduceCtorEq, *]; done)
    clear hmrg hI hsub hI4 hI6 h4 h6 hlen e0 e4 e5 e6 e7 e17 e18 e19 hcur hk env m k cur mI
    rintro j env m ⟨k, cur, mI, rfl, hcur, hmrg, hk, hI, hsub, hI4, hI6, h4, h6, hlen, e0, e4, e5, e6, e7⟩
    rcases cur with _ | ⟨x, r⟩
    · replace e7 : nth env 7 = .val (.bool false) := e7
      repeat' first
        | simp -dsimp (disch := omega) only [↓rulesA, rulesB, rulesC, Int.reduceLT, nth, upd, put, storeN, AV.one, Nat.reduceBEq, Nat.reduceBNe, Int.reduceBEq, Int.reduceBNe, Int.reduceLE, boolBin, strBin, intBin, unA, buildA, placesA, fillA, ne_eq, reduceCtorEq, Nat.reduceAdd, Nat.reduceSub, Nat.reduceLeDiff, Nat.reduceLT, Nat.reduceEqDiff, Int.reduceToNat, eq_self, rulesT, len_22, ix_22, rhi_22, rlo_22, rlohi_22, Dup.g0, Dup.g1, Dup.g2, Dup.g3, Dup.g4, Dup.g5, Dup.g6, Dup.len, Dup.take, Dup.all, Dup.drop, Dup.rlen, Dup.rat, Dup.rat0, Dup.rpart, Dup.rin, Dup.rset, Dup.sall, Dup.slit, Dup.part3, Dup.join, *]
        | (refine allK_intro fun n hn => ?_; try simp only [fresh_set] at hn)
        | (refine ifK_intro (fun h => ?_) (fun h => ?_) <;> (try simp only [decide_eq_true_eq, decide_eq_false_iff_not, Bool.not_eq_true', Bool.not_eq_false'] at h) <;> try (exfalso; (try simp only [beq_iff_eq, beq_eq_false_iff_ne, bne_iff_ne, bne_eq_false_iff_eq, ne_eq] at h); omega))
        | (refine keeps_sub (Mem.sub_set (by simp [Mem.set_at, nomem, *])) ?_)
      have : k = (mrg a b).length := by
        have := congrArg List.length hmrg
        simp at this
        omega
      subst this
      refine Turns.sub hsub (hend _ ?_)
      simpa using hI
    · replace e7 : nth env 7 = .val (.bool true) := by rw [e7]; simp
      replace h4 : m n4 = some (.cells false 22 [.vs (r.map Dup.cells) xb]) := h4
      replace h6 : m n6 = some (.cells false 39 x.cells) := h6
      replace hmrg : Kept (x :: r = _) := hmrg
      have hrl : r.length ≤ 140737488355328 := by simp at hcur; omega
      repeat' first
        | simp -dsimp (disch := omega) only [↓rulesA, rulesB, rulesC, Int.reduceLT, nth, upd, put, storeN, AV.one, Nat.reduceBEq, Nat.reduceBNe, Int.reduceBEq, Int.reduceBNe, Int.reduceLE, boolBin, strBin, intBin, unA, buildA, placesA, fillA, ne_eq, reduceCtorEq, Nat.reduceAdd, Nat.reduceSub, Nat.reduceLeDiff, Nat.reduceLT, Nat.reduceEqDiff, Int.reduceToNat, eq_self, rulesT, len_22, ix_22, rhi_22, rlo_22, rlohi_22, Dup.g0, Dup.g1, Dup.g2, Dup.g3, Dup.g4, Dup.g5, Dup.g6, Dup.len, Dup.take, Dup.all, Dup.drop, Dup.rlen, Dup.rat, Dup.rat0, Dup.rpart, Dup.rin, Dup.rset, Dup.sall, Dup.slit, Dup.part3, Dup.join, *]
        | (refine allK_intro fun n hn => ?_; try simp only [fresh_set] at hn)
        | (refine ifK_intro (fun h => ?_) (fun h => ?_) <;> (try simp only [decide_eq_true_eq, decide_eq_false_iff_not, Bool.not_eq_true', Bool.not_eq_false'] at h) <;> try (exfalso; (try simp only [beq_iff_eq, beq_eq_false_iff_ne, bne_iff_ne, bne_eq_false_iff_eq, ne_eq] at h); omega))
        | (refine keeps_sub (Mem.sub_set (by simp [Mem.set_at, nomem, *])) ?_)
      refine hyield k x _ mI _ _ _ hmrg hI hsub (fun M' m' hr hI' hs' hf => ?_) (fun M' m' hS hs' => ?_)
      · have hk' := hr.2
        replace hr : Kept (r = _) := hr.1
        obtain ⟨f4, g4⟩ := hf n4 _ hI4 h4
        obtain ⟨f6, g6⟩ := hf n6 _ hI6 h6
        repeat' first
          | simp -dsimp (disch := omega) only [↓rulesA, rulesB, rulesC, Int.reduceLT, nth, upd, put, storeN, AV.one, Nat.reduceBEq, Nat.reduceBNe, Int.reduceBEq, Int.reduceBNe, Int.reduceLE, boolBin, strBin, intBin, unA, buildA, placesA, fillA, ne_eq, reduceCtorEq, Nat.reduceAdd, Nat.reduceSub, Nat.reduceLeDiff, Nat.reduceLT, Nat.reduceEqDiff, Int.reduceToNat, eq_self, rulesT, len_22, ix_22, rhi_22, rlo_22, rlohi_22, Dup.g0, Dup.g1, Dup.g2, Dup.g3, Dup.g4, Dup.g5, Dup.g6, Dup.len, Dup.take, Dup.all, Dup.drop, Dup.rlen, Dup.rat, Dup.rat0, Dup.rpart, Dup.rin, Dup.rset, Dup.sall, Dup.slit, Dup.part3, Dup.join, *]
          | (refine allK_intro fun n hn => ?_; try simp only [fresh_set] at hn)
          | (refine ifK_intro (fun h => ?_) (fun h => ?_) <;> (try simp only [decide_eq_true_eq, decide_eq_false_iff_not, Bool.not_eq_true', Bool.not_eq_false'] at h) <;> try (exfalso; (try simp only [beq_iff_eq, beq_eq_false_iff_ne, bne_iff_ne, bne_eq_false_iff_eq, ne_eq] at h); omega))
          | (refine keeps_sub (Mem.sub_set (by simp [Mem.set_at, nomem, *])) ?_)
        refine call_obj (C47 r xb n4 hrl) g4 fun r0 m0 hr0 => ?_
        obtain ⟨rfl, rfl⟩ := hr0
        refine ⟨_, rfl, ?_⟩
        repeat' first
          | simp -dsimp (disch := omega) only [↓rulesA, rulesB, rulesC, Int.reduceLT, nth, upd, put, storeN, AV.one, Nat.reduceBEq, Nat.reduceBNe, Int.reduceBEq, Int.reduceBNe, Int.reduceLE, boolBin, strBin, intBin, unA, buildA, placesA, fillA, ne_eq, reduceCtorEq, Nat.reduceAdd, Nat.reduceSub, Nat.reduceLeDiff, Nat.reduceLT, Nat.reduceEqDiff, Int.reduceToNat, eq_self, rulesT, len_22, ix_22, rhi_22, rlo_22, rlohi_22, Dup.g0, Dup.g1, Dup.g2, Dup.g3, Dup.g4, Dup.g5, Dup.g6, Dup.len, Dup.take, Dup.all, Dup.drop, Dup.rlen, Dup.rat, Dup.rat0, Dup.rpart, Dup.rin, Dup.rset, Dup.sall, Dup.slit, Dup.part3, Dup.join, *]
          | (refine allK_intro fun n hn => ?_; try simp only [fresh_set] at hn)
          | (refine ifK_intro (fun h => ?_) (fun h => ?_) <;> (try simp only [decide_eq_true_eq, decide_eq_false_iff_not, Bool.not_eq_true', Bool.not_eq_false'] at h) <;> try (exfalso; (try simp only [beq_iff_eq, beq_eq_false_iff_ne, bne_iff_ne, bne_eq_false_iff_eq, ne_eq] at h); omega))
          | (refine keeps_sub (Mem.sub_set (by simp [Mem.set_at, nomem, *])) ?_)
        refine again_intro r.length ?_ _ (Mem.sub.refl _) ⟨k + 1, r, m', rfl, hrl, hr, hk', hI', Mem.sub_set_new (Mem.sub_set_new hs' f4) f6, f4, f6, ?_, ?_, ?_, ?_, ?_, ?_, ?_, ?_⟩
        · simp
        all_goals try (simp (disch := omega) only [nth_upd, pickB_true, pickB_false, inB_lt, upd_len, cast_succ, Nat.reduceBEq, beq_self_eq_true, reduceCtorEq, *]; done)
        all_goals simp [Mem.set_at, *]
      · repeat' first
          | simp -dsimp (disch := omega) only [↓rulesA, rulesB, rulesC, Int.reduceLT, nth, upd, put, storeN, AV.one, Nat.reduceBEq, Nat.reduceBNe, Int.reduceBEq, Int.reduceBNe, Int.reduceLE, boolBin, strBin, intBin, unA, buildA, placesA, fillA, ne_eq, reduceCtorEq, Nat.reduceAdd, Nat.reduceSub, Nat.reduceLeDiff, Nat.reduceLT, Nat.reduceEqDiff, Int.reduceToNat, eq_self, rulesT, len_22, ix_22, rhi_22, rlo_22, rlohi_22, Dup.g0, Dup.g1, Dup.g2, Dup.g3, Dup.g4, Dup.g5, Dup.g6, Dup.len, Dup.take, Dup.all, Dup.drop, Dup.rlen, Dup.rat, Dup.rat0, Dup.rpart, Dup.rin, Dup.rset, Dup.sall, Dup.slit, Dup.part3, Dup.join, *]
          | (refine allK_intro fun n hn => ?_; try simp only [fresh_set] at hn)
          | (refine ifK_intro (fun h => ?_) (fun h => ?_) <;> (try simp only [decide_eq_true_eq, decide_eq_false_iff_not, Bool.not_eq_true', Bool.not_eq_false'] at h) <;> try (exfalso; (try simp only [beq_iff_eq, beq_eq_false_iff_ne, bne_iff_ne, bne_eq_false_iff_eq, ne_eq] at h); omega))
          | (refine keeps_sub (Mem.sub_set (by simp [Mem.set_at, nomem, *])) ?_)
        exact Turns.sub hs' (hstop _ hS)
end Go.Proofs.Ytoankcclbnnfiaa

