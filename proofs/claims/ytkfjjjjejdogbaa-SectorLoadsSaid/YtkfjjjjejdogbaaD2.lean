/- Package 05: finding a sector in the cache. -/
import Derived.Test.YtkfjjjjejdogbaaD1
set_option maxRecDepth 100000
set_option maxHeartbeats 1000000
set_option linter.unusedSimpArgs false
set_option linter.unusedVariables false
namespace Go.Proofs.Ytkfjjjjejdogbaa
open Go.Abs
attribute [local irreducible] C X CC Y CV CW binK litK AppK PureC PureCV againK loopV rangeV allK ifK got onB condK V stepsK planK opK firstK seeE keepsK

/-- Where sector k lies in the cache; its length: nowhere. -/
def findN (l : List Wr) (k : Nat) : Nat := l.findIdx fun w : Wr => w.at_ == k
def findI (l : List Wr) (k : Nat) : Int := if findN l k < l.length then (findN l k : Int) else -1
theorem findN_le (l : List Wr) (k : Nat) : findN l k ≤ l.length := List.findIdx_le_length
theorem findN_not {l : List Wr} {k i : Nat} (h : i < findN l k) : (l.getD i default).at_ ≠ k := by
  have hi : i < l.length := Nat.lt_of_lt_of_le h (findN_le l k)
  have := List.not_of_lt_findIdx h
  rw [List.getD_eq_getElem?_getD, List.getElem?_eq_getElem hi]
  simpa using this
theorem findN_is {l : List Wr} {k : Nat} (h : findN l k < l.length) : (l.getD (findN l k) default).at_ = k := by
  have := List.findIdx_getElem (xs := l) (p := fun w : Wr => w.at_ == k) (w := h)
  rw [List.getD_eq_getElem?_getD, List.getElem?_eq_getElem h]
  exact eq_of_beq this
theorem findN_end {l : List Wr} {k i : Nat} (hi : i ≤ findN l k) (h : i < l.length) (he : (l.getD i default).at_ = k) : findN l k = i := by
  rcases Nat.lt_or_ge i (findN l k) with h' | h'
  · exact absurd he (findN_not h')
  · omega
theorem F44 (w : Wr) (k : Nat) : F Try.prog 44 [.agg w.cells, .vp [.val (.int .i64 k)] 0] (.val (.bool (decide ((w.at_ : Int) = k)))) := by
  refine F44_of ?_
  unfold k44
  repeat' first
    | simp -dsimp (disch := omega) only [↓rulesA, rulesB, rulesC, Int.reduceLT, nth, upd, put, storeN, AV.one, Nat.reduceBEq, Nat.reduceBNe, Int.reduceBEq, Int.reduceBNe, Int.reduceLE, Int.reduceEq, Int.reduceMod, Int.reduceNeg, boolBin, strBin, intBin, unA, fillA, ne_eq, reduceCtorEq, Nat.reduceAdd, Nat.reduceSub, Nat.reduceLeDiff, Nat.reduceLT, Nat.reduceEqDiff, Int.reduceToNat, eq_self, rulesT, bne_self_eq_false, mm_min, mm_max, buOf_some, nilCheck_vp, nilCheck_ptr, nilCheck_yld, nilCheck_func, Wr.build, Wr.len, Wr.zr, Wr.all, Wr.take, Wr.drop, Wr.g0, Wr.part1, Wr.put, Wr.rlen, Wr.rpart, Wr.rin, Wr.rat0, Wr.rset, Wr.rset1, Wr.rin1, *]
    | (refine allK_intro fun n hn => ?_; try simp only [fresh_set] at hn)
    | (refine ifK_intro (fun h => ?_) (fun h => ?_) <;> (try simp only [decide_eq_true_eq, decide_eq_false_iff_not, Bool.not_eq_true', Bool.not_eq_false'] at h) <;> try (exfalso; (try simp only [beq_iff_eq, beq_eq_false_iff_ne, bne_iff_ne, bne_eq_false_iff_eq, ne_eq] at h); omega))
    | (refine keeps_sub (Mem.sub_set (by simp [Mem.set_at, nomem, *])) ?_)
  exact New.eq rfl rfl
theorem F43 (l : List Wr) (x : Bool) (k : Nat) (hl : l.length ≤ 140737488355328) : F Try.prog 43 [.vs (l.map Wr.cells) x, .fn (.func 44) [] [.vp [.val (.int .i64 k)] 0]] (.val (.int .i64 (findI l k))) := by
  refine F43_of ?_
  unfold k43
  repeat' first
    | simp -dsimp (disch := omega) only [↓rulesA, rulesB, rulesC, Int.reduceLT, nth, upd, put, storeN, AV.one, Nat.reduceBEq, Nat.reduceBNe, Int.reduceBEq, Int.reduceBNe, Int.reduceLE, Int.reduceEq, Int.reduceMod, Int.reduceNeg, boolBin, strBin, intBin, unA, fillA, ne_eq, reduceCtorEq, Nat.reduceAdd, Nat.reduceSub, Nat.reduceLeDiff, Nat.reduceLT, Nat.reduceEqDiff, Int.reduceToNat, eq_self, rulesT, bne_self_eq_false, mm_min, mm_max, buOf_some, nilCheck_vp, nilCheck_ptr, nilCheck_yld, nilCheck_func, *]
    | (refine allK_intro fun n hn => ?_; try simp only [fresh_set] at hn)
    | (refine ifK_intro (fun h => ?_) (fun h => ?_) <;> (try simp only [decide_eq_true_eq, decide_eq_false_iff_not, Bool.not_eq_true', Bool.not_eq_false'] at h) <;> try (exfalso; (try simp only [beq_iff_eq, beq_eq_false_iff_ne, bne_iff_ne, bne_eq_false_iff_eq, ne_eq] at h); omega))
    | (refine keeps_sub (Mem.sub_set (by simp [Mem.set_at, nomem, *])) ?_)
  refine loop_intro (fun j env m => ∃ i : Nat, i ≤ findN l k ∧ j = l.length - i ∧ m = nomem ∧ env.length = 19 ∧ nth env 0 = .vs (l.map Wr.cells) x ∧ nth env 1 = .fn (.func 44) [] [.vp [.val (.int .i64 k)] 0] ∧ nth env 7 = .val (.int .i64 l.length) ∧ nth env 8 = .val (.int .i64 i)) l.length _ (fun _ _ h => h) ⟨0, by omega, by omega, rfl, rfl, rfl, rfl, rfl, rfl⟩ ?_
  rintro j env m ⟨i, hi, rfl, rfl, hlen, e0, e1, e7, e8⟩
  have hle := findN_le l k
  repeat' first
    | simp -dsimp (disch := omega) only [↓rulesA, rulesB, rulesC, Int.reduceLT, nth, upd, put, storeN, AV.one, Nat.reduceBEq, Nat.reduceBNe, Int.reduceBEq, Int.reduceBNe, Int.reduceLE, Int.reduceEq, Int.reduceMod, Int.reduceNeg, boolBin, strBin, intBin, unA, fillA, ne_eq, reduceCtorEq, Nat.reduceAdd, Nat.reduceSub, Nat.reduceLeDiff, Nat.reduceLT, Nat.reduceEqDiff, Int.reduceToNat, eq_self, rulesT, bne_self_eq_false, mm_min, mm_max, buOf_some, nilCheck_vp, nilCheck_ptr, nilCheck_yld, nilCheck_func, ix_52, Wr.build, Wr.len, Wr.zr, Wr.all, Wr.take, Wr.drop, Wr.g0, Wr.part1, Wr.put, Wr.rlen, Wr.rpart, Wr.rin, Wr.rat0, Wr.rset, Wr.rset1, Wr.rin1, *]
    | (refine allK_intro fun n hn => ?_; try simp only [fresh_set] at hn)
    | (refine ifK_intro (fun h => ?_) (fun h => ?_) <;> (try simp only [decide_eq_true_eq, decide_eq_false_iff_not, Bool.not_eq_true', Bool.not_eq_false'] at h) <;> try (exfalso; (try simp only [beq_iff_eq, beq_eq_false_iff_ne, bne_iff_ne, bne_eq_false_iff_eq, ne_eq] at h); omega))
    | (refine keeps_sub (Mem.sub_set (by simp [Mem.set_at, nomem, *])) ?_)
    | (refine call_F (F44 _ _) (Seens.refl _ _) ?_)
    | (refine pure_F (F44 _ _) (Seens.refl _ _) ?_)
  · have e : findN l k = i := findN_end hi (by omega) (by omega)
    refine New.eq ?_ rfl
    unfold findI; rw [if_pos (by omega), e]
  · have hne : findN l k ≠ i := fun e => by
      have := findN_is (l := l) (k := k) (by omega)
      rw [e] at this
      omega
    refine again_intro (l.length - (i + 1)) (by omega) nomem (fun _ _ h => h) ⟨i + 1, by omega, rfl, rfl, ?_, ?_, ?_, ?_, ?_⟩
    all_goals try (simp (disch := omega) only [nth_upd, pickB_true, pickB_false, inB_lt, upd_len, cast_succ, Nat.reduceBEq, beq_self_eq_true, reduceCtorEq, *]; done)
  · refine New.eq ?_ rfl
    unfold findI; rw [if_neg (by omega)]
theorem F41 (d : Dev) (x y : Bool) (k : Nat) (hl : d.list.length ≤ 140737488355328) : F Try.prog 41 [.vp (d.rc x y) 0, .val (.int .i64 k)] (.val (.int .i64 (findI d.list k))) := by
  refine F41_of ?_
  unfold k41
  repeat' first
    | simp -dsimp (disch := omega) only [↓rulesA, rulesB, rulesC, Int.reduceLT, nth, upd, put, storeN, AV.one, Nat.reduceBEq, Nat.reduceBNe, Int.reduceBEq, Int.reduceBNe, Int.reduceLE, Int.reduceEq, Int.reduceMod, Int.reduceNeg, boolBin, strBin, intBin, unA, fillA, ne_eq, reduceCtorEq, Nat.reduceAdd, Nat.reduceSub, Nat.reduceLeDiff, Nat.reduceLT, Nat.reduceEqDiff, Int.reduceToNat, eq_self, rulesT, bne_self_eq_false, mm_min, mm_max, buOf_some, nilCheck_vp, nilCheck_ptr, nilCheck_yld, nilCheck_func, Dev.r0, Dev.r1, Dev.r2, Dev.r3, Dev.r4, Dev.r5, Dev.r6, Dev.r7, mkFnA, staticFn, *]
    | (refine allK_intro fun n hn => ?_; try simp only [fresh_set] at hn)
    | (refine ifK_intro (fun h => ?_) (fun h => ?_) <;> (try simp only [decide_eq_true_eq, decide_eq_false_iff_not, Bool.not_eq_true', Bool.not_eq_false'] at h) <;> try (exfalso; (try simp only [beq_iff_eq, beq_eq_false_iff_ne, bne_iff_ne, bne_eq_false_iff_eq, ne_eq] at h); omega))
    | (refine keeps_sub (Mem.sub_set (by simp [Mem.set_at, nomem, *])) ?_)
  refine call_F (F43 d.list x k hl) (Seens.two .same (.fnOf (Seens.refl _ _) (.one (.var (Mem.set_same _ _ _))))) ?_
  repeat' first
    | simp -dsimp (disch := omega) only [↓rulesA, rulesB, rulesC, Int.reduceLT, nth, upd, put, storeN, AV.one, Nat.reduceBEq, Nat.reduceBNe, Int.reduceBEq, Int.reduceBNe, Int.reduceLE, Int.reduceEq, Int.reduceMod, Int.reduceNeg, boolBin, strBin, intBin, unA, fillA, ne_eq, reduceCtorEq, Nat.reduceAdd, Nat.reduceSub, Nat.reduceLeDiff, Nat.reduceLT, Nat.reduceEqDiff, Int.reduceToNat, eq_self, rulesT, bne_self_eq_false, mm_min, mm_max, buOf_some, nilCheck_vp, nilCheck_ptr, nilCheck_yld, nilCheck_func, *]
    | (refine allK_intro fun n hn => ?_; try simp only [fresh_set] at hn)
    | (refine ifK_intro (fun h => ?_) (fun h => ?_) <;> (try simp only [decide_eq_true_eq, decide_eq_false_iff_not, Bool.not_eq_true', Bool.not_eq_false'] at h) <;> try (exfalso; (try simp only [beq_iff_eq, beq_eq_false_iff_ne, bne_iff_ne, bne_eq_false_iff_eq, ne_eq] at h); omega))
    | (refine keeps_sub (Mem.sub_set (by simp [Mem.set_at, nomem, *])) ?_)
  exact .val
end Go.Proofs.Ytkfjjjjejdogbaa

