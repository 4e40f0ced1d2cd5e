/- Package 20: two rows merged, by an iterator. -/
import Derived.Test.YtoankcclbnnfiaaD18
set_option maxRecDepth 100000
set_option maxHeartbeats 1000000
set_option linter.unusedSimpArgs false
set_option linter.unusedVariables false
namespace Go.Proofs.Ytoankcclbnnfiaa
open Go.Abs
attribute [local irreducible] C X CC Y CV CW binK litK AppK PureC PureCV againK loopV rangeV allK ifK got onB condK V stepsK planK opK firstK seeE keepsK

theorem C47 (l : List Dup) (x : Bool) (N : Nat) (hl : l.length ≤ 140737488355328) : C Try.prog 47 [.ptr N 0] (nomem.set N (.cells false 22 [.vs (l.map Dup.cells) x])) (fun r m' => r = .tup [.agg (l.getD 0 default).cells, .val (.bool (decide (0 < l.length)))] ∧ m' = nomem.set N (.cells false 22 [.vs ((l.drop 1).map Dup.cells) x])) := by
  refine C.turn (C47_of ?_)
  unfold k47
  repeat' first
    | simp -dsimp (disch := omega) only [↓rulesA, rulesB, rulesC, Int.reduceLT, nth, upd, put, storeN, AV.one, Nat.reduceBEq, Nat.reduceBNe, Int.reduceBEq, Int.reduceBNe, Int.reduceLE, boolBin, strBin, intBin, unA, buildA, placesA, fillA, ne_eq, reduceCtorEq, Nat.reduceAdd, Nat.reduceSub, Nat.reduceLeDiff, Nat.reduceLT, Nat.reduceEqDiff, Int.reduceToNat, eq_self, rulesT, len_22, ix_22, rhi_22, rlo_22, rlohi_22, Dup.g0, Dup.g1, Dup.g2, Dup.g3, Dup.g4, Dup.g5, Dup.g6, Dup.len, Dup.take, Dup.all, Dup.drop, Dup.rlen, Dup.rat, Dup.rat0, Dup.rpart, Dup.rin, Dup.rset, Dup.sall, Dup.slit, Dup.part3, Dup.join, *]
    | (refine allK_intro fun n hn => ?_; try simp only [fresh_set] at hn)
    | (refine ifK_intro (fun h => ?_) (fun h => ?_) <;> (try simp only [decide_eq_true_eq, decide_eq_false_iff_not, Bool.not_eq_true', Bool.not_eq_false'] at h) <;> try (exfalso; (try simp only [beq_iff_eq, beq_eq_false_iff_ne, bne_iff_ne, bne_eq_false_iff_eq, ne_eq] at h); omega))
    | (refine keeps_sub (Mem.sub_set (by simp [Mem.set_at, nomem, *])) ?_)
    | (refine keeps_stab (by repeat' first | exact stabK_nil _ _ | refine stabK_cons ?_ ?_ | (simp (disch := omega) only [quietA, Option.isSome_some, ↓rulesA, rulesB, rulesC, Int.reduceLT, nth, upd, put, storeN, AV.one, Nat.reduceBEq, Nat.reduceBNe, Int.reduceBEq, Int.reduceBNe, Int.reduceLE, boolBin, strBin, intBin, unA, buildA, placesA, fillA, ne_eq, reduceCtorEq, Nat.reduceAdd, Nat.reduceSub, Nat.reduceLeDiff, Nat.reduceLT, Nat.reduceEqDiff, Int.reduceToNat, eq_self, rulesT, len_22, ix_22, rhi_22, rlo_22, rlohi_22, Dup.g0, Dup.g1, Dup.g2, Dup.g3, Dup.g4, Dup.g5, Dup.g6, Dup.len, Dup.take, Dup.all, Dup.drop, Dup.rlen, Dup.rat, Dup.rat0, Dup.rpart, Dup.rin, Dup.rset, Dup.sall, Dup.slit, Dup.part3, Dup.join, *]; done)) ?_)
  · refine .sub (nomem_set_sub (by simp [Mem.set_at, *])) ⟨?_, rfl⟩
    rw [decide_eq_true (by omega)]
  · have e : l = [] := List.eq_nil_of_length_eq_zero (by omega)
    subst e
    exact .sub (nomem_set_sub (by simp [Mem.set_at, *])) ⟨rfl, rfl⟩
end Go.Proofs.Ytoankcclbnnfiaa

