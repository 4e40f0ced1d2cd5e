/- Package 20: the data, and the small functions. -/
import Derived.Test.YtoankcclbnnfiaaD0
set_option maxRecDepth 100000
set_option maxHeartbeats 1000000
set_option linter.unusedSimpArgs false
set_option linter.unusedVariables false
namespace Go.Proofs.Ytoankcclbnnfiaa
open Go.Abs
attribute [local irreducible] C X CC Y CV CW binK litK AppK PureC PureCV againK loopV rangeV allK ifK got onB condK V stepsK planK opK firstK seeE keepsK

theorem ix_22 (l : List Dup) (x : Bool) (kk : IntKind) (k : Int) (h0 : 0 ≤ k) (h1 : k < l.length) : indexAddrA Try.prog 22 (.vs (l.map Dup.cells) x) (.val (.int kk k)) = some (.vp (Dup.cells (l.getD k.toNat default)) 0) :=
  index_vs Dup.cells ti_22 rfl ti_39 (fun _ => rfl) l x kk k h0 h1
theorem len_22 (m : Mem) (l : List Dup) (x : Bool) : lenA Try.prog m 22 (.vs (l.map Dup.cells) x) = some (.val (.int .i64 l.length)) := len_vs Dup.cells ti_22 rfl m l x

def okB (a b : Int) : Bool := decide (1 ≤ a) && decide (a ≤ 1073741824) && decide (1 ≤ b) && decide (b ≤ 1073741824)
def stampB (c a b : Int) : Bool := decide (0 ≤ c) && okB a b
theorem F45 (a b : Int) : F Try.prog 45 [.agg [.val (.int .i64 a), .val (.int .i64 b)]] (.val (.bool (okB a b))) := by
  refine F45_of ?_
  unfold k45 okB
  repeat' first
    | simp -dsimp (disch := omega) only [↓rulesA, rulesB, rulesC, Int.reduceLT, nth, upd, put, storeN, AV.one, Nat.reduceBEq, Nat.reduceBNe, Int.reduceBEq, Int.reduceBNe, Int.reduceLE, boolBin, strBin, intBin, unA, buildA, placesA, fillA, ne_eq, reduceCtorEq, Nat.reduceAdd, Nat.reduceSub, Nat.reduceLeDiff, Nat.reduceLT, Nat.reduceEqDiff, Int.reduceToNat, eq_self, rulesT, *]
    | (refine allK_intro fun n hn => ?_; try simp only [fresh_set] at hn)
    | (refine ifK_intro (fun h => ?_) (fun h => ?_) <;> (try simp only [decide_eq_true_eq, decide_eq_false_iff_not, Bool.not_eq_true', Bool.not_eq_false'] at h) <;> try (exfalso; (try simp only [beq_iff_eq, beq_eq_false_iff_ne, bne_iff_ne, bne_eq_false_iff_eq, ne_eq] at h); omega))
    | (refine keeps_sub (Mem.sub_set (by simp [Mem.set_at, nomem, *])) ?_)
  all_goals exact .val
theorem F38 (a b c : Int) : F Try.prog 38 [.agg [.val (.int .i64 a), .val (.int .i64 b), .val (.int .i64 c)]] (.val (.bool (stampB c a b))) := by
  refine F38_of ?_
  unfold k38 stampB
  repeat' first
    | simp -dsimp (disch := omega) only [↓rulesA, rulesB, rulesC, Int.reduceLT, nth, upd, put, storeN, AV.one, Nat.reduceBEq, Nat.reduceBNe, Int.reduceBEq, Int.reduceBNe, Int.reduceLE, boolBin, strBin, intBin, unA, buildA, placesA, fillA, ne_eq, reduceCtorEq, Nat.reduceAdd, Nat.reduceSub, Nat.reduceLeDiff, Nat.reduceLT, Nat.reduceEqDiff, Int.reduceToNat, eq_self, rulesT, *]
    | (refine allK_intro fun n hn => ?_; try simp only [fresh_set] at hn)
    | (refine ifK_intro (fun h => ?_) (fun h => ?_) <;> (try simp only [decide_eq_true_eq, decide_eq_false_iff_not, Bool.not_eq_true', Bool.not_eq_false'] at h) <;> try (exfalso; (try simp only [beq_iff_eq, beq_eq_false_iff_ne, bne_iff_ne, bne_eq_false_iff_eq, ne_eq] at h); omega))
    | (refine keeps_sub (Mem.sub_set (by simp [Mem.set_at, nomem, *])) ?_)
    | (refine call_F (F45 _ _) (Seens.refl _ _) ?_)
    | (refine pure_F (F45 _ _) (Seens.refl _ _) ?_)
  all_goals exact .val
theorem F32 (d : Dup) : F Try.prog 32 [.agg d.cells] (.agg [.val (.int .i64 d.inst), .val (.int .i64 d.tid), .val (.int .i64 d.client)]) := by
  refine F32_of ?_
  unfold k32
  repeat' first
    | simp -dsimp (disch := omega) only [↓rulesA, rulesB, rulesC, Int.reduceLT, nth, upd, put, storeN, AV.one, Nat.reduceBEq, Nat.reduceBNe, Int.reduceBEq, Int.reduceBNe, Int.reduceLE, boolBin, strBin, intBin, unA, buildA, placesA, fillA, ne_eq, reduceCtorEq, Nat.reduceAdd, Nat.reduceSub, Nat.reduceLeDiff, Nat.reduceLT, Nat.reduceEqDiff, Int.reduceToNat, eq_self, rulesT, Dup.g0, Dup.g1, Dup.g2, Dup.len, Dup.take, Dup.all, *]
    | (refine allK_intro fun n hn => ?_; try simp only [fresh_set] at hn)
    | (refine ifK_intro (fun h => ?_) (fun h => ?_) <;> (try simp only [decide_eq_true_eq, decide_eq_false_iff_not, Bool.not_eq_true', Bool.not_eq_false'] at h) <;> try (exfalso; (try simp only [beq_iff_eq, beq_eq_false_iff_ne, bne_iff_ne, bne_eq_false_iff_eq, ne_eq] at h); omega))
    | (refine keeps_sub (Mem.sub_set (by simp [Mem.set_at, nomem, *])) ?_)
  exact .flat rfl
end Go.Proofs.Ytoankcclbnnfiaa

