/- Package 20: judging. -/
import Derived.Test.YtoankcclbnnfiaaD4
set_option maxRecDepth 100000
set_option maxHeartbeats 1000000
set_option linter.unusedSimpArgs false
set_option linter.unusedVariables false
namespace Go.Proofs.Ytoankcclbnnfiaa
open Go.Abs
attribute [local irreducible] C X CC Y CV CW binK litK AppK PureC PureCV againK loopV rangeV allK ifK got onB condK V stepsK planK opK firstK seeE keepsK

def Dup.res (d : Dup) : Res := ⟨d.err, d.num, d.rinst, d.data⟩
theorem Dup.part3 (d : Dup) : List.take 4 (List.drop 3 d.cells) = d.res.cells := rfl
def r0 : Res := ⟨0, 0, 0, .empty⟩
theorem F30 (r : Req) : F Try.prog 30 [.agg r.cells] (.agg [.val (.int .i64 r.inst), .val (.int .i64 r.tid), .val (.int .i64 r.client)]) := by
  refine F30_of ?_
  unfold k30
  repeat' first
    | simp -dsimp (disch := omega) only [↓rulesA, rulesB, rulesC, Int.reduceLT, nth, upd, put, storeN, AV.one, Nat.reduceBEq, Nat.reduceBNe, Int.reduceBEq, Int.reduceBNe, Int.reduceLE, boolBin, strBin, intBin, unA, buildA, placesA, fillA, ne_eq, reduceCtorEq, Nat.reduceAdd, Nat.reduceSub, Nat.reduceLeDiff, Nat.reduceLT, Nat.reduceEqDiff, Int.reduceToNat, eq_self, rulesT, Req.g0, Req.g1, Req.g2, Req.len, Req.take, Req.all, List.getElem?_toArray, Array.toList, *]
    | (refine allK_intro fun n hn => ?_; try simp only [fresh_set] at hn)
    | (refine ifK_intro (fun h => ?_) (fun h => ?_) <;> (try simp only [decide_eq_true_eq, decide_eq_false_iff_not, Bool.not_eq_true', Bool.not_eq_false'] at h) <;> try (exfalso; (try simp only [beq_iff_eq, beq_eq_false_iff_ne, bne_iff_ne, bne_eq_false_iff_eq, ne_eq] at h); omega))
    | (refine keeps_sub (Mem.sub_set (by simp [Mem.set_at, nomem, *])) ?_)
  exact .flat rfl
theorem guard_65 : Try.prog.eqGuardType Try.prog.depth 65 = false := by kernel_rfl
theorem eqA_65 (a b c a' b' c' : Int) : eqA Try.prog 20 65 (.agg [.val (.int .i64 a), .val (.int .i64 b), .val (.int .i64 c)]) (.agg [.val (.int .i64 a'), .val (.int .i64 b'), .val (.int .i64 c')]) = some ((a == a' && b == b') && c == c') := by kernel_rfl
theorem eq_65 (a b c a' b' c' : Int) : cmpA Try.prog 65 .eql (.agg [.val (.int .i64 a), .val (.int .i64 b), .val (.int .i64 c)]) (.agg [.val (.int .i64 a'), .val (.int .i64 b'), .val (.int .i64 c')]) = some (.val (.bool ((a == a' && b == b') && c == c'))) := by
  simp only [cmpA, ti_65, binA, nilBin, isNilA, guard_65, eqA_65]
  rfl
theorem fl_65 (a b c : AV) : fieldA Try.prog 65 (.agg [a, b, c]) 0 = some (.agg [a, b]) := by
  simp only [fieldA, ti_65, List.getElem?_toArray, List.getElem?_cons_zero, partA, ti_63, isAggD, if_true]
  rfl
/-- What becomes of a request (P20.3): found: is there one of its client, and which. -/
def whatB (n : Nat) (found : Bool) (d : Dup) (r : Req) : Int := if !found && decide (16 ≤ (n : Int)) then 4 else if !found || laterB r.inst r.tid d.inst d.tid then 1 else if (r.inst == d.inst && r.tid == d.tid) && r.client == d.client then 2 else 3
def wasB (n : Nat) (found : Bool) (d : Dup) (r : Req) : Res := if whatB n found d r = 2 then d.res else r0
theorem F13 (l : List Dup) (x : Bool) (r : Req) (hl : l.length ≤ 140737488355328) (k : Nat) (hk : k ≤ l.length) (hlo : ∀ i, i < k → (l.getD i default).client < r.client) (hhi : ∀ i, k ≤ i → i < l.length → r.client ≤ (l.getD i default).client) :
    F Try.prog 13 [.vs (l.map Dup.cells) x, .agg r.cells] (.tup [.val (.int .i64 (whatB l.length (foundB l r.client k) (findB l r.client k) r)), .agg (wasB l.length (foundB l r.client k) (findB l r.client k) r).cells]) := by
  refine F13_of ?_
  unfold k13
  generalize hfd : findB l r.client k = d
  generalize hfb : foundB l r.client k = b
  have h19 := F19 l x r.client hl k hk hlo hhi
  rw [hfd, hfb] at h19
  clear hfd hfb hlo hhi
  repeat' first
    | simp -dsimp (disch := omega) only [↓rulesA, rulesB, rulesC, Int.reduceLT, nth, upd, put, storeN, AV.one, Nat.reduceBEq, Nat.reduceBNe, Int.reduceBEq, Int.reduceBNe, Int.reduceLE, boolBin, strBin, intBin, unA, buildA, placesA, fillA, ne_eq, reduceCtorEq, Nat.reduceAdd, Nat.reduceSub, Nat.reduceLeDiff, Nat.reduceLT, Nat.reduceEqDiff, Int.reduceToNat, eq_self, rulesT, len_22, Req.g0, Req.g1, Req.g2, Req.len, Req.take, Req.all, Dup.len, Dup.take, Dup.all, Dup.drop, Dup.part3, Res.len, Res.all, Res.take, Res.drop, eq_65, fl_65, *]
    | (refine allK_intro fun n hn => ?_; try simp only [fresh_set] at hn)
    | (refine ifK_intro (fun h => ?_) (fun h => ?_) <;> (try simp only [decide_eq_true_eq, decide_eq_false_iff_not, Bool.not_eq_true', Bool.not_eq_false'] at h) <;> try (exfalso; (try simp only [beq_iff_eq, beq_eq_false_iff_ne, bne_iff_ne, bne_eq_false_iff_eq, ne_eq] at h); omega))
    | (refine keeps_sub (Mem.sub_set (by simp [Mem.set_at, nomem, *])) ?_)
    | (refine call_F (h19) (Seens.refl _ _) ?_)
    | (refine pure_F (h19) (Seens.refl _ _) ?_)
    | (refine call_F (F30 _) (Seens.refl _ _) ?_)
    | (refine pure_F (F30 _) (Seens.refl _ _) ?_)
    | (refine call_F (F32 _) (Seens.refl _ _) ?_)
    | (refine pure_F (F32 _) (Seens.refl _ _) ?_)
    | (refine call_F (F31 _ _ _ _) (Seens.refl _ _) ?_)
    | (refine pure_F (F31 _ _ _ _) (Seens.refl _ _) ?_)
  · have e : whatB l.length false d r = 4 := by simp [whatB, *]
    rw [wasB, e]; exact .flat rfl
  · have e : whatB l.length false d r = 1 := by simp [whatB, *]
    rw [wasB, e]; exact .flat rfl
  · have e : whatB l.length true d r = 1 := by simp [whatB, *]
    rw [wasB, e]; exact .flat rfl
  · have e : whatB l.length true d r = 2 := by
      unfold whatB
      rw [if_neg (by simp), if_neg (by simp [*]), if_pos (by assumption)]
    rw [wasB, e]; exact .flat rfl
  · have e : whatB l.length true d r = 3 := by
      unfold whatB
      rw [if_neg (by simp), if_neg (by simp [*]), if_neg (by rename_i h; rw [h]; simp)]
    rw [wasB, e]; exact .flat rfl
end Go.Proofs.Ytoankcclbnnfiaa

