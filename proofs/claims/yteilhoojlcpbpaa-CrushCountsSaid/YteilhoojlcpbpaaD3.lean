/- Package 11: the cost; what is ahead; the straws. -/
import Derived.Test.YteilhoojlcpbpaaD2
set_option maxRecDepth 100000
set_option maxHeartbeats 1000000
set_option linter.unusedSimpArgs false
set_option linter.unusedVariables false
namespace Go.Proofs.Yteilhoojlcpbpaa
open Go.Abs
attribute [local irreducible] C X CC Y CV CW binK litK AppK PureC PureCV againK loopV rangeV allK ifK got onB condK V stepsK planK opK firstK seeE keepsK

def u32of (z : Int) : Nat := (z % 4294967296).toNat
theorem u32of_lt (z : Int) : u32of z < 4294967296 := by unfold u32of; omega
theorem wrap_u32of (z : Int) : IntKind.u32.wrap z = ((u32of z : Nat) : Int) := by rw [IntKind.wrap_u32']; unfold u32of; omega
theorem lit3_54 (a b c : Value) : litA Try.prog 54 3 [(0, .val a), (1, .val b), (2, .val c)] = some (23, 1, [.val a, .val b, .val c]) := by
  simp only [litA, ti_54, ti_23, z_23, fillA, cells_val]
  rfl
theorem chunk3 (a b c : AV) : chunk 1 3 [a, b, c] = [[a], [b], [c]] := rfl
theorem and16 (w : Nat) (h : w < 4294967296) : bits .and .u32 (w : Int) 65535 = ((w % 65536 : Nat) : Int) := by
  have := u32_and_nat w 65535 h (by decide)
  rw [nat_mask16] at this; exact this
def wordsN (x : Nat) (id r : Int) : Nat := lastN (wordsTo [x, u32of id, u32of r] 3)
theorem wordsN_lt (x : Nat) (id r : Int) : wordsN x id r < 4294967296 := lastN_lt
/-- What an item's straw costs. -/
def costN (x : Nat) (id r : Int) : Nat := 1048576 - logN (wordsN x id r % 65536 + 1)
theorem costN_le (x : Nat) (id r : Int) : costN x id r ≤ 1048576 := by unfold costN; omega
theorem F11 (x : Nat) (hx : x < 4294967296) (id r : Int) : F Try.prog 11 [.val (.int .u32 x), .val (.int .i64 id), .val (.int .i64 r)] (.val (.int .i64 (costN x id r))) := by
  refine F11_of ?_
  unfold k11
  have hw := wordsN_lt x id r
  have hl := logN_le (x := wordsN x id r % 65536 + 1) (by omega) (by omega)
  have hc : ((1048576 : Int) - (logN (wordsN x id r % 65536 + 1) : Int)) = (costN x id r : Int) := by unfold costN; omega
  have h23 : F Try.prog 23 [.vs [[.val (.int .u32 x)], [.val (.int .u32 (u32of id))], [.val (.int .u32 (u32of r))]] true] (.val (.int .u32 (wordsN x id r))) := F23 [x, u32of id, u32of r] true (by simp) (fun a ha => by
    have h1 := u32of_lt id
    have h2 := u32of_lt r
    simp at ha
    rcases ha with rfl | rfl | rfl <;> assumption)
  repeat' first
    | simp -dsimp (disch := omega) only [↓rulesA, rulesB, rulesC, Int.reduceLT, nth, upd, put, storeN, AV.one, Nat.reduceBEq, Nat.reduceBNe, Int.reduceBEq, Int.reduceBNe, Int.reduceLE, Int.reduceEq, Int.reduceMod, Int.reduceNeg, boolBin, strBin, intBin, unA, fillA, ne_eq, reduceCtorEq, Nat.reduceAdd, Nat.reduceSub, Nat.reduceLeDiff, Nat.reduceLT, Nat.reduceEqDiff, Int.reduceToNat, eq_self, rulesT, bne_self_eq_false, mm_min, mm_max, buOf_some, nilCheck_vp, nilCheck_ptr, nilCheck_yld, nilCheck_func, wrap_u32of, *]
    | (refine allK_intro fun n hn => ?_; try simp only [fresh_set] at hn)
    | (refine ifK_intro (fun h => ?_) (fun h => ?_) <;> (try simp only [decide_eq_true_eq, decide_eq_false_iff_not, Bool.not_eq_true', Bool.not_eq_false'] at h) <;> try (exfalso; (try simp only [beq_iff_eq, beq_eq_false_iff_ne, bne_iff_ne, bne_eq_false_iff_eq, ne_eq] at h); omega))
    | (refine keeps_sub (Mem.sub_set (by simp [Mem.set_at, nomem, *])) ?_)
  refine lit_vs (lit3_54 _ _ _) rfl ?_
  rw [chunk3]
  repeat' first
    | simp -dsimp (disch := omega) only [↓rulesA, rulesB, rulesC, Int.reduceLT, nth, upd, put, storeN, AV.one, Nat.reduceBEq, Nat.reduceBNe, Int.reduceBEq, Int.reduceBNe, Int.reduceLE, Int.reduceEq, Int.reduceMod, Int.reduceNeg, boolBin, strBin, intBin, unA, fillA, ne_eq, reduceCtorEq, Nat.reduceAdd, Nat.reduceSub, Nat.reduceLeDiff, Nat.reduceLT, Nat.reduceEqDiff, Int.reduceToNat, eq_self, rulesT, bne_self_eq_false, mm_min, mm_max, buOf_some, nilCheck_vp, nilCheck_ptr, nilCheck_yld, nilCheck_func, and16, add32, *]
    | (refine allK_intro fun n hn => ?_; try simp only [fresh_set] at hn)
    | (refine ifK_intro (fun h => ?_) (fun h => ?_) <;> (try simp only [decide_eq_true_eq, decide_eq_false_iff_not, Bool.not_eq_true', Bool.not_eq_false'] at h) <;> try (exfalso; (try simp only [beq_iff_eq, beq_eq_false_iff_ne, bne_iff_ne, bne_eq_false_iff_eq, ne_eq] at h); omega))
    | (refine keeps_sub (Mem.sub_set (by simp [Mem.set_at, nomem, *])) ?_)
    | (refine call_F (h23) (Seens.refl _ _) ?_)
    | (refine pure_F (h23) (Seens.refl _ _) ?_)
    | (refine call_F (F24 _ (by omega)) (Seens.refl _ _) ?_)
    | (refine pure_F (F24 _ (by omega)) (Seens.refl _ _) ?_)
  exact .val
end Go.Proofs.Yteilhoojlcpbpaa

