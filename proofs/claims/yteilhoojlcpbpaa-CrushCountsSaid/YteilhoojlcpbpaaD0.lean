/- Package 11: the data; mixing. -/
import Derived.Test.YteilhoojlcpbpaaTy
import Derived.Test.YteilhoojlcpbpaaKode
import Derived.Test.YteilhoojlcpbpaaA27
import Derived.Laws.BitsAllLaws
set_option maxRecDepth 100000
set_option maxHeartbeats 1000000
set_option linter.unusedSimpArgs false
set_option linter.unusedVariables false
namespace Go.Proofs.Yteilhoojlcpbpaa
open Go.Abs
attribute [local irreducible] C X CC Y CV CW binK litK AppK PureC PureCV againK loopV rangeV allK ifK got onB condK V stepsK planK opK firstK seeE keepsK

theorem laidOut : laidOutB Try.prog = true := by kernel_rfl
def Kept (p : Prop) : Prop := p
/-! ### Whole numbers -/
theorem xor32 (a b : Nat) (ha : a < 4294967296) (hb : b < 4294967296) : bits .xor .u32 (a : Int) (b : Int) = ((a ^^^ b : Nat) : Int) := u32_xor_nat a b ha hb
theorem xor_lt {a b : Nat} (ha : a < 4294967296) (hb : b < 4294967296) : a ^^^ b < 4294967296 := Nat.xor_lt_two_pow (n := 32) ha hb
theorem shr_nat (k : IntKind) (a s : Nat) (h : s ≤ k.bits) : ((a : Int)).fdiv (2 ^ min s k.bits) = ((a / 2 ^ s : Nat) : Int) := by
  rw [Nat.min_eq_left h, Int.fdiv_eq_ediv_of_nonneg _ (Int.pow_nonneg (by decide))]
  rw [Int.natCast_ediv, Int.natCast_pow]; rfl
theorem shr32 (a s : Nat) (h : s ≤ 32) : ((a : Int)).fdiv (2 ^ min s IntKind.u32.bits) = ((a / 2 ^ s : Nat) : Int) := shr_nat .u32 a s h
theorem shr64 (a s : Nat) (h : s ≤ 64) : ((a : Int)).fdiv (2 ^ min s IntKind.u64.bits) = ((a / 2 ^ s : Nat) : Int) := shr_nat .u64 a s h
theorem mul32 (a : Nat) (c : Int) (h : 0 ≤ c) : IntKind.u32.wrap ((a : Int) * c) = ((a * c.toNat % 4294967296 : Nat) : Int) := by
  obtain ⟨n, rfl⟩ : ∃ n : Nat, c = n := ⟨c.toNat, by omega⟩
  rw [IntKind.wrap_u32', Int.toNat_natCast]
  omega
theorem toNat_lit : (Int.toNat 16777619) = 16777619 := rfl
def lastN (h : Nat) : Nat :=
  let a := (h ^^^ h / 65536) * 2246822507 % 4294967296
  let b := (a ^^^ a / 8192) * 3266489909 % 4294967296
  b ^^^ b / 65536
theorem lastN_lt {h : Nat} : lastN h < 4294967296 := by
  unfold lastN
  exact xor_lt (by omega) (by omega)
theorem F35 (h : Nat) (hh : h < 4294967296) : F Try.prog 35 [.val (.int .u32 h)] (.val (.int .u32 (lastN h))) := by
  refine F35_of ?_
  unfold k35
  repeat' first
    | simp -dsimp (disch := omega) only [↓rulesA, rulesB, rulesC, Int.reduceLT, nth, upd, put, storeN, AV.one, Nat.reduceBEq, Nat.reduceBNe, Int.reduceBEq, Int.reduceBNe, Int.reduceLE, Int.reduceEq, Int.reduceMod, Int.reduceNeg, boolBin, strBin, intBin, unA, fillA, ne_eq, reduceCtorEq, Nat.reduceAdd, Nat.reduceSub, Nat.reduceLeDiff, Nat.reduceLT, Nat.reduceEqDiff, Int.reduceToNat, eq_self, rulesT, bne_self_eq_false, mm_min, mm_max, buOf_some, nilCheck_vp, nilCheck_ptr, nilCheck_yld, nilCheck_func, shr32, xor32, mul32, *]
    | (refine allK_intro fun n hn => ?_; try simp only [fresh_set] at hn)
    | (refine ifK_intro (fun h => ?_) (fun h => ?_) <;> (try simp only [decide_eq_true_eq, decide_eq_false_iff_not, Bool.not_eq_true', Bool.not_eq_false'] at h) <;> try (exfalso; (try simp only [beq_iff_eq, beq_eq_false_iff_ne, bne_iff_ne, bne_eq_false_iff_eq, ne_eq] at h); omega))
    | (refine keeps_sub (Mem.sub_set (by simp [Mem.set_at, nomem, *])) ?_)
  exact New.eq rfl rfl
end Go.Proofs.Yteilhoojlcpbpaa

