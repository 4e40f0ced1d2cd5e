/- The texts E0 E1 E2 E3 E4 E5 E6 E7 E8 E9 E10 E11 E12 E13 E14 E15 E16 E17 E22 E23 E24 E25 E26: what is proved on the way to the law. No conditions but those each theorem states. -/
import Derived.Test.YtlkeailgccbmbaaM4
import Derived.Laws.BitsAllLaws
set_option maxRecDepth 100000
set_option maxHeartbeats 1000000
set_option linter.unusedSimpArgs false
set_option linter.unusedVariables false
namespace Go.Proofs.Ytlkeailgccbmbaa
open Go.Abs
attribute [local irreducible] C X CC Y CV CW binK litK AppK PureC PureCV againK loopV rangeV allK ifK got onB condK V stepsK planK opK firstK seeE keepsK
def needN (n : Nat) : Nat := if n ≤ 47 then 1 else 2 + (n - 48) / 55
theorem needN_pos (n : Nat) : 1 ≤ needN n := by unfold needN; split <;> omega
theorem F29 (n : Nat) (h : n < 4611686018427387904) : F Try.prog 29 [.val (.int .i64 n)] (.val (.int .i64 (needN n))) := by
  refine F29_of ?_
  unfold k29
  by_cases h47 : n ≤ 47
  · have e : needN n = 1 := if_pos h47
    repeat' first
      | simp -dsimp (disch := omega) only [↓rulesA, rulesB, rulesC, Int.reduceLT, nth, upd, put, storeN, AV.one, Nat.reduceBEq, Nat.reduceBNe, Int.reduceBEq, Int.reduceBNe, Int.reduceLE, Int.reduceEq, Int.reduceMod, Int.reduceNeg, boolBin, strBin, intBin, unA, fillA, ne_eq, reduceCtorEq, Nat.reduceAdd, Nat.reduceSub, Nat.reduceLeDiff, Nat.reduceLT, Nat.reduceEqDiff, Int.reduceToNat, eq_self, rulesT, rulesD, *]
      | (refine allK_intro fun n hn => ?_; try simp only [fresh_set] at hn)
      | (refine ifK_intro (fun h => ?_) (fun h => ?_) <;> (try simp only [rulesE] at h) <;> try (exfalso; (try simp only [rulesF] at h); omega))
      | (refine keeps_sub (Mem.sub_set ?_) ?_; focus (simp [Mem.set_at, nomem, *]; done))
    exact .val
  · have e : needN n = 2 + (n - 48) / 55 := if_neg h47
    have q : ((n : Int) - 47 - 1).tdiv 55 = (((n - 48) / 55 : Nat) : Int) := by
      rw [show (n : Int) - 47 - 1 = ((n - 48 : Nat) : Int) by omega]; rfl
    repeat' first
      | simp -dsimp (disch := omega) only [↓rulesA, rulesB, rulesC, Int.reduceLT, nth, upd, put, storeN, AV.one, Nat.reduceBEq, Nat.reduceBNe, Int.reduceBEq, Int.reduceBNe, Int.reduceLE, Int.reduceEq, Int.reduceMod, Int.reduceNeg, boolBin, strBin, intBin, unA, fillA, ne_eq, reduceCtorEq, Nat.reduceAdd, Nat.reduceSub, Nat.reduceLeDiff, Nat.reduceLT, Nat.reduceEqDiff, Int.reduceToNat, eq_self, rulesT, rulesD, q, *]
      | (refine allK_intro fun n hn => ?_; try simp only [fresh_set] at hn)
      | (refine ifK_intro (fun h => ?_) (fun h => ?_) <;> (try simp only [rulesE] at h) <;> try (exfalso; (try simp only [rulesF] at h); omega))
      | (refine keeps_sub (Mem.sub_set ?_) ?_; focus (simp [Mem.set_at, nomem, *]; done))
    exact New.eq (by rw [Int.natCast_add]; rfl) rfl
theorem shr_nat (k : IntKind) (a s : Nat) (h : s ≤ k.bits) : ((a : Int)).fdiv (2 ^ min s k.bits) = ((a / 2 ^ s : Nat) : Int) := by
  rw [Nat.min_eq_left h, Int.fdiv_eq_ediv_of_nonneg _ (Int.pow_nonneg (by decide))]
  rw [Int.natCast_ediv, Int.natCast_pow]; rfl
theorem shr32 (a s : Nat) (h : s ≤ 32) : ((a : Int)).fdiv (2 ^ min s IntKind.u32.bits) = ((a / 2 ^ s : Nat) : Int) := shr_nat .u32 a s h
theorem shr64 (a s : Nat) (h : s ≤ 64) : ((a : Int)).fdiv (2 ^ min s IntKind.u64.bits) = ((a / 2 ^ s : Nat) : Int) := shr_nat .u64 a s h
theorem conv64 (a : Nat) (h : a < 18446744073709551616) : IntKind.u64.wrap (a : Int) = (a : Int) := by rw [IntKind.wrap_u64]; omega
theorem shl64 (a s : Nat) (h : s ≤ 64) (hb : a * 2 ^ s < 18446744073709551616) : IntKind.u64.wrap ((a : Int) * 2 ^ min s IntKind.u64.bits) = ((a * 2 ^ s : Nat) : Int) := by
  have e : min s IntKind.u64.bits = s := Nat.min_eq_left h
  rw [e, show ((2 : Int) ^ s) = ((2 ^ s : Nat) : Int) by rw [Int.natCast_pow]; rfl, ← Int.natCast_mul]
  exact conv64 _ hb
def getTo (l : List UInt8) : Nat → Nat
  | 0 => 0
  | i + 1 => getTo l i + (l.getD i default).toNat * 2 ^ (8 * i)
theorem getTo_lt (l : List UInt8) : ∀ i, getTo l i < 2 ^ (8 * i)
  | 0 => Nat.zero_lt_one
  | i + 1 => by
    have h := getTo_lt l i
    have hb : (l.getD i default).toNat < 256 := UInt8.toNat_lt _
    have h2 : (l.getD i default).toNat * 2 ^ (8 * i) ≤ 255 * 2 ^ (8 * i) := Nat.mul_le_mul_right _ (by omega)
    have e : 2 ^ (8 * (i + 1)) = 256 * 2 ^ (8 * i) := by rw [show 8 * (i + 1) = 8 + 8 * i by omega, Nat.pow_add]
    unfold getTo
    rw [e]; omega
theorem or_join (l : List UInt8) (i : Nat) (h : i < 8) : bits .or .u64 (getTo l i : Int) (((l.getD i default).toNat * 2 ^ (8 * i) : Nat) : Int) = (getTo l (i + 1) : Int) := by
  have h1 := getTo_lt l i
  have h2 := getTo_lt l (i + 1)
  have h3 : 2 ^ (8 * (i + 1)) ≤ 2 ^ 64 := Nat.pow_le_pow_right (by decide) (by omega)
  have h4 : getTo l (i + 1) = getTo l i + (l.getD i default).toNat * 2 ^ (8 * i) := rfl
  have h5 : (2 : Nat) ^ 64 = 18446744073709551616 := rfl
  rw [u64_or_nat _ _ (by omega) (by omega), Nat.or_comm, nat_join (8 * i) _ _ (Nat.mul_mod_left _ _) h1, h4, Nat.add_comm]
theorem byte_g0 (b : UInt8) : (byteC b)[0]? = some (.val (.int .u8 b.toNat)) := rfl
theorem ix_44 (l : List UInt8) (x : Bool) (kk : IntKind) (k : Int) (h0 : 0 ≤ k) (h1 : k < l.length) : indexAddrA Try.prog 44 (.vs (l.map byteC) x) (.val (.int kk k)) = some (.vp (byteC (l.getD k.toNat default)) 0) := index_vs byteC ti_44 rfl ti_5 byteC_len l x kk k h0 h1
theorem natNeg' (n : Nat) : (((n : Nat) : Int) < 0) = False := eq_false (by omega)
theorem F51 (l : List UInt8) (x : Bool) (hl : l.length ≤ 8) : F Try.prog 51 [.vs (l.map byteC) x] (.val (.int .u64 (getTo l l.length))) := by
  refine F51_of ?_
  unfold k51
  repeat' first
    | simp -dsimp (disch := omega) only [↓rulesA, rulesB, rulesC, Int.reduceLT, nth, upd, put, storeN, AV.one, Nat.reduceBEq, Nat.reduceBNe, Int.reduceBEq, Int.reduceBNe, Int.reduceLE, Int.reduceEq, Int.reduceMod, Int.reduceNeg, boolBin, strBin, intBin, unA, fillA, ne_eq, reduceCtorEq, Nat.reduceAdd, Nat.reduceSub, Nat.reduceLeDiff, Nat.reduceLT, Nat.reduceEqDiff, Int.reduceToNat, eq_self, rulesT, rulesD, *]
    | (refine allK_intro fun n hn => ?_; try simp only [fresh_set] at hn)
    | (refine ifK_intro (fun h => ?_) (fun h => ?_) <;> (try simp only [rulesE] at h) <;> try (exfalso; (try simp only [rulesF] at h); omega))
    | (refine keeps_sub (Mem.sub_set ?_) ?_; focus (simp [Mem.set_at, nomem, *]; done))
  refine loop_intro (fun j env m => ∃ i : Nat, i ≤ l.length ∧ j = l.length - i ∧ m = nomem ∧ env.length = 22 ∧ nth env 3 = .val (.int .u64 (getTo l i)) ∧ nth env 6 = .vs (l.map byteC) x ∧ nth env 7 = .val (.int .i64 l.length) ∧ nth env 8 = .val (.int .i64 i)) l.length _ (Mem.sub.refl _) ⟨0, by omega, by omega, rfl, rfl, rfl, rfl, rfl, rfl⟩ ?_
  rintro j env m ⟨i, hi, rfl, rfl, hlen, e3, e6, e7, e8⟩
  by_cases hil : i < l.length
  · have h8 : (8 : Int) * (i : Int) = ((8 * i : Nat) : Int) := by omega
    have hb : (l.getD i default).toNat < 256 := UInt8.toNat_lt _
    have c1 := conv64 (l.getD i default).toNat (by omega)
    have c3 : (l.getD i default).toNat * 2 ^ (8 * i) < 18446744073709551616 := by
      have h2 := getTo_lt l (i + 1)
      have h3 : 2 ^ (8 * (i + 1)) ≤ 2 ^ 64 := Nat.pow_le_pow_right (by decide) (by omega)
      have h4 : getTo l (i + 1) = getTo l i + (l.getD i default).toNat * 2 ^ (8 * i) := rfl
      have h5 : (2 : Nat) ^ 64 = 18446744073709551616 := rfl
      omega
    have c2 := shl64 (l.getD i default).toNat (8 * i) (by omega) c3
    have c4 := or_join l i (by omega)
    clear c3
    repeat' first
      | simp -dsimp (disch := omega) only [↓rulesA, rulesB, rulesC, Int.reduceLT, nth, upd, put, storeN, AV.one, Nat.reduceBEq, Nat.reduceBNe, Int.reduceBEq, Int.reduceBNe, Int.reduceLE, Int.reduceEq, Int.reduceMod, Int.reduceNeg, boolBin, strBin, intBin, unA, fillA, ne_eq, reduceCtorEq, Nat.reduceAdd, Nat.reduceSub, Nat.reduceLeDiff, Nat.reduceLT, Nat.reduceEqDiff, Int.reduceToNat, eq_self, rulesT, rulesD, ix_44, byte_g0, natNeg', *]
      | (refine allK_intro fun n hn => ?_; try simp only [fresh_set] at hn)
      | (refine ifK_intro (fun h => ?_) (fun h => ?_) <;> (try simp only [rulesE] at h) <;> try (exfalso; (try simp only [rulesF] at h); omega))
      | (refine keeps_sub (Mem.sub_set ?_) ?_; focus (simp [Mem.set_at, nomem, *]; done))
    refine again_intro (l.length - (i + 1)) (by omega) _ (Mem.sub.refl _) ⟨i + 1, by omega, rfl, rfl, ?_, ?_, ?_, ?_, ?_⟩
    all_goals try (simp (disch := omega) only [nth_upd, pickB_true, pickB_false, inB_lt, upd_len, cast_succ, Int.cast_ofNat_Int, Nat.reduceBEq, beq_self_eq_true, reduceCtorEq, *]; done)
  · have : i = l.length := by omega
    subst this
    repeat' first
      | simp -dsimp (disch := omega) only [↓rulesA, rulesB, rulesC, Int.reduceLT, nth, upd, put, storeN, AV.one, Nat.reduceBEq, Nat.reduceBNe, Int.reduceBEq, Int.reduceBNe, Int.reduceLE, Int.reduceEq, Int.reduceMod, Int.reduceNeg, boolBin, strBin, intBin, unA, fillA, ne_eq, reduceCtorEq, Nat.reduceAdd, Nat.reduceSub, Nat.reduceLeDiff, Nat.reduceLT, Nat.reduceEqDiff, Int.reduceToNat, eq_self, rulesT, rulesD, *]
      | (refine allK_intro fun n hn => ?_; try simp only [fresh_set] at hn)
      | (refine ifK_intro (fun h => ?_) (fun h => ?_) <;> (try simp only [rulesE] at h) <;> try (exfalso; (try simp only [rulesF] at h); omega))
      | (refine keeps_sub (Mem.sub_set ?_) ?_; focus (simp [Mem.set_at, nomem, *]; done))
    exact .val
end Go.Proofs.Ytlkeailgccbmbaa

set_option maxRecDepth 100000
set_option maxHeartbeats 1000000
set_option linter.unusedSimpArgs false
set_option linter.unusedVariables false
namespace Go.Proofs.Ytlkeailgccbmbaa
open Go.Abs
attribute [local irreducible] C X CC Y CV CW binK litK AppK PureC PureCV againK loopV rangeV allK ifK got onB condK V stepsK planK opK firstK seeE keepsK
theorem xor32 (a b : Nat) (ha : a < 4294967296) (hb : b < 4294967296) : bits .xor .u32 (a : Int) (b : Int) = ((a ^^^ b : Nat) : Int) := u32_xor_nat a b ha hb
theorem xor_lt {a b : Nat} (ha : a < 4294967296) (hb : b < 4294967296) : a ^^^ b < 4294967296 := Nat.xor_lt_two_pow (n := 32) ha hb
theorem wrap32_u8 (a : Nat) (h : a < 256) : IntKind.u32.wrap (a : Int) = (a : Int) := by rw [IntKind.wrap_u32']; omega
theorem and1 (c : Nat) (h : c < 4294967296) : bits .and .u32 (c : Int) 1 = ((c % 2 : Nat) : Int) := by
  have := u32_and_nat c 1 h (by decide)
  rw [Nat.and_one_is_mod] at this; exact this
def mN (c : Nat) : Nat := if c % 2 = 1 then 4294967295 else 0
def pN (c : Nat) : Nat := if c % 2 = 1 then 2197175160 else 0
theorem pN_lt (c : Nat) : pN c < 4294967296 := by unfold pN; split <;> omega
theorem neg1 (c : Nat) : IntKind.u32.wrap (0 - ((c % 2 : Nat) : Int)) = (mN c : Int) := by
  rw [IntKind.wrap_u32']; unfold mN; split <;> omega
theorem andp (c : Nat) : bits .and .u32 2197175160 (mN c : Int) = (pN c : Int) := by
  unfold mN pN; split <;> decide +kernel
def bitN (c : Nat) : Nat := (c / 2) ^^^ pN c
theorem bitN_lt {c : Nat} (h : c < 4294967296) : bitN c < 4294967296 := xor_lt (by omega) (pN_lt c)
def bitsTo (c : Nat) : Nat → Nat
  | 0 => c
  | i + 1 => bitN (bitsTo c i)
theorem bitsTo_lt {c : Nat} (h : c < 4294967296) : ∀ i, bitsTo c i < 4294967296
  | 0 => h
  | i + 1 => bitN_lt (bitsTo_lt h i)
def crcTo (l : List UInt8) : Nat → Nat
  | 0 => 4294967295
  | i + 1 => bitsTo (crcTo l i ^^^ (l.getD i default).toNat) 8
theorem crcTo_lt (l : List UInt8) : ∀ i, crcTo l i < 4294967296
  | 0 => show 4294967295 < 4294967296 by decide
  | i + 1 => bitsTo_lt (xor_lt (crcTo_lt l i) (by have : (l.getD i default).toNat < 256 := UInt8.toNat_lt _; omega)) 8
def crcN (l : List UInt8) : Nat := 4294967295 ^^^ crcTo l l.length
theorem ones32 : (if IntKind.u32.signed = true then (-1 : Int) else IntKind.u32.max) = ((4294967295 : Nat) : Int) := by decide
theorem crcN_lt (l : List UInt8) : crcN l < 4294967296 := xor_lt (by decide) (crcTo_lt l _)
theorem F52 (l : List UInt8) (x : Bool) (hl : l.length ≤ 140737488355328) : F Try.prog 52 [.vs (l.map byteC) x] (.val (.int .u32 (crcN l))) := by
  refine F52_of ?_
  unfold k52
  repeat' first
    | simp -dsimp (disch := omega) only [↓rulesA, rulesB, rulesC, Int.reduceLT, nth, upd, put, storeN, AV.one, Nat.reduceBEq, Nat.reduceBNe, Int.reduceBEq, Int.reduceBNe, Int.reduceLE, Int.reduceEq, Int.reduceMod, Int.reduceNeg, boolBin, strBin, intBin, unA, fillA, ne_eq, reduceCtorEq, Nat.reduceAdd, Nat.reduceSub, Nat.reduceLeDiff, Nat.reduceLT, Nat.reduceEqDiff, Int.reduceToNat, eq_self, rulesT, rulesD, *]
    | (refine allK_intro fun n hn => ?_; try simp only [fresh_set] at hn)
    | (refine ifK_intro (fun h => ?_) (fun h => ?_) <;> (try simp only [rulesE] at h) <;> try (exfalso; (try simp only [rulesF] at h); omega))
    | (refine keeps_sub (Mem.sub_set ?_) ?_; focus (simp [Mem.set_at, nomem, *]; done))
  refine loop_intro (fun j env m => ∃ i : Nat, i ≤ l.length ∧ j = l.length - i ∧ m = nomem ∧ env.length = 29 ∧ nth env 3 = .val (.int .u32 (crcTo l i)) ∧ nth env 6 = .vs (l.map byteC) x ∧ nth env 7 = .val (.int .i64 l.length) ∧ nth env 8 = .val (.int .i64 i)) l.length _ (Mem.sub.refl _) ⟨0, by omega, by omega, rfl, rfl, rfl, rfl, rfl, rfl⟩ ?_
  rintro j env m ⟨i, hi, rfl, rfl, hlen, e3, e6, e7, e8⟩
  by_cases hil : i < l.length
  · have hb : (l.getD i default).toNat < 256 := UInt8.toNat_lt _
    have hc := crcTo_lt l i
    have hx := xor_lt hc (show (l.getD i default).toNat < 4294967296 by omega)
    repeat' first
      | simp -dsimp (disch := omega) only [↓rulesA, rulesB, rulesC, Int.reduceLT, nth, upd, put, storeN, AV.one, Nat.reduceBEq, Nat.reduceBNe, Int.reduceBEq, Int.reduceBNe, Int.reduceLE, Int.reduceEq, Int.reduceMod, Int.reduceNeg, boolBin, strBin, intBin, unA, fillA, ne_eq, reduceCtorEq, Nat.reduceAdd, Nat.reduceSub, Nat.reduceLeDiff, Nat.reduceLT, Nat.reduceEqDiff, Int.reduceToNat, eq_self, rulesT, rulesD, ix_44, byte_g0, wrap32_u8, xor32, *]
      | (refine allK_intro fun n hn => ?_; try simp only [fresh_set] at hn)
      | (refine ifK_intro (fun h => ?_) (fun h => ?_) <;> (try simp only [rulesE] at h) <;> try (exfalso; (try simp only [rulesF] at h); omega))
      | (refine keeps_sub (Mem.sub_set ?_) ?_; focus (simp [Mem.set_at, nomem, *]; done))
    refine loop_intro (fun j env m => ∃ k : Nat, k ≤ 8 ∧ j = 8 - k ∧ m = nomem ∧ env.length = 29 ∧ nth env 3 = .val (.int .u32 (bitsTo (crcTo l i ^^^ (l.getD i default).toNat) k)) ∧ nth env 6 = .vs (l.map byteC) x ∧ nth env 7 = .val (.int .i64 l.length) ∧ nth env 8 = .val (.int .i64 i) ∧ nth env 16 = .val (.int .i64 k)) 8 _ (Mem.sub.refl _) ⟨0, by omega, by omega, rfl, ?_, ?_, ?_, ?_, ?_, ?_⟩ ?_
    rotate_left 6
    · rintro j env m ⟨k, hk, rfl, rfl, hlen, e3, e6, e7, e8, e16⟩
      by_cases hk8 : k < 8
      · obtain ⟨c, ec⟩ : ∃ c, c = bitsTo (crcTo l i ^^^ (l.getD i default).toNat) k := ⟨_, rfl⟩
        have hcl : c < 4294967296 := by rw [ec]; exact bitsTo_lt hx k
        have hn : bitsTo (crcTo l i ^^^ (l.getD i default).toNat) (k + 1) = c / 2 ^^^ pN c := by rw [ec]; rfl
        have hp := pN_lt c
        rw [← ec] at e3
        clear ec hx
        repeat' first
          | simp -dsimp (disch := omega) only [↓rulesA, rulesB, rulesC, Int.reduceLT, nth, upd, put, storeN, AV.one, Nat.reduceBEq, Nat.reduceBNe, Int.reduceBEq, Int.reduceBNe, Int.reduceLE, Int.reduceEq, Int.reduceMod, Int.reduceNeg, boolBin, strBin, intBin, unA, fillA, ne_eq, reduceCtorEq, Nat.reduceAdd, Nat.reduceSub, Nat.reduceLeDiff, Nat.reduceLT, Nat.reduceEqDiff, Int.reduceToNat, eq_self, rulesT, rulesD, shr32, and1, neg1, andp, xor32, Nat.pow_one, *]
          | (refine allK_intro fun n hn => ?_; try simp only [fresh_set] at hn)
          | (refine ifK_intro (fun h => ?_) (fun h => ?_) <;> (try simp only [rulesE] at h) <;> try (exfalso; (try simp only [rulesF] at h); omega))
          | (refine keeps_sub (Mem.sub_set ?_) ?_; focus (simp [Mem.set_at, nomem, *]; done))
        refine again_intro (8 - (k + 1)) (by omega) _ (Mem.sub.refl _) ⟨k + 1, by omega, rfl, rfl, ?_, ?_, ?_, ?_, ?_, ?_⟩
        all_goals try (simp (disch := omega) only [nth_upd, pickB_true, pickB_false, inB_lt, upd_len, cast_succ, Int.cast_ofNat_Int, Nat.reduceBEq, beq_self_eq_true, reduceCtorEq, *]; done)
      · have : k = 8 := by omega
        subst this
        have hn : bitsTo (crcTo l i ^^^ (l.getD i default).toNat) 8 = crcTo l (i + 1) := rfl
        repeat' first
          | simp -dsimp (disch := omega) only [↓rulesA, rulesB, rulesC, Int.reduceLT, nth, upd, put, storeN, AV.one, Nat.reduceBEq, Nat.reduceBNe, Int.reduceBEq, Int.reduceBNe, Int.reduceLE, Int.reduceEq, Int.reduceMod, Int.reduceNeg, boolBin, strBin, intBin, unA, fillA, ne_eq, reduceCtorEq, Nat.reduceAdd, Nat.reduceSub, Nat.reduceLeDiff, Nat.reduceLT, Nat.reduceEqDiff, Int.reduceToNat, eq_self, rulesT, rulesD, *]
          | (refine allK_intro fun n hn => ?_; try simp only [fresh_set] at hn)
          | (refine ifK_intro (fun h => ?_) (fun h => ?_) <;> (try simp only [rulesE] at h) <;> try (exfalso; (try simp only [rulesF] at h); omega))
          | (refine keeps_sub (Mem.sub_set ?_) ?_; focus (simp [Mem.set_at, nomem, *]; done))
        refine again_intro (l.length - (i + 1)) (by omega) _ (Mem.sub.refl _) ⟨i + 1, by omega, rfl, rfl, ?_, ?_, ?_, ?_, ?_⟩
        all_goals try (simp (disch := omega) only [nth_upd, pickB_true, pickB_false, inB_lt, upd_len, cast_succ, Int.cast_ofNat_Int, Nat.reduceBEq, beq_self_eq_true, reduceCtorEq, *]; done)
    all_goals first | (have h0 : bitsTo (crcTo l i ^^^ (l.getD i default).toNat) 0 = crcTo l i ^^^ (l.getD i default).toNat := rfl); skip
    all_goals try (simp (disch := omega) only [nth_upd, pickB_true, pickB_false, inB_lt, upd_len, cast_succ, Int.cast_ofNat_Int, Nat.reduceBEq, beq_self_eq_true, reduceCtorEq, *]; done)
  · have : i = l.length := by omega
    subst this
    have hc := crcTo_lt l l.length
    repeat' first
      | simp -dsimp (disch := omega) only [↓rulesA, rulesB, rulesC, Int.reduceLT, nth, upd, put, storeN, AV.one, Nat.reduceBEq, Nat.reduceBNe, Int.reduceBEq, Int.reduceBNe, Int.reduceLE, Int.reduceEq, Int.reduceMod, Int.reduceNeg, boolBin, strBin, intBin, unA, fillA, ne_eq, reduceCtorEq, Nat.reduceAdd, Nat.reduceSub, Nat.reduceLeDiff, Nat.reduceLT, Nat.reduceEqDiff, Int.reduceToNat, eq_self, rulesT, rulesD, *]
      | (refine allK_intro fun n hn => ?_; try simp only [fresh_set] at hn)
      | (refine ifK_intro (fun h => ?_) (fun h => ?_) <;> (try simp only [rulesE] at h) <;> try (exfalso; (try simp only [rulesF] at h); omega))
      | (refine keeps_sub (Mem.sub_set ?_) ?_; focus (simp [Mem.set_at, nomem, *]; done))
    refine New.eq ?_ rfl
    rw [ones32, xor32 _ _ (by decide) hc]; rfl
end Go.Proofs.Ytlkeailgccbmbaa

set_option maxRecDepth 100000
set_option maxHeartbeats 1000000
set_option linter.unusedSimpArgs false
set_option linter.unusedVariables false
namespace Go.Proofs.Ytlkeailgccbmbaa
open Go.Abs
attribute [local irreducible] C X CC Y CV CW binK litK AppK PureC PureCV againK loopV rangeV allK ifK got onB condK V stepsK planK opK firstK seeE keepsK
def Row (l : List UInt8) (v : AV) (m : Mem) : Prop :=
  (l = [] ∧ m = nomem ∧ v = .val (.slice none 0 0)) ∨ (m = nomem ∧ v = .vs (l.map byteC) true) ∨ ∃ N, m = nomem.set N (.cells true 5 (l.map byteC).flatten) ∧ v = .sl N 0 l.length l.length
theorem row_len1 (l : List UInt8) : (l.map byteC).flatten.length = l.length := by rw [row_len byteC (s := 1) byteC_len l, Nat.mul_one]
theorem row_app (l s : List UInt8) : (l.map byteC).flatten ++ (s.map byteC).flatten = ((l ++ s).map byteC).flatten := by rw [← List.flatten_append, ← List.map_append]
theorem src_44' (m : Mem) (l : List UInt8) (x : Bool) : srcA Try.prog m 44 1 (.vs (l.map byteC) x) = some (l.length, (l.map byteC).flatten) := src_vs byteC ti_44 rfl (fun _ => ⟨rfl, rfl⟩) m l x
def Own (l : List UInt8) (v : AV) (m : Mem) : Prop := ∃ N, m = nomem.set N (.cells true 5 (l.map byteC).flatten) ∧ v = .sl N 0 l.length l.length
theorem Own.row {l : List UInt8} {v : AV} {m : Mem} (h : Own l v m) : Row l v m := .inr (.inr h)
theorem Own.app {l : List UInt8} {v : AV} {m : Mem} (h : Own l v m) (s : List UInt8) (hlen : l.length + s.length ≤ 140737488355328) {t : TypeId} {y : AV} (ht : AppT Try.prog 44 t 5 ⟨(Go.TypeDesc.int Go.IntKind.u8), 1, 1, (some (Go.Value.int Go.IntKind.u8 0))⟩ [.val (Go.Value.int Go.IntKind.u8 0)]) (hy : srcA Try.prog m t 1 y = some (s.length, (s.map byteC).flatten))
    {K' : AV → Mem → Prop} {x : Hid K'} (hk : ∀ r m', Own (l ++ s) r m' → K' r m') : AppK Try.prog 44 t v y m (hid K' x) := by
  obtain ⟨N, rfl, rfl⟩ := h
  refine append_open ht hy (Mem.set_same _ _ _) cs_5 (by show 0 + l.length * 1 = _; rw [row_len1]; omega) (by show (l.length + s.length) * 1 ≤ _; omega) fun N' hN => hk _ _ ⟨N', ?_, ?_⟩
  · rw [List.drop_zero, row_app, Mem.del_set_eq, nomem_del]
  · rw [List.length_append]
theorem Row.app {l : List UInt8} {v : AV} {m : Mem} (h : Row l v m) (s : List UInt8) (hs0 : 0 < s.length) (hlen : l.length + s.length ≤ 140737488355328) {y : AV} (hy : srcA Try.prog m 44 1 y = some (s.length, (s.map byteC).flatten))
    {K' : AV → Mem → Prop} {x : Hid K'} (hk : ∀ r m', Own (l ++ s) r m' → K' r m') : AppK Try.prog 44 44 v y m (hid K' x) := by
  rcases h with ⟨rfl, rfl, rfl⟩ | ⟨rfl, rfl⟩ | ⟨N, rfl, rfl⟩
  · refine append_nil app_44 hy (by show s.length * 1 ≤ _; omega) fun N hN => hk _ _ ⟨N, rfl, rfl⟩
  · refine append_vs app_44 hy hs0 (fun e he => by obtain ⟨b, _, rfl⟩ := List.mem_map.1 he; rfl) (by show ((l.map byteC).length + s.length) * 1 ≤ _; rw [List.length_map]; omega) fun N hN => hk _ _ ⟨N, ?_, ?_⟩
    · rw [row_app]
    · rw [List.length_map, List.length_append]
  · refine append_open app_44 hy (Mem.set_same _ _ _) cs_5 (by show 0 + l.length * 1 = _; rw [row_len1]; omega) (by show (l.length + s.length) * 1 ≤ _; omega) fun N' hN => hk _ _ ⟨N', ?_, ?_⟩
    · rw [List.drop_zero, row_app, Mem.del_set_eq, nomem_del]
    · rw [List.length_append]
def byteAt (x i : Nat) : UInt8 := UInt8.ofNat (x / 2 ^ (8 * i))
def numB (x : Nat) : Nat → List UInt8
  | 0 => []
  | i + 1 => numB x i ++ [byteAt x i]
theorem numB_len (x : Nat) : ∀ k, (numB x k).length = k
  | 0 => rfl
  | k + 1 => by unfold numB; rw [List.length_append, numB_len x k]; rfl
theorem wrap8_at (x i : Nat) (h : 8 * i ≤ 64) : IntKind.u8.wrap ((x : Int).fdiv (2 ^ min (8 * i) IntKind.u64.bits)) = (((byteAt x i).toNat : Nat) : Int) := by
  rw [shr64 _ _ h, IntKind.wrap_u8']
  unfold byteAt
  rw [UInt8.toNat_ofNat']
  omega
theorem C36 {l : List UInt8} {v : AV} {m : Mem} (h : Row l v m) (hl : l.length ≤ 1000000) (x : Nat) (hx : x < 18446744073709551616) (k : Nat) (hk : k ≤ 8) : C Try.prog 36 [v, .val (.int .u64 x), .val (.int .i64 k)] m (fun r m' => Row (l ++ numB x k) r m' ∧ (0 < k → Own (l ++ numB x k) r m')) := by
  refine C36_of ?_
  unfold k36
  repeat' first
    | simp -dsimp (disch := omega) only [↓rulesA, rulesB, rulesC, Int.reduceLT, nth, upd, put, storeN, AV.one, Nat.reduceBEq, Nat.reduceBNe, Int.reduceBEq, Int.reduceBNe, Int.reduceLE, Int.reduceEq, Int.reduceMod, Int.reduceNeg, boolBin, strBin, intBin, unA, fillA, ne_eq, reduceCtorEq, Nat.reduceAdd, Nat.reduceSub, Nat.reduceLeDiff, Nat.reduceLT, Nat.reduceEqDiff, Int.reduceToNat, eq_self, rulesT, rulesD, *]
    | (refine allK_intro fun n hn => ?_; try simp only [fresh_set] at hn)
    | (refine ifK_intro (fun h => ?_) (fun h => ?_) <;> (try simp only [rulesE] at h) <;> try (exfalso; (try simp only [rulesF] at h); omega))
    | (refine keeps_sub (Mem.sub_set ?_) ?_; focus (simp [Mem.set_at, nomem, *]; done))
  refine loop_intro (fun j env m => ∃ (i : Nat), i ≤ k ∧ j = k - i ∧ Row (l ++ numB x i) (nth env 0) m ∧ (0 < i → Own (l ++ numB x i) (nth env 0) m) ∧ env.length = 22 ∧ nth env 1 = .val (.int .u64 x) ∧ nth env 8 = .val (.int .i64 k) ∧ nth env 9 = .val (.int .i64 i)) k _ (Mem.sub.refl _) ⟨0, by omega, by omega, by rw [show numB x 0 = [] from rfl, List.append_nil]; exact h, fun h => absurd h (by omega), rfl, rfl, rfl, rfl⟩ ?_
  clear h
  rintro j env m ⟨i, hi, rfl, hR, hO, hlen, e1, e8, e9⟩
  generalize e0 : nth env 0 = v0 at hR hO
  by_cases hik : i < k
  · have h8 : (8 : Int) * (i : Int) = ((8 * i : Nat) : Int) := by omega
    have hw := wrap8_at x i (by omega)
    repeat' first
      | simp -dsimp (disch := omega) only [↓rulesA, rulesB, rulesC, Int.reduceLT, nth, upd, put, storeN, AV.one, Nat.reduceBEq, Nat.reduceBNe, Int.reduceBEq, Int.reduceBNe, Int.reduceLE, Int.reduceEq, Int.reduceMod, Int.reduceNeg, boolBin, strBin, intBin, unA, fillA, ne_eq, reduceCtorEq, Nat.reduceAdd, Nat.reduceSub, Nat.reduceLeDiff, Nat.reduceLT, Nat.reduceEqDiff, Int.reduceToNat, eq_self, rulesT, rulesD, natNeg', *]
      | (refine allK_intro fun n hn => ?_; try simp only [fresh_set] at hn)
      | (refine ifK_intro (fun h => ?_) (fun h => ?_) <;> (try simp only [rulesE] at h) <;> try (exfalso; (try simp only [rulesF] at h); omega))
      | (refine keeps_sub (Mem.sub_set ?_) ?_; focus (simp [Mem.set_at, nomem, *]; done))
    refine lit_vs (lit1_44 _) rfl ?_
    rw [chunk_one]
    repeat' first
      | simp -dsimp (disch := omega) only [↓rulesA, rulesB, rulesC, Int.reduceLT, nth, upd, put, storeN, AV.one, Nat.reduceBEq, Nat.reduceBNe, Int.reduceBEq, Int.reduceBNe, Int.reduceLE, Int.reduceEq, Int.reduceMod, Int.reduceNeg, boolBin, strBin, intBin, unA, fillA, ne_eq, reduceCtorEq, Nat.reduceAdd, Nat.reduceSub, Nat.reduceLeDiff, Nat.reduceLT, Nat.reduceEqDiff, Int.reduceToNat, eq_self, rulesT, rulesD, *]
      | (refine allK_intro fun n hn => ?_; try simp only [fresh_set] at hn)
      | (refine ifK_intro (fun h => ?_) (fun h => ?_) <;> (try simp only [rulesE] at h) <;> try (exfalso; (try simp only [rulesF] at h); omega))
      | (refine keeps_sub (Mem.sub_set ?_) ?_; focus (simp [Mem.set_at, nomem, *]; done))
    have hn := numB_len x i
    refine hR.app [byteAt x i] Nat.zero_lt_one (by rw [List.length_append]; show _ + 1 ≤ _; omega) (src_44' _ [byteAt x i] true) fun r m' hR' => ?_
    rw [List.append_assoc] at hR'
    have e : ∀ w, w = r → Row (l ++ numB x (i + 1)) w m' := fun w hw => by rw [hw]; exact hR'.row
    have e2 : ∀ w, w = r → 0 < i + 1 → Own (l ++ numB x (i + 1)) w m' := fun w hw _ => by rw [hw]; exact hR'
    clear hR hn hR' hO
    replace e : Kept _ := e
    replace e2 : Kept _ := e2
    repeat' first
      | simp -dsimp (disch := omega) only [↓rulesA, rulesB, rulesC, Int.reduceLT, nth, upd, put, storeN, AV.one, Nat.reduceBEq, Nat.reduceBNe, Int.reduceBEq, Int.reduceBNe, Int.reduceLE, Int.reduceEq, Int.reduceMod, Int.reduceNeg, boolBin, strBin, intBin, unA, fillA, ne_eq, reduceCtorEq, Nat.reduceAdd, Nat.reduceSub, Nat.reduceLeDiff, Nat.reduceLT, Nat.reduceEqDiff, Int.reduceToNat, eq_self, rulesT, rulesD, *]
      | (refine allK_intro fun n hn => ?_; try simp only [fresh_set] at hn)
      | (refine ifK_intro (fun h => ?_) (fun h => ?_) <;> (try simp only [rulesE] at h) <;> try (exfalso; (try simp only [rulesF] at h); omega))
      | (refine keeps_sub (Mem.sub_set ?_) ?_; focus (simp [Mem.set_at, nomem, *]; done))
    refine again_intro (k - (i + 1)) (by omega) _ (Mem.sub.refl _) ⟨i + 1, by omega, rfl, (e : ∀ _, _) _ ?_, (e2 : ∀ _, _) _ ?_, ?_, ?_, ?_, ?_⟩
    all_goals try (simp (disch := omega) only [nth_upd, pickB_true, pickB_false, inB_lt, upd_len, cast_succ, Int.cast_ofNat_Int, Nat.reduceBEq, beq_self_eq_true, reduceCtorEq, *]; done)
  · replace hO : Kept _ := hO
    have : i = k := by omega
    subst this
    repeat' first
      | simp -dsimp (disch := omega) only [↓rulesA, rulesB, rulesC, Int.reduceLT, nth, upd, put, storeN, AV.one, Nat.reduceBEq, Nat.reduceBNe, Int.reduceBEq, Int.reduceBNe, Int.reduceLE, Int.reduceEq, Int.reduceMod, Int.reduceNeg, boolBin, strBin, intBin, unA, fillA, ne_eq, reduceCtorEq, Nat.reduceAdd, Nat.reduceSub, Nat.reduceLeDiff, Nat.reduceLT, Nat.reduceEqDiff, Int.reduceToNat, eq_self, rulesT, rulesD, *]
      | (refine allK_intro fun n hn => ?_; try simp only [fresh_set] at hn)
      | (refine ifK_intro (fun h => ?_) (fun h => ?_) <;> (try simp only [rulesE] at h) <;> try (exfalso; (try simp only [rulesF] at h); omega))
      | (refine keeps_sub (Mem.sub_set ?_) ?_; focus (simp [Mem.set_at, nomem, *]; done))
    all_goals first | exact hO | exact ⟨hR, hO⟩
def sumN (n : Nat) (rec : List UInt8) : Nat := crcN (numB n 8 ++ numB rec.length 4 ++ rec)
theorem sumN_lt (n : Nat) (rec : List UInt8) : sumN n rec < 4294967296 := crcN_lt _
theorem byte_seen (l : List UInt8) {m : Mem} {n cap : Nat} {opn : Bool} {t : TypeId} (hm : m n = some (.cells opn t (l.map byteC).flatten)) : Seen m (.sl n 0 l.length cap) (.vs (l.map byteC) false) := Seen.row byteC (s := 1) byteC_len l hm
theorem F37 (n : Nat) (hn : n < 9223372036854775808) (rec : List UInt8) (y : Bool) (hl : rec.length ≤ 1000000) : F Try.prog 37 [.val (.int .i64 n), .vs (rec.map byteC) y] (.val (.int .u32 (sumN n rec))) := by
  refine F37_of ?_
  unfold k37
  have c1 := conv64 n (by omega)
  have c2 := conv64 rec.length (by omega)
  repeat' first
    | simp -dsimp (disch := omega) only [↓rulesA, rulesB, rulesC, Int.reduceLT, nth, upd, put, storeN, AV.one, Nat.reduceBEq, Nat.reduceBNe, Int.reduceBEq, Int.reduceBNe, Int.reduceLE, Int.reduceEq, Int.reduceMod, Int.reduceNeg, boolBin, strBin, intBin, unA, fillA, ne_eq, reduceCtorEq, Nat.reduceAdd, Nat.reduceSub, Nat.reduceLeDiff, Nat.reduceLT, Nat.reduceEqDiff, Int.reduceToNat, eq_self, rulesT, rulesD, *]
    | (refine allK_intro fun n hn => ?_; try simp only [fresh_set] at hn)
    | (refine ifK_intro (fun h => ?_) (fun h => ?_) <;> (try simp only [rulesE] at h) <;> try (exfalso; (try simp only [rulesF] at h); omega))
    | (refine keeps_sub (Mem.sub_set ?_) ?_; focus (simp [Mem.set_at, nomem, *]; done))
  refine call_C (C36 (.inl ⟨rfl, rfl, rfl⟩) (by decide) n (by omega) 8 (by decide)) fun r m1 ⟨hR, _⟩ => ?_
  repeat' first
    | simp -dsimp (disch := omega) only [↓rulesA, rulesB, rulesC, Int.reduceLT, nth, upd, put, storeN, AV.one, Nat.reduceBEq, Nat.reduceBNe, Int.reduceBEq, Int.reduceBNe, Int.reduceLE, Int.reduceEq, Int.reduceMod, Int.reduceNeg, boolBin, strBin, intBin, unA, fillA, ne_eq, reduceCtorEq, Nat.reduceAdd, Nat.reduceSub, Nat.reduceLeDiff, Nat.reduceLT, Nat.reduceEqDiff, Int.reduceToNat, eq_self, rulesT, rulesD, *]
    | (refine allK_intro fun n hn => ?_; try simp only [fresh_set] at hn)
    | (refine ifK_intro (fun h => ?_) (fun h => ?_) <;> (try simp only [rulesE] at h) <;> try (exfalso; (try simp only [rulesF] at h); omega))
    | (refine keeps_sub (Mem.sub_set ?_) ?_; focus (simp [Mem.set_at, nomem, *]; done))
  refine call_C (C36 hR (by rw [List.nil_append, numB_len]; decide) rec.length (by omega) 4 (by decide)) fun r m1 ⟨_, hO⟩ => ?_
  replace hO := hO (by decide)
  rw [List.nil_append] at hO
  clear hR
  repeat' first
    | simp -dsimp (disch := omega) only [↓rulesA, rulesB, rulesC, Int.reduceLT, nth, upd, put, storeN, AV.one, Nat.reduceBEq, Nat.reduceBNe, Int.reduceBEq, Int.reduceBNe, Int.reduceLE, Int.reduceEq, Int.reduceMod, Int.reduceNeg, boolBin, strBin, intBin, unA, fillA, ne_eq, reduceCtorEq, Nat.reduceAdd, Nat.reduceSub, Nat.reduceLeDiff, Nat.reduceLT, Nat.reduceEqDiff, Int.reduceToNat, eq_self, rulesT, rulesD, *]
    | (refine allK_intro fun n hn => ?_; try simp only [fresh_set] at hn)
    | (refine ifK_intro (fun h => ?_) (fun h => ?_) <;> (try simp only [rulesE] at h) <;> try (exfalso; (try simp only [rulesF] at h); omega))
    | (refine keeps_sub (Mem.sub_set ?_) ?_; focus (simp [Mem.set_at, nomem, *]; done))
  refine hO.app rec (by rw [List.length_append, numB_len, numB_len]; omega) app_44 (src_44' _ rec _) fun r m' ⟨N, hm, hr⟩ => ?_
  subst hm hr
  repeat' first
    | simp -dsimp (disch := omega) only [↓rulesA, rulesB, rulesC, Int.reduceLT, nth, upd, put, storeN, AV.one, Nat.reduceBEq, Nat.reduceBNe, Int.reduceBEq, Int.reduceBNe, Int.reduceLE, Int.reduceEq, Int.reduceMod, Int.reduceNeg, boolBin, strBin, intBin, unA, fillA, ne_eq, reduceCtorEq, Nat.reduceAdd, Nat.reduceSub, Nat.reduceLeDiff, Nat.reduceLT, Nat.reduceEqDiff, Int.reduceToNat, eq_self, rulesT, rulesD, *]
    | (refine allK_intro fun n hn => ?_; try simp only [fresh_set] at hn)
    | (refine ifK_intro (fun h => ?_) (fun h => ?_) <;> (try simp only [rulesE] at h) <;> try (exfalso; (try simp only [rulesF] at h); omega))
    | (refine keeps_sub (Mem.sub_set ?_) ?_; focus (simp [Mem.set_at, nomem, *]; done))
  refine call_F (F52 (numB n 8 ++ numB rec.length 4 ++ rec) false (by rw [List.length_append, List.length_append, numB_len, numB_len]; omega)) (.one (byte_seen _ (Mem.set_same _ _ _))) ?_
  repeat' first
    | simp -dsimp (disch := omega) only [↓rulesA, rulesB, rulesC, Int.reduceLT, nth, upd, put, storeN, AV.one, Nat.reduceBEq, Nat.reduceBNe, Int.reduceBEq, Int.reduceBNe, Int.reduceLE, Int.reduceEq, Int.reduceMod, Int.reduceNeg, boolBin, strBin, intBin, unA, fillA, ne_eq, reduceCtorEq, Nat.reduceAdd, Nat.reduceSub, Nat.reduceLeDiff, Nat.reduceLT, Nat.reduceEqDiff, Int.reduceToNat, eq_self, rulesT, rulesD, *]
    | (refine allK_intro fun n hn => ?_; try simp only [fresh_set] at hn)
    | (refine ifK_intro (fun h => ?_) (fun h => ?_) <;> (try simp only [rulesE] at h) <;> try (exfalso; (try simp only [rulesF] at h); omega))
    | (refine keeps_sub (Mem.sub_set ?_) ?_; focus (simp [Mem.set_at, nomem, *]; done))
  exact .val
end Go.Proofs.Ytlkeailgccbmbaa

set_option maxRecDepth 100000
set_option maxHeartbeats 1000000
set_option linter.unusedSimpArgs false
set_option linter.unusedVariables false
namespace Go.Proofs.Ytlkeailgccbmbaa
open Go.Abs
attribute [local irreducible] C X CC Y CV CW binK litK AppK PureC PureCV againK loopV rangeV allK ifK got onB condK V stepsK planK opK firstK seeE keepsK
structure Jour where
  from_ : Nat
  end_ : Nat
  at_ : Nat
  next : Nat
  dead : Bool
def Jour.rc (j : Jour) (d : Dev) (x y : Bool) : List AV := [.vp (d.rc x y) 0, .val (.int .i64 j.from_), .val (.int .i64 j.end_), .val (.int .i64 j.at_), .val (.int .i64 j.next), .val (.bool j.dead)]
theorem Jour.r0 (j : Jour) (d : Dev) (x y : Bool) : (j.rc d x y)[0]? = some (.vp (d.rc x y) 0) := rfl
theorem Jour.r1 (j : Jour) (d : Dev) (x y : Bool) : (j.rc d x y)[1]? = some (.val (.int .i64 j.from_)) := rfl
theorem Jour.r2 (j : Jour) (d : Dev) (x y : Bool) : (j.rc d x y)[2]? = some (.val (.int .i64 j.end_)) := rfl
theorem Jour.r3 (j : Jour) (d : Dev) (x y : Bool) : (j.rc d x y)[3]? = some (.val (.int .i64 j.at_)) := rfl
theorem Jour.r4 (j : Jour) (d : Dev) (x y : Bool) : (j.rc d x y)[4]? = some (.val (.int .i64 j.next)) := rfl
theorem Jour.r5 (j : Jour) (d : Dev) (x y : Bool) : (j.rc d x y)[5]? = some (.val (.bool j.dead)) := rfl
theorem Jour.rlen (j : Jour) (d : Dev) (x y : Bool) : (j.rc d x y).length = 6 := rfl
theorem F35 (j : Jour) (d : Dev) (x y : Bool) : F Try.prog 35 [.vp (j.rc d x y) 0] (.val (.bool false)) := by
  refine F35_of ?_
  unfold k35
  repeat' first
    | simp -dsimp (disch := omega) only [↓rulesA, rulesB, rulesC, Int.reduceLT, nth, upd, put, storeN, AV.one, Nat.reduceBEq, Nat.reduceBNe, Int.reduceBEq, Int.reduceBNe, Int.reduceLE, Int.reduceEq, Int.reduceMod, Int.reduceNeg, boolBin, strBin, intBin, unA, fillA, ne_eq, reduceCtorEq, Nat.reduceAdd, Nat.reduceSub, Nat.reduceLeDiff, Nat.reduceLT, Nat.reduceEqDiff, Int.reduceToNat, eq_self, rulesT, rulesD, Jour.r0, *]
    | (refine allK_intro fun n hn => ?_; try simp only [fresh_set] at hn)
    | (refine ifK_intro (fun h => ?_) (fun h => ?_) <;> (try simp only [rulesE] at h) <;> try (exfalso; (try simp only [rulesF] at h); omega))
    | (refine keeps_sub (Mem.sub_set ?_) ?_; focus (simp [Mem.set_at, nomem, *]; done))
  all_goals exact .val
theorem F12 (j : Jour) (d : Dev) (x y : Bool) : F Try.prog 12 [.vp (j.rc d x y) 0] (.val (.int .i64 j.next)) := by
  refine F12_of ?_
  unfold k12
  repeat' first
    | simp -dsimp (disch := omega) only [↓rulesA, rulesB, rulesC, Int.reduceLT, nth, upd, put, storeN, AV.one, Nat.reduceBEq, Nat.reduceBNe, Int.reduceBEq, Int.reduceBNe, Int.reduceLE, Int.reduceEq, Int.reduceMod, Int.reduceNeg, boolBin, strBin, intBin, unA, fillA, ne_eq, reduceCtorEq, Nat.reduceAdd, Nat.reduceSub, Nat.reduceLeDiff, Nat.reduceLT, Nat.reduceEqDiff, Int.reduceToNat, eq_self, rulesT, rulesD, Jour.r4, *]
    | (refine allK_intro fun n hn => ?_; try simp only [fresh_set] at hn)
    | (refine ifK_intro (fun h => ?_) (fun h => ?_) <;> (try simp only [rulesE] at h) <;> try (exfalso; (try simp only [rulesF] at h); omega))
    | (refine keeps_sub (Mem.sub_set ?_) ?_; focus (simp [Mem.set_at, nomem, *]; done))
    | (refine call_F (F35 j d x y) (Seens.refl _ _) ?_)
    | (refine pure_F (F35 j d x y) (Seens.refl _ _) ?_)
  all_goals exact .val
theorem rlohi_44 (m : Mem) (l : List UInt8) (x : Bool) (kk kk' : IntKind) (lo hi : Int) (h0 : 0 ≤ lo) (h1 : lo ≤ hi) (h2 : hi ≤ l.length) : sliceA Try.prog m 44 (.vs (l.map byteC) x) (some (.val (.int kk lo))) (some (.val (.int kk' hi))) none = some (.vs (((l.drop lo.toNat).take (hi.toNat - lo.toNat)).map byteC) (x && hi.toNat == l.length)) := T_44.rlohi byteC_len m l x kk kk' lo hi h0 h1 h2
def kindS (s : Sec) : Nat := (s.l.getD 0 default).toNat
def numS (s : Sec) : Nat := if kindS s ≠ 1 ∧ kindS s ≠ 2 then 0 else if getTo ((s.l.drop 1).take 8) 8 ≤ 4611686018427387904 then getTo ((s.l.drop 1).take 8) 8 else 0
def numAt (d : Dev) (k : Nat) : Nat := if readE d k = 0 then numS (readS d k) else 0
theorem numS_le (s : Sec) : numS s ≤ 4611686018427387904 := by unfold numS; (repeat' split) <;> omega
theorem numAt_le (d : Dev) (k : Nat) : numAt d k ≤ 4611686018427387904 := by unfold numAt; split; exact numS_le _; omega
theorem F34 (j : Jour) (d : Dev) (x y : Bool) (h : 1 ≤ d.laid.length) (hm : d.laid.length ≤ 4096) (hl : d.list.length ≤ 4096) (k : Nat) : F Try.prog 34 [.vp (j.rc d x y) 0, .val (.int .i64 k)] (.val (.int .i64 (numAt d k))) := by
  have hr := F50 d x y h hm hl (k : Int)
  rw [Int.toNat_natCast] at hr
  refine F34_of ?_
  unfold k34
  by_cases hE : readE d k = 0
  · rw [if_pos hE, hE] at hr
    have en : numAt d k = numS (readS d k) := if_pos hE
    rw [en]
    clear en hE
    generalize readS d k = s at hr
    have hs := s.h
    obtain ⟨q, hq⟩ : ∃ q, q = (s.l.drop 1).take 8 := ⟨_, rfl⟩
    have hq8 : q.length = 8 := by rw [hq, List.length_take, List.length_drop, hs]; rfl
    have s1 := fun m => rlohi_44 m s.l false .i64 .i64 1 9 (by decide) (by decide) (by rw [hs]; decide)
    simp only [Int.reduceToNat, Nat.reduceSub, ← hq] at s1
    have e0 : (s.l.getD 0 default).toNat = kindS s := rfl
    have hb := F51 q
    rw [hq8] at hb
    have hg := getTo_lt q 8
    have en : Kept (numS s = if kindS s ≠ 1 ∧ kindS s ≠ 2 then 0 else if getTo q 8 ≤ 4611686018427387904 then getTo q 8 else 0) := by rw [hq]; exact rfl
    clear hq
    repeat' first
      | simp -dsimp (disch := omega) only [↓rulesA, rulesB, rulesC, Int.reduceLT, nth, upd, put, storeN, AV.one, Nat.reduceBEq, Nat.reduceBNe, Int.reduceBEq, Int.reduceBNe, Int.reduceLE, Int.reduceEq, Int.reduceMod, Int.reduceNeg, boolBin, strBin, intBin, unA, fillA, ne_eq, reduceCtorEq, Nat.reduceAdd, Nat.reduceSub, Nat.reduceLeDiff, Nat.reduceLT, Nat.reduceEqDiff, Int.reduceToNat, eq_self, rulesT, rulesD, Jour.r0, ix_44, byte_g0, e0, *]
      | (refine allK_intro fun n hn => ?_; try simp only [fresh_set] at hn)
      | (refine ifK_intro (fun h => ?_) (fun h => ?_) <;> (try simp only [rulesE] at h) <;> try (exfalso; (try simp only [rulesF] at h); omega))
      | (refine keeps_sub (Mem.sub_set ?_) ?_; focus (simp [Mem.set_at, nomem, *]; done))
      | (refine call_F (hr) (Seens.refl _ _) ?_)
      | (refine pure_F (hr) (Seens.refl _ _) ?_)
      | (refine call_F (hb _ (Nat.le_refl _)) (Seens.refl _ _) ?_)
      | (refine pure_F (hb _ (Nat.le_refl _)) (Seens.refl _ _) ?_)
    all_goals
      clear s1 hr hb
      have en' : numS s = _ := en
      refine New.eq ?_ rfl
      rw [en']
      clear en en'
      refine congrArg (fun z => AV.val (.int .i64 z)) ?_
      simp only [bne_iff_ne, bne_eq_false_iff_eq, ne_eq] at *
      (repeat' split) <;> omega
  · have en : numAt d k = 0 := if_neg hE
    rw [en]
    rw [if_neg hE] at hr
    have hne : (readE d k != 0) = true := by simpa using hE
    repeat' first
      | simp -dsimp (disch := omega) only [↓rulesA, rulesB, rulesC, Int.reduceLT, nth, upd, put, storeN, AV.one, Nat.reduceBEq, Nat.reduceBNe, Int.reduceBEq, Int.reduceBNe, Int.reduceLE, Int.reduceEq, Int.reduceMod, Int.reduceNeg, boolBin, strBin, intBin, unA, fillA, ne_eq, reduceCtorEq, Nat.reduceAdd, Nat.reduceSub, Nat.reduceLeDiff, Nat.reduceLT, Nat.reduceEqDiff, Int.reduceToNat, eq_self, rulesT, rulesD, Jour.r0, *]
      | (refine allK_intro fun n hn => ?_; try simp only [fresh_set] at hn)
      | (refine ifK_intro (fun h => ?_) (fun h => ?_) <;> (try simp only [rulesE] at h) <;> try (exfalso; (try simp only [rulesF] at h); omega))
      | (refine keeps_sub (Mem.sub_set ?_) ?_; focus (simp [Mem.set_at, nomem, *]; done))
      | (refine call_F (hr) (Seens.refl _ _) ?_)
      | (refine pure_F (hr) (Seens.refl _ _) ?_)
    exact .val
end Go.Proofs.Ytlkeailgccbmbaa

set_option maxRecDepth 100000
set_option maxHeartbeats 1000000
set_option linter.unusedSimpArgs false
set_option linter.unusedVariables false
namespace Go.Proofs.Ytlkeailgccbmbaa
open Go.Abs
attribute [local irreducible] C X CC Y CV CW binK litK AppK PureC PureCV againK loopV rangeV allK ifK got onB condK V stepsK planK opK firstK seeE keepsK
def four (a b c d : Option AV) : Option AV := match a, b, c, d with
  | some a, some b, some c, some d => some (.tup [a, b, c, d])
  | _, _, _, _ => none
theorem four_some (a b c d : AV) : four (some a) (some b) (some c) (some d) = some (.tup [a, b, c, d]) := Eq.trans rfl rfl
theorem resL_four (P : Program) (m : Mem) (env : List AV) (x y z w : ResultVar) : resL P m env [x, y, z, w] = four (resOne P m env x) (resOne P m env y) (resOne P m env z) (resOne P m env w) := by
  simp only [resL, List.mapM_cons, List.mapM_nil, four]
  cases resOne P m env x <;> cases resOne P m env y <;> cases resOne P m env z <;> cases resOne P m env w <;> rfl
theorem new4 {m : Mem} {a a' b b' c c' d d' : AV} (h : New m a a') (h1 : New m b b') (h2 : New m c c') (h3 : New m d d') : New m (.tup [a, b, c, d]) (.tup [a', b', c', d']) := .tup rfl fun i hi hi' => by
  match i, hi with
  | 0, _ => exact h
  | 1, _ => exact h1
  | 2, _ => exact h2
  | 3, _ => exact h3
theorem byte_take (l : List UInt8) {m : Mem} {n cap q : Nat} {opn : Bool} {t : TypeId} (hm : m n = some (.cells opn t (l.map byteC).flatten)) (hq : q ≤ l.length) : Seen m (.sl n 0 q cap) (.vs ((l.take q).map byteC) false) := by
  have hall : ∀ e ∈ l.map byteC, e.length = 1 := fun e he => by obtain ⟨a, _, rfl⟩ := List.mem_map.1 he; rfl
  have hall' : ∀ e ∈ (l.take q).map byteC, e.length = 1 := fun e he => by obtain ⟨a, _, rfl⟩ := List.mem_map.1 he; rfl
  have hlen : (l.map byteC).flatten.length = l.length * 1 := by rw [flatten_len hall]; simp
  refine Seen.sl (s := 1) hm (by omega) (by simp; omega) hall' fun i hi j hj hk => ?_
  have hi' : i < q := by simp at hi; omega
  have hil : i < (l.map byteC).length := by simp; omega
  have hj' : j < ((l.map byteC)[i]).length := by simpa using hj
  have := flatten_get hall i hil j hj' (by simpa using hk)
  simp only [Nat.zero_add]
  rw [this]
  simp only [List.getElem_map, List.getElem_take] at hj ⊢
  exact .same
def lenS (s : Sec) : Nat := getTo ((s.l.drop 9).take 4) 4
def wantS (s : Sec) : Nat := getTo ((s.l.drop 13).take 4) 4
theorem lenS_lt (s : Sec) : lenS s < 4294967296 := getTo_lt _ 4
theorem wantS_lt (s : Sec) : wantS s < 4294967296 := getTo_lt _ 4
def goOk (d : Dev) (a num k : Nat) : Bool := decide (readE d ((a + k : Nat) : Int) = 0 ∧ kindS (readS d (a + k)) = 2 ∧ numAt d (a + k) = num)
def allGo (d : Dev) (a num : Nat) : Nat → Bool
  | 0 => true
  | n + 1 => allGo d a num n && goOk d a num (n + 1)
theorem allGo_not {d : Dev} {a num i : Nat} (h : goOk d a num (i + 1) = false) : ∀ n, i < n → allGo d a num n = false
  | n + 1, hi => by
    unfold allGo
    rcases Nat.lt_or_ge i n with hlt | hge
    · rw [allGo_not h n hlt]; rfl
    · rw [show n = i by omega, h, Bool.and_false]
def recTo (d : Dev) (a : Nat) : Nat → List UInt8
  | 0 => (readS d a).l.drop 17
  | k + 1 => recTo d a k ++ (readS d (a + (k + 1))).l.drop 9
theorem recTo_len (d : Dev) (a : Nat) : ∀ k, (recTo d a k).length = 47 + 55 * k
  | 0 => by unfold recTo; rw [List.length_drop, (readS d a).h]
  | k + 1 => by unfold recTo; rw [List.length_append, recTo_len d a k, List.length_drop, (readS d _).h]; omega
theorem need_room {n k : Nat} (h : needN n = k + 1) : n ≤ 47 + 55 * k := by unfold needN at h; split at h <;> omega
def readJ (e : Nat) (d : Dev) (a : Nat) : List UInt8 × Nat × Nat × Bool :=
  if readE d a = 0 ∧ kindS (readS d a) = 1 ∧ a + needN (lenS (readS d a)) ≤ e ∧ allGo d a (numAt d a) (needN (lenS (readS d a)) - 1) = true then
    ((recTo d a (needN (lenS (readS d a)) - 1)).take (lenS (readS d a)), numAt d a, a + needN (lenS (readS d a)), sumN (numAt d a) ((recTo d a (needN (lenS (readS d a)) - 1)).take (lenS (readS d a))) == wantS (readS d a))
  else ([], 0, 0, false)
def readC (r : List UInt8 × Nat × Nat × Bool) : AV := .tup [.vs (r.1.map byteC) false, .val (.int .i64 r.2.1), .val (.int .i64 r.2.2.1), .val (.bool r.2.2.2)]
theorem rlo_44 (m : Mem) (l : List UInt8) (x : Bool) (kk : IntKind) (lo : Int) (h0 : 0 ≤ lo) (h1 : lo ≤ l.length) : sliceA Try.prog m 44 (.vs (l.map byteC) x) (some (.val (.int kk lo))) none none = some (.vs ((l.drop lo.toNat).map byteC) x) := T_44.rlo byteC_len m l x kk lo h0 h1
theorem small_rec {i : Nat} (h : i < 4096) : 47 + 55 * i ≤ 1000000 := by omega
theorem beq_cast (a b : Nat) : ((a : Int) == (b : Int)) = (a == b) := by rw [Bool.eq_iff_iff, beq_iff_eq, beq_iff_eq]; omega
theorem F49 (j : Jour) (d : Dev) (x y : Bool) (h : 1 ≤ d.laid.length) (hm : d.laid.length ≤ 4096) (hl : d.list.length ≤ 4096) (he : j.end_ ≤ 4096) (a : Nat) (ha : a ≤ 4096) : F Try.prog 49 [.vp (j.rc d x y) 0, .val (.int .i64 a)] (readC (readJ j.end_ d a)) := by
  have hr := F50 d x y h hm hl (a : Int)
  rw [Int.toNat_natCast] at hr
  have h34 := F34 j d x y h hm hl
  refine F49_of ?_
  unfold k49
  by_cases hE : readE d a = 0
  · by_cases hk : kindS (readS d a) = 1
    · rw [if_pos hE, hE] at hr
      obtain ⟨s, es⟩ : ∃ s, s = readS d a := ⟨_, rfl⟩
      rw [← es] at hr hk
      have hs := s.h
      obtain ⟨q1, hq1⟩ : ∃ q, q = (s.l.drop 9).take 4 := ⟨_, rfl⟩
      obtain ⟨q2, hq2⟩ : ∃ q, q = (s.l.drop 13).take 4 := ⟨_, rfl⟩
      have hl1 : q1.length = 4 := by rw [hq1, List.length_take, List.length_drop, hs]; rfl
      have hl2 : q2.length = 4 := by rw [hq2, List.length_take, List.length_drop, hs]; rfl
      have s1 := fun m => rlohi_44 m s.l false .i64 .i64 9 13 (by decide) (by decide) (by rw [hs]; decide)
      have s2 := fun m => rlohi_44 m s.l false .i64 .i64 13 17 (by decide) (by decide) (by rw [hs]; decide)
      have s3 := fun m => rlo_44 m s.l false .i64 17 (by decide) (by rw [hs]; decide)
      simp only [Int.reduceToNat, Nat.reduceSub, ← hq1] at s1
      simp only [Int.reduceToNat, Nat.reduceSub, ← hq2] at s2
      simp only [Int.reduceToNat] at s3
      have g1 : ∀ x, F Try.prog 51 [.vs (q1.map byteC) x] (.val (.int .u64 (lenS s))) := fun x => by
        have := F51 q1 x (by omega); rw [hl1, hq1] at this; rw [hq1]; exact this
      have g2 : ∀ x, F Try.prog 51 [.vs (q2.map byteC) x] (.val (.int .u64 (wantS s))) := fun x => by
        have := F51 q2 x (by omega); rw [hl2, hq2] at this; rw [hq2]; exact this
      have hn := lenS_lt s
      have hw := wantS_lt s
      have hww : IntKind.u32.wrap (wantS s : Int) = (wantS s : Int) := by rw [IntKind.wrap_u32']; omega
      have e0 : (s.l.getD 0 default).toNat = kindS s := rfl
      have hne : ((kindS s : Int) != 1) = false := by rw [hk]; rfl
      clear hq1 hq2
      have hnp := needN_pos (lenS s)
      by_cases hroom : a + needN (lenS s) ≤ j.end_
      · obtain ⟨k, hk'⟩ : ∃ k, needN (lenS s) = k + 1 := ⟨needN (lenS s) - 1, by omega⟩
        have hkm : k < 4096 := by omega
        have hroomk := need_room hk'
        have hnum := numAt_le d a
        have hng : ¬ ((j.end_ : Int) - (a : Int)) < ((k + 1 : Nat) : Int) := by omega
        have h29 := F29 (lenS s) (by omega)
        rw [hk'] at h29
        have hfail : ∀ i, i < k → goOk d a (numAt d a) (i + 1) = false → readJ j.end_ d a = ([], 0, 0, false) := fun i hi hg => if_neg (fun h => by
          have h4 := h.2.2.2
          rw [← es, hk', Nat.add_sub_cancel, allGo_not hg k hi] at h4
          cases h4)
        have hdone : allGo d a (numAt d a) k = true → readJ j.end_ d a = ((recTo d a k).take (lenS s), numAt d a, a + (k + 1), sumN (numAt d a) ((recTo d a k).take (lenS s)) == wantS s) := fun hg => by
          unfold readJ
          rw [← es, hk', Nat.add_sub_cancel, if_pos ⟨hE, hk, by omega, hg⟩]
        have er0 : recTo d a 0 = s.l.drop 17 := by rw [es]; rfl
        replace es : Kept _ := es
        replace hfail : Kept _ := hfail
        replace hdone : Kept _ := hdone
        repeat' first
          | simp -dsimp (disch := omega) only [↓rulesA, rulesB, rulesC, Int.reduceLT, nth, upd, put, storeN, AV.one, Nat.reduceBEq, Nat.reduceBNe, Int.reduceBEq, Int.reduceBNe, Int.reduceLE, Int.reduceEq, Int.reduceMod, Int.reduceNeg, boolBin, strBin, intBin, unA, fillA, ne_eq, reduceCtorEq, Nat.reduceAdd, Nat.reduceSub, Nat.reduceLeDiff, Nat.reduceLT, Nat.reduceEqDiff, Int.reduceToNat, eq_self, rulesT, rulesD, Jour.r0, Jour.r2, ix_44, byte_g0, e0, *]
          | (refine allK_intro fun n hn => ?_; try simp only [fresh_set] at hn)
          | (refine ifK_intro (fun h => ?_) (fun h => ?_) <;> (try simp only [rulesE] at h) <;> try (exfalso; (try simp only [rulesF] at h); omega))
          | (refine keeps_sub (Mem.sub_set ?_) ?_; focus (simp [Mem.set_at, nomem, *]; done))
          | (refine call_F (h34 a) (Seens.refl _ _) ?_)
          | (refine pure_F (h34 a) (Seens.refl _ _) ?_)
          | (refine call_F (hr) (Seens.refl _ _) ?_)
          | (refine pure_F (hr) (Seens.refl _ _) ?_)
          | (refine call_F (g1 _) (Seens.refl _ _) ?_)
          | (refine pure_F (g1 _) (Seens.refl _ _) ?_)
          | (refine call_F (g2 _) (Seens.refl _ _) ?_)
          | (refine pure_F (g2 _) (Seens.refl _ _) ?_)
          | (refine call_F (h29) (Seens.refl _ _) ?_)
          | (refine pure_F (h29) (Seens.refl _ _) ?_)
        refine append_nil app_44 (src_44' _ (s.l.drop 17) _) (by show (s.l.drop 17).length * 1 ≤ _; rw [List.length_drop, hs]; decide) fun N hN => ?_
        repeat' first
          | simp -dsimp (disch := omega) only [↓rulesA, rulesB, rulesC, Int.reduceLT, nth, upd, put, storeN, AV.one, Nat.reduceBEq, Nat.reduceBNe, Int.reduceBEq, Int.reduceBNe, Int.reduceLE, Int.reduceEq, Int.reduceMod, Int.reduceNeg, boolBin, strBin, intBin, unA, fillA, ne_eq, reduceCtorEq, Nat.reduceAdd, Nat.reduceSub, Nat.reduceLeDiff, Nat.reduceLT, Nat.reduceEqDiff, Int.reduceToNat, eq_self, rulesT, rulesD, *]
          | (refine allK_intro fun n hn => ?_; try simp only [fresh_set] at hn)
          | (refine ifK_intro (fun h => ?_) (fun h => ?_) <;> (try simp only [rulesE] at h) <;> try (exfalso; (try simp only [rulesF] at h); omega))
          | (refine keeps_sub (Mem.sub_set ?_) ?_; focus (simp [Mem.set_at, nomem, *]; done))
        clear g1 g2 h29 s1 s2 s3 hroom
        refine loop_intro (fun jj env m => ∃ (i : Nat), i ≤ k ∧ jj = k - i ∧ Own (recTo d a i) (nth env 14) m ∧ allGo d a (numAt d a) i = true ∧ env.length = 109 ∧ nth env 0 = .vp (j.rc d x y) 0 ∧ nth env 1 = .val (.int .i64 a) ∧ nth env 8 = .val (.int .i64 (numAt d a)) ∧ nth env 11 = .val (.int .i64 (lenS s)) ∧ nth env 12 = .val (.int .u32 (wantS s)) ∧ nth env 13 = .val (.int .i64 ((k + 1 : Nat) : Int)) ∧ nth env 15 = .val (.int .i64 ((i : Int) + 1))) k _ (Mem.sub.refl _) ⟨0, by omega, by omega, ?_, rfl, ?_, ?_, ?_, ?_, ?_, ?_, ?_, ?_⟩ ?_
        · rw [er0]
          exact ⟨N, rfl, rfl⟩
        rotate_left 8
        · clear hr er0
          rintro jj env m ⟨i, hi, rfl, ⟨N', rfl, er⟩, hgo, hlen, e0', e1, e8, e11, e12, e13, e15⟩
          by_cases hik : i < k
          · have ea : (a : Int) + ((i : Int) + 1) = ((a + (i + 1) : Nat) : Int) := by omega
            have hr' := F50 d x y h hm hl ((a + (i + 1) : Nat) : Int)
            rw [Int.toNat_natCast] at hr'
            have h34' := h34 (a + (i + 1))
            cases hg : goOk d a (numAt d a) (i + 1) with
            | true =>
              have hg' := hg
              unfold goOk at hg'
              obtain ⟨b1, b2, b3⟩ := of_decide_eq_true hg'
              rw [if_pos b1, b1] at hr'
              rw [b3] at h34'
              have hgo2 : Kept (allGo d a (numAt d a) (i + 1) = true) := by show allGo d a (numAt d a) (i + 1) = true; unfold allGo; rw [hgo, hg]; rfl
              have hrec : recTo d a (i + 1) = recTo d a i ++ (readS d (a + (i + 1))).l.drop 9 := rfl
              obtain ⟨t, et⟩ : ∃ t, t = readS d (a + (i + 1)) := ⟨_, rfl⟩
              rw [← et] at hr' hrec b2
              have ht := t.h
              have e0t : (t.l.getD 0 default).toNat = kindS t := rfl
              have hk2 : ((kindS t : Int) != 2) = false := by rw [b2]; rfl
              have s4 := fun m => rlo_44 m t.l false .i64 9 (by decide) (by rw [ht]; decide)
              simp only [Int.reduceToNat] at s4
              have hlr : Kept _ := recTo_len d a i
              clear et b1 b2 b3 hg hg' hgo
              replace hrec : Kept _ := hrec
              repeat' first
                | simp -dsimp (disch := omega) only [↓rulesA, rulesB, rulesC, Int.reduceLT, nth, upd, put, storeN, AV.one, Nat.reduceBEq, Nat.reduceBNe, Int.reduceBEq, Int.reduceBNe, Int.reduceLE, Int.reduceEq, Int.reduceMod, Int.reduceNeg, boolBin, strBin, intBin, unA, fillA, ne_eq, reduceCtorEq, Nat.reduceAdd, Nat.reduceSub, Nat.reduceLeDiff, Nat.reduceLT, Nat.reduceEqDiff, Int.reduceToNat, eq_self, rulesT, rulesD, Jour.r0, ix_44, byte_g0, e0t, *]
                | (refine allK_intro fun n hn => ?_; try simp only [fresh_set] at hn)
                | (refine ifK_intro (fun h => ?_) (fun h => ?_) <;> (try simp only [rulesE] at h) <;> try (exfalso; (try simp only [rulesF] at h); omega))
                | (refine keeps_sub (Mem.sub_set ?_) ?_; focus (simp [Mem.set_at, nomem, *]; done))
                | (refine call_F (hr') (Seens.refl _ _) ?_)
                | (refine pure_F (hr') (Seens.refl _ _) ?_)
                | (refine call_F (h34') (Seens.refl _ _) ?_)
                | (refine pure_F (h34') (Seens.refl _ _) ?_)
              refine Own.app (l := recTo d a i) ⟨N', rfl, rfl⟩ (t.l.drop 9) (by rw [List.length_drop, ht, (hlr : _ = _)]; omega) app_44 (src_44' _ (t.l.drop 9) _) fun r m' hO => ?_
              rw [← (hrec : _ = _)] at hO
              have e : Kept (∀ w, w = r → Own (recTo d a (i + 1)) w m') := fun w hw => by rw [hw]; exact hO
              clear hO hrec
              repeat' first
                | simp -dsimp (disch := omega) only [↓rulesA, rulesB, rulesC, Int.reduceLT, nth, upd, put, storeN, AV.one, Nat.reduceBEq, Nat.reduceBNe, Int.reduceBEq, Int.reduceBNe, Int.reduceLE, Int.reduceEq, Int.reduceMod, Int.reduceNeg, boolBin, strBin, intBin, unA, fillA, ne_eq, reduceCtorEq, Nat.reduceAdd, Nat.reduceSub, Nat.reduceLeDiff, Nat.reduceLT, Nat.reduceEqDiff, Int.reduceToNat, eq_self, rulesT, rulesD, *]
                | (refine allK_intro fun n hn => ?_; try simp only [fresh_set] at hn)
                | (refine ifK_intro (fun h => ?_) (fun h => ?_) <;> (try simp only [rulesE] at h) <;> try (exfalso; (try simp only [rulesF] at h); omega))
                | (refine keeps_sub (Mem.sub_set ?_) ?_; focus (simp [Mem.set_at, nomem, *]; done))
              refine again_intro (k - (i + 1)) (by omega) _ (Mem.sub.refl _) ⟨i + 1, by omega, rfl, (e : ∀ _, _) _ ?_, hgo2, ?_, ?_, ?_, ?_, ?_, ?_, ?_, ?_⟩
              all_goals try (simp (disch := omega) only [nth_upd, pickB_true, pickB_false, inB_lt, upd_len, cast_succ, Int.cast_ofNat_Int, Nat.reduceBEq, beq_self_eq_true, reduceCtorEq, *]; done)
            | false =>
              have e := (hfail : ∀ _, _) i hik hg
              rw [e]
              by_cases b1 : readE d ((a + (i + 1) : Nat) : Int) = 0
              · rw [if_pos b1, b1] at hr'
                obtain ⟨t, et⟩ : ∃ t, t = readS d (a + (i + 1)) := ⟨_, rfl⟩
                rw [← et] at hr'
                have ht := t.h
                have e0t : (t.l.getD 0 default).toNat = kindS t := rfl
                by_cases b2 : kindS t = 2
                · have hk2 : ((kindS t : Int) != 2) = false := by rw [b2]; rfl
                  have b3 : ¬ numAt d (a + (i + 1)) = numAt d a := fun b3 => by
                    rw [show goOk d a (numAt d a) (i + 1) = true from decide_eq_true ⟨b1, by rw [← et]; exact b2, b3⟩] at hg
                    cases hg
                  have hn3 : ((numAt d (a + (i + 1)) : Int) != (numAt d a : Int)) = true := by simp; omega
                  clear et b1 b2 b3 hg hgo
                  repeat' first
                    | simp -dsimp (disch := omega) only [↓rulesA, rulesB, rulesC, Int.reduceLT, nth, upd, put, storeN, AV.one, Nat.reduceBEq, Nat.reduceBNe, Int.reduceBEq, Int.reduceBNe, Int.reduceLE, Int.reduceEq, Int.reduceMod, Int.reduceNeg, boolBin, strBin, intBin, unA, fillA, ne_eq, reduceCtorEq, Nat.reduceAdd, Nat.reduceSub, Nat.reduceLeDiff, Nat.reduceLT, Nat.reduceEqDiff, Int.reduceToNat, eq_self, rulesT, rulesD, Jour.r0, ix_44, byte_g0, e0t, resL_four, four_some, *]
                    | (refine allK_intro fun n hn => ?_; try simp only [fresh_set] at hn)
                    | (refine ifK_intro (fun h => ?_) (fun h => ?_) <;> (try simp only [rulesE] at h) <;> try (exfalso; (try simp only [rulesF] at h); omega))
                    | (refine keeps_sub (Mem.sub_set ?_) ?_; focus (simp [Mem.set_at, nomem, *]; done))
                    | (refine call_F (hr') (Seens.refl _ _) ?_)
                    | (refine pure_F (hr') (Seens.refl _ _) ?_)
                    | (refine call_F (h34') (Seens.refl _ _) ?_)
                    | (refine pure_F (h34') (Seens.refl _ _) ?_)
                  exact new4 .nil .val .val .val
                · have hk2 : ((kindS t : Int) != 2) = true := by simp; omega
                  clear et b1 b2 hg hgo
                  repeat' first
                    | simp -dsimp (disch := omega) only [↓rulesA, rulesB, rulesC, Int.reduceLT, nth, upd, put, storeN, AV.one, Nat.reduceBEq, Nat.reduceBNe, Int.reduceBEq, Int.reduceBNe, Int.reduceLE, Int.reduceEq, Int.reduceMod, Int.reduceNeg, boolBin, strBin, intBin, unA, fillA, ne_eq, reduceCtorEq, Nat.reduceAdd, Nat.reduceSub, Nat.reduceLeDiff, Nat.reduceLT, Nat.reduceEqDiff, Int.reduceToNat, eq_self, rulesT, rulesD, Jour.r0, ix_44, byte_g0, e0t, resL_four, four_some, *]
                    | (refine allK_intro fun n hn => ?_; try simp only [fresh_set] at hn)
                    | (refine ifK_intro (fun h => ?_) (fun h => ?_) <;> (try simp only [rulesE] at h) <;> try (exfalso; (try simp only [rulesF] at h); omega))
                    | (refine keeps_sub (Mem.sub_set ?_) ?_; focus (simp [Mem.set_at, nomem, *]; done))
                    | (refine call_F (hr') (Seens.refl _ _) ?_)
                    | (refine pure_F (hr') (Seens.refl _ _) ?_)
                    | (refine call_F (h34') (Seens.refl _ _) ?_)
                    | (refine pure_F (h34') (Seens.refl _ _) ?_)
                  exact new4 .nil .val .val .val
              · rw [if_neg b1] at hr'
                have hne' : (readE d ((a + (i + 1) : Nat) : Int) != 0) = true := by simpa using b1
                clear b1 hg hgo
                repeat' first
                  | simp -dsimp (disch := omega) only [↓rulesA, rulesB, rulesC, Int.reduceLT, nth, upd, put, storeN, AV.one, Nat.reduceBEq, Nat.reduceBNe, Int.reduceBEq, Int.reduceBNe, Int.reduceLE, Int.reduceEq, Int.reduceMod, Int.reduceNeg, boolBin, strBin, intBin, unA, fillA, ne_eq, reduceCtorEq, Nat.reduceAdd, Nat.reduceSub, Nat.reduceLeDiff, Nat.reduceLT, Nat.reduceEqDiff, Int.reduceToNat, eq_self, rulesT, rulesD, Jour.r0, ix_44, byte_g0, resL_four, four_some, *]
                  | (refine allK_intro fun n hn => ?_; try simp only [fresh_set] at hn)
                  | (refine ifK_intro (fun h => ?_) (fun h => ?_) <;> (try simp only [rulesE] at h) <;> try (exfalso; (try simp only [rulesF] at h); omega))
                  | (refine keeps_sub (Mem.sub_set ?_) ?_; focus (simp [Mem.set_at, nomem, *]; done))
                  | (refine call_F (hr') (Seens.refl _ _) ?_)
                  | (refine pure_F (hr') (Seens.refl _ _) ?_)
                  | (refine call_F (h34') (Seens.refl _ _) ?_)
                  | (refine pure_F (h34') (Seens.refl _ _) ?_)
                exact new4 .nil .val .val .val
          · have : i = k := by omega
            subst this
            have e := (hdone : _ → _) hgo
            rw [e]
            have hlr := recTo_len d a i
            clear hfail hdone hgo
            obtain ⟨L, eL⟩ : ∃ L, L = recTo d a i := ⟨_, rfl⟩
            rw [← eL] at er hlr ⊢
            have hq : (L.take (lenS s)).length ≤ 1000000 := Nat.le_trans (List.length_take_le _ _) (Nat.le_trans hroomk (small_rec hkm))
            have hle : lenS s ≤ L.length := by rw [hlr]; exact hroomk
            have f37 := F37 (numAt d a) (by omega) (L.take (lenS s)) false hq
            have ea : (a : Int) + ((i + 1 : Nat) : Int) = ((a + (i + 1) : Nat) : Int) := by omega
            clear eL
            repeat' first
              | simp -dsimp (disch := omega) only [↓rulesA, rulesB, rulesC, Int.reduceLT, nth, upd, put, storeN, AV.one, Nat.reduceBEq, Nat.reduceBNe, Int.reduceBEq, Int.reduceBNe, Int.reduceLE, Int.reduceEq, Int.reduceMod, Int.reduceNeg, boolBin, strBin, intBin, unA, fillA, ne_eq, reduceCtorEq, Nat.reduceAdd, Nat.reduceSub, Nat.reduceLeDiff, Nat.reduceLT, Nat.reduceEqDiff, Int.reduceToNat, eq_self, rulesT, rulesD, cs_5, *]
              | (refine allK_intro fun n hn => ?_; try simp only [fresh_set] at hn)
              | (refine ifK_intro (fun h => ?_) (fun h => ?_) <;> (try simp only [rulesE] at h) <;> try (exfalso; (try simp only [rulesF] at h); omega))
              | (refine keeps_sub (Mem.sub_set ?_) ?_; focus (simp [Mem.set_at, nomem, *]; done))
            refine call_F f37 (.two .same (byte_take L (Mem.set_same _ _ _) hle)) ?_
            repeat' first
              | simp -dsimp (disch := omega) only [↓rulesA, rulesB, rulesC, Int.reduceLT, nth, upd, put, storeN, AV.one, Nat.reduceBEq, Nat.reduceBNe, Int.reduceBEq, Int.reduceBNe, Int.reduceLE, Int.reduceEq, Int.reduceMod, Int.reduceNeg, boolBin, strBin, intBin, unA, fillA, ne_eq, reduceCtorEq, Nat.reduceAdd, Nat.reduceSub, Nat.reduceLeDiff, Nat.reduceLT, Nat.reduceEqDiff, Int.reduceToNat, eq_self, rulesT, rulesD, resL_four, four_some, beq_cast, *]
              | (refine allK_intro fun n hn => ?_; try simp only [fresh_set] at hn)
              | (refine ifK_intro (fun h => ?_) (fun h => ?_) <;> (try simp only [rulesE] at h) <;> try (exfalso; (try simp only [rulesF] at h); omega))
              | (refine keeps_sub (Mem.sub_set ?_) ?_; focus (simp [Mem.set_at, nomem, *]; done))
            exact new4 (New.rowTake byteC byteC_len (fun _ => rfl) L (Mem.set_same _ _ _) hle) .val .val .val
        all_goals first | rfl | skip
      · have e : readJ j.end_ d a = ([], 0, 0, false) := if_neg (fun h => hroom (by rw [es]; exact h.2.2.1))
        rw [e]
        have hgt : ((j.end_ : Int) - (a : Int)) < (needN (lenS s) : Int) := by omega
        replace es : Kept _ := es
        repeat' first
          | simp -dsimp (disch := omega) only [↓rulesA, rulesB, rulesC, Int.reduceLT, nth, upd, put, storeN, AV.one, Nat.reduceBEq, Nat.reduceBNe, Int.reduceBEq, Int.reduceBNe, Int.reduceLE, Int.reduceEq, Int.reduceMod, Int.reduceNeg, boolBin, strBin, intBin, unA, fillA, ne_eq, reduceCtorEq, Nat.reduceAdd, Nat.reduceSub, Nat.reduceLeDiff, Nat.reduceLT, Nat.reduceEqDiff, Int.reduceToNat, eq_self, rulesT, rulesD, Jour.r0, Jour.r2, ix_44, byte_g0, e0, resL_four, four_some, *]
          | (refine allK_intro fun n hn => ?_; try simp only [fresh_set] at hn)
          | (refine ifK_intro (fun h => ?_) (fun h => ?_) <;> (try simp only [rulesE] at h) <;> try (exfalso; (try simp only [rulesF] at h); omega))
          | (refine keeps_sub (Mem.sub_set ?_) ?_; focus (simp [Mem.set_at, nomem, *]; done))
          | (refine call_F (h34 a) (Seens.refl _ _) ?_)
          | (refine pure_F (h34 a) (Seens.refl _ _) ?_)
          | (refine call_F (hr) (Seens.refl _ _) ?_)
          | (refine pure_F (hr) (Seens.refl _ _) ?_)
          | (refine call_F (g1 _) (Seens.refl _ _) ?_)
          | (refine pure_F (g1 _) (Seens.refl _ _) ?_)
          | (refine call_F (g2 _) (Seens.refl _ _) ?_)
          | (refine pure_F (g2 _) (Seens.refl _ _) ?_)
          | (refine call_F (F29 _ (by omega)) (Seens.refl _ _) ?_)
          | (refine pure_F (F29 _ (by omega)) (Seens.refl _ _) ?_)
        exact new4 .nil .val .val .val
    · have e : readJ j.end_ d a = ([], 0, 0, false) := if_neg (fun h => hk h.2.1)
      rw [e]
      rw [if_pos hE, hE] at hr
      have hs := (readS d a).h
      have e0 : ((readS d a).l.getD 0 default).toNat = kindS (readS d a) := rfl
      have hne : ((kindS (readS d a) : Int) != 1) = true := by simp; omega
      repeat' first
        | simp -dsimp (disch := omega) only [↓rulesA, rulesB, rulesC, Int.reduceLT, nth, upd, put, storeN, AV.one, Nat.reduceBEq, Nat.reduceBNe, Int.reduceBEq, Int.reduceBNe, Int.reduceLE, Int.reduceEq, Int.reduceMod, Int.reduceNeg, boolBin, strBin, intBin, unA, fillA, ne_eq, reduceCtorEq, Nat.reduceAdd, Nat.reduceSub, Nat.reduceLeDiff, Nat.reduceLT, Nat.reduceEqDiff, Int.reduceToNat, eq_self, rulesT, rulesD, Jour.r0, ix_44, byte_g0, e0, resL_four, four_some, *]
        | (refine allK_intro fun n hn => ?_; try simp only [fresh_set] at hn)
        | (refine ifK_intro (fun h => ?_) (fun h => ?_) <;> (try simp only [rulesE] at h) <;> try (exfalso; (try simp only [rulesF] at h); omega))
        | (refine keeps_sub (Mem.sub_set ?_) ?_; focus (simp [Mem.set_at, nomem, *]; done))
        | (refine call_F (h34 a) (Seens.refl _ _) ?_)
        | (refine pure_F (h34 a) (Seens.refl _ _) ?_)
        | (refine call_F (hr) (Seens.refl _ _) ?_)
        | (refine pure_F (hr) (Seens.refl _ _) ?_)
      exact new4 .nil .val .val .val
  · have e : readJ j.end_ d a = ([], 0, 0, false) := if_neg (fun h => hE h.1)
    rw [e]
    rw [if_neg hE] at hr
    have hne : (readE d a != 0) = true := by simpa using hE
    repeat' first
      | simp -dsimp (disch := omega) only [↓rulesA, rulesB, rulesC, Int.reduceLT, nth, upd, put, storeN, AV.one, Nat.reduceBEq, Nat.reduceBNe, Int.reduceBEq, Int.reduceBNe, Int.reduceLE, Int.reduceEq, Int.reduceMod, Int.reduceNeg, boolBin, strBin, intBin, unA, fillA, ne_eq, reduceCtorEq, Nat.reduceAdd, Nat.reduceSub, Nat.reduceLeDiff, Nat.reduceLT, Nat.reduceEqDiff, Int.reduceToNat, eq_self, rulesT, rulesD, Jour.r0, resL_four, four_some, *]
      | (refine allK_intro fun n hn => ?_; try simp only [fresh_set] at hn)
      | (refine ifK_intro (fun h => ?_) (fun h => ?_) <;> (try simp only [rulesE] at h) <;> try (exfalso; (try simp only [rulesF] at h); omega))
      | (refine keeps_sub (Mem.sub_set ?_) ?_; focus (simp [Mem.set_at, nomem, *]; done))
      | (refine call_F (h34 a) (Seens.refl _ _) ?_)
      | (refine pure_F (h34 a) (Seens.refl _ _) ?_)
      | (refine call_F (hr) (Seens.refl _ _) ?_)
      | (refine pure_F (hr) (Seens.refl _ _) ?_)
    exact new4 .nil .val .val .val
end Go.Proofs.Ytlkeailgccbmbaa

set_option maxRecDepth 100000
set_option maxHeartbeats 1000000
set_option linter.unusedSimpArgs false
set_option linter.unusedVariables false
namespace Go.Proofs.Ytlkeailgccbmbaa
open Go.Abs
attribute [local irreducible] C X CC Y CV CW binK litK AppK PureC PureCV againK loopV rangeV allK ifK got onB condK V stepsK planK opK firstK seeE keepsK
theorem C33 (N : Nat) (f : Int) : C Try.prog 33 [.ptr N 0, .val (.int .i64 f)] nomem (fun r m' => ∃ n2 n3, n2 ≠ n3 ∧ r = .fn (.func 48) [] [.ptr n3 0, .ptr n2 0] ∧ m' = (nomem.set n2 (.cells false 26 [.ptr N 0])).set n3 (.cells false 2 [.val (.int .i64 f)])) := by
  refine C33_of ?_
  unfold k33
  repeat' first
    | simp -dsimp (disch := omega) only [↓rulesA, rulesB, rulesC, Int.reduceLT, nth, upd, put, storeN, AV.one, Nat.reduceBEq, Nat.reduceBNe, Int.reduceBEq, Int.reduceBNe, Int.reduceLE, Int.reduceEq, Int.reduceMod, Int.reduceNeg, boolBin, strBin, intBin, unA, fillA, ne_eq, reduceCtorEq, Nat.reduceAdd, Nat.reduceSub, Nat.reduceLeDiff, Nat.reduceLT, Nat.reduceEqDiff, Int.reduceToNat, eq_self, rulesT, rulesD, mkFnA, staticFn, *]
    | (refine allK_intro fun n hn => ?_; try simp only [fresh_set] at hn)
    | (refine ifK_intro (fun h => ?_) (fun h => ?_) <;> (try simp only [rulesE] at h) <;> try (exfalso; (try simp only [rulesF] at h); omega))
    | (refine keeps_sub (Mem.sub_set ?_) ?_; focus (simp [Mem.set_at, nomem, *]; done))
  exact ⟨_, _, Ne.symm hn.1, rfl, rfl⟩
def roomJ (j : Jour) : Int := if j.end_ ≤ j.at_ ∨ 4611686018427387904 < j.next then -1 else 47 + ((j.end_ : Int) - j.at_ - 1) * 55
theorem F15 (j : Jour) (d : Dev) (x y : Bool) (he : j.end_ ≤ 4096) (ha : j.at_ ≤ 4096) : F Try.prog 15 [.vp (j.rc d x y) 0] (.val (.int .i64 (roomJ j))) := by
  refine F15_of ?_
  unfold k15
  repeat' first
    | simp -dsimp (disch := omega) only [↓rulesA, rulesB, rulesC, Int.reduceLT, nth, upd, put, storeN, AV.one, Nat.reduceBEq, Nat.reduceBNe, Int.reduceBEq, Int.reduceBNe, Int.reduceLE, Int.reduceEq, Int.reduceMod, Int.reduceNeg, boolBin, strBin, intBin, unA, fillA, ne_eq, reduceCtorEq, Nat.reduceAdd, Nat.reduceSub, Nat.reduceLeDiff, Nat.reduceLT, Nat.reduceEqDiff, Int.reduceToNat, eq_self, rulesT, rulesD, Jour.r2, Jour.r3, Jour.r4, *]
    | (refine allK_intro fun n hn => ?_; try simp only [fresh_set] at hn)
    | (refine ifK_intro (fun h => ?_) (fun h => ?_) <;> (try simp only [rulesE] at h) <;> try (exfalso; (try simp only [rulesF] at h); omega))
    | (refine keeps_sub (Mem.sub_set ?_) ?_; focus (simp [Mem.set_at, nomem, *]; done))
    | (refine call_F (F35 j d x y) (Seens.refl _ _) ?_)
    | (refine pure_F (F35 j d x y) (Seens.refl _ _) ?_)
  all_goals
    refine New.eq ?_ rfl
    unfold roomJ
    refine congrArg (fun z => AV.val (.int .i64 z)) ?_
    (repeat' split) <;> omega
end Go.Proofs.Ytlkeailgccbmbaa

set_option maxRecDepth 100000
set_option maxHeartbeats 1000000
set_option linter.unusedSimpArgs false
set_option linter.unusedVariables false
namespace Go.Proofs.Ytlkeailgccbmbaa
open Go.Abs
attribute [local irreducible] C X CC Y CV CW binK litK AppK PureC PureCV againK loopV rangeV allK ifK got onB condK V stepsK planK opK firstK seeE keepsK
def Jour.own (j : Jour) (Nd : Nat) : List AV := [.ptr Nd 0, .val (.int .i64 j.from_), .val (.int .i64 j.end_), .val (.int .i64 j.at_), .val (.int .i64 j.next), .val (.bool j.dead)]
theorem Jour.o0 (j : Jour) (N : Nat) : (j.own N)[0]? = some (.ptr N 0) := rfl
theorem Jour.o1 (j : Jour) (N : Nat) : (j.own N)[1]? = some (.val (.int .i64 j.from_)) := rfl
theorem Jour.o2 (j : Jour) (N : Nat) : (j.own N)[2]? = some (.val (.int .i64 j.end_)) := rfl
theorem Jour.o3 (j : Jour) (N : Nat) : (j.own N)[3]? = some (.val (.int .i64 j.at_)) := rfl
theorem Jour.o4 (j : Jour) (N : Nat) : (j.own N)[4]? = some (.val (.int .i64 j.next)) := rfl
theorem Jour.o5 (j : Jour) (N : Nat) : (j.own N)[5]? = some (.val (.bool j.dead)) := rfl
theorem Jour.olen (j : Jour) (N : Nat) : (j.own N).length = 6 := rfl
theorem Jour.s3 (j : Jour) (N : Nat) (a : Nat) : setRange (j.own N) 3 [.val (.int .i64 a)] = ({ j with at_ := a } : Jour).own N := rfl
theorem Jour.s4 (j : Jour) (N : Nat) (a : Nat) : setRange (j.own N) 4 [.val (.int .i64 a)] = ({ j with next := a } : Jour).own N := rfl
theorem Jour.s5 (j : Jour) (N : Nat) (a : Bool) : setRange (j.own N) 5 [.val (.bool a)] = ({ j with dead := a } : Jour).own N := rfl
def JAt (j : Jour) (d : Dev) (N Nd : Nat) (m : Mem) : Prop := ∃ md, d.At Nd md ∧ md N = none ∧ m = md.set N (.cells false 36 (j.own Nd))
theorem JAt.seen {j : Jour} {d : Dev} {N Nd : Nat} {m M : Mem} (h : JAt j d N Nd m) (hs : m.sub M) : Seen M (.ptr N 0) (.vp (j.rc d false false) 0) := by
  obtain ⟨md, h1, h2, rfl⟩ := h
  have hd := h1.seen (Mem.sub_set h2 (b := .cells false 36 (j.own Nd))) 0
  exact (Seen.ptrOf (cs := j.own Nd) (Mem.set_same _ _ _) (Nat.zero_lt_succ _) (.cons hd (Seens.refl _ _))).mono hs
theorem C11 {j : Jour} {d : Dev} {N Nd : Nat} {m : Mem} (h : JAt j d N Nd m) : C Try.prog 11 [.ptr N 0] m (fun r m' => r = .tup [] ∧ JAt { j with at_ := j.from_ } d N Nd m') := by
  have hsn := h.seen (Mem.sub.refl m)
  obtain ⟨md, h1, h2, hm⟩ := h
  have hN : m N = some (.cells false 36 (j.own Nd)) := by rw [hm]; exact Mem.set_same _ _ _
  have e : m.set N (.cells false 36 (({ j with at_ := j.from_ } : Jour).own Nd)) = md.set N (.cells false 36 (({ j with at_ := j.from_ } : Jour).own Nd)) := by rw [hm, Mem.set_set]
  clear hm
  refine C11_of ?_
  unfold k11
  repeat' first
    | simp -dsimp (disch := omega) only [↓rulesA, rulesB, rulesC, Int.reduceLT, nth, upd, put, storeN, AV.one, Nat.reduceBEq, Nat.reduceBNe, Int.reduceBEq, Int.reduceBNe, Int.reduceLE, Int.reduceEq, Int.reduceMod, Int.reduceNeg, boolBin, strBin, intBin, unA, fillA, ne_eq, reduceCtorEq, Nat.reduceAdd, Nat.reduceSub, Nat.reduceLeDiff, Nat.reduceLT, Nat.reduceEqDiff, Int.reduceToNat, eq_self, rulesT, rulesD, Jour.o0, Jour.o1, Jour.o3, Jour.olen, Jour.s3, *]
    | (refine allK_intro fun n hn => ?_; try simp only [fresh_set] at hn)
    | (refine ifK_intro (fun h => ?_) (fun h => ?_) <;> (try simp only [rulesE] at h) <;> try (exfalso; (try simp only [rulesF] at h); omega))
    | (refine keeps_sub (Mem.sub_set ?_) ?_; focus (simp [Mem.set_at, nomem, *]; done))
    | (refine call_F (F35 j d false false) (.one hsn) ?_)
    | (refine pure_F (F35 j d false false) (.one hsn) ?_)
  first | exact ⟨md, h1, h2, e⟩ | exact ⟨md, h1, h2, rfl⟩
end Go.Proofs.Ytlkeailgccbmbaa

set_option maxRecDepth 100000
set_option maxHeartbeats 1000000
set_option linter.unusedSimpArgs false
set_option linter.unusedVariables false
namespace Go.Proofs.Ytlkeailgccbmbaa
open Go.Abs
attribute [local irreducible] C X CC Y CV CW binK litK AppK PureC PureCV againK loopV rangeV allK ifK got onB condK V stepsK planK opK firstK seeE keepsK
def stand (e : Nat) (d : Dev) : Nat → Nat → Nat → List (List UInt8 × Nat)
  | 0, _, _ => []
  | f + 1, a, l => if a < e ∧ (readJ e d a).2.2.2 = true ∧ l ≤ (readJ e d a).2.1 then ((readJ e d a).1, (readJ e d a).2.2.1) :: stand e d f (readJ e d a).2.2.1 ((readJ e d a).2.1 + 1) else []
def rowsJ (L : List (List UInt8 × Nat)) : List (List AV) := L.map fun p => [.val (.string ⟨p.1.toArray⟩), .val (.int .i64 p.2)]
theorem readJ_on {e : Nat} {d : Dev} {a : Nat} (h : (readJ e d a).2.2.2 = true) : a < (readJ e d a).2.2.1 ∧ (readJ e d a).2.2.1 ≤ e ∧ (readJ e d a).2.1 ≤ 4611686018427387904 := by
  unfold readJ at *
  split at h
  · rename_i hc
    rw [if_pos hc]
    have := needN_pos (lenS (readS d a))
    exact ⟨by show a < a + _; omega, hc.2.2.1, numAt_le d a⟩
  · cases h
theorem stand_more {e : Nat} {d : Dev} : ∀ (f g a l : Nat), e ≤ a + f → e ≤ a + g → stand e d f a l = stand e d g a l
  | 0, 0, _, _, _, _ => rfl
  | 0, g + 1, a, l, h, _ => by unfold stand; rw [if_neg (fun hh => by omega)]
  | f + 1, 0, a, l, _, h => by unfold stand; rw [if_neg (fun hh => by omega)]
  | f + 1, g + 1, a, l, h, h' => by
    unfold stand
    by_cases hc : a < e ∧ (readJ e d a).2.2.2 = true ∧ l ≤ (readJ e d a).2.1
    · rw [if_pos hc, if_pos hc]
      have := (readJ_on hc.2.1).1
      rw [stand_more f g _ _ (by omega) (by omega)]
    · rw [if_neg hc, if_neg hc]
theorem stand_step {e : Nat} {d : Dev} {a l : Nat} (h : a < e ∧ (readJ e d a).2.2.2 = true ∧ l ≤ (readJ e d a).2.1) : stand e d e a l = ((readJ e d a).1, (readJ e d a).2.2.1) :: stand e d e (readJ e d a).2.2.1 ((readJ e d a).2.1 + 1) := by
  rw [stand_more e (e + 1) a l (by omega) (by omega)]
  rw [stand, if_pos h]
theorem stand_stop {e : Nat} {d : Dev} {a l : Nat} (h : ¬ (a < e ∧ (readJ e d a).2.2.2 = true ∧ l ≤ (readJ e d a).2.1)) : stand e d e a l = [] := by
  rw [stand_more e (e + 1) a l (by omega) (by omega)]
  rw [stand, if_neg h]
end Go.Proofs.Ytlkeailgccbmbaa

set_option maxRecDepth 100000
set_option maxHeartbeats 1000000
set_option linter.unusedSimpArgs false
set_option linter.unusedVariables false
namespace Go.Proofs.Ytlkeailgccbmbaa
open Go.Abs
attribute [local irreducible] C X CC Y CV CW binK litK AppK PureC PureCV againK loopV rangeV allK ifK got onB condK V stepsK planK opK firstK seeE keepsK
theorem rowsJ_at (L : List (List UInt8 × Nat)) (k : Nat) (h : k < L.length) (h' : k < (rowsJ L).length) : (rowsJ L)[k] = [.val (.string ⟨L[k].1.toArray⟩), .val (.int .i64 L[k].2)] := by simp [rowsJ]
theorem stand_none {e : Nat} {d : Dev} {f a l : Nat} (h : ¬ a < e) : stand e d f a l = [] := by
  cases f with
  | zero => rfl
  | succ n => unfold stand; rw [if_neg (fun hh => h hh.1)]
def Keeps (nF nJ N Nd fr e : Nat) (first : Nat) (d : Dev) (_ : Nat) (m : Mem) : Prop :=
  m nF = some (.cells false 2 [.val (.int .i64 first)]) ∧ m nJ = some (.cells false 26 [.ptr N 0]) ∧ ∃ j m0, j.from_ = fr ∧ j.end_ = e ∧ JAt j d N Nd m0 ∧ m0.sub m
theorem Keeps.up {nF nJ N Nd fr e first : Nat} {d : Dev} {k : Nat} {m m' : Mem} (hs : m.sub m') (h : Keeps nF nJ N Nd fr e first d k m) : Keeps nF nJ N Nd fr e first d k m' := by
  obtain ⟨a, b, j, m0, c1, c2, c3, c4⟩ := h
  exact ⟨hs _ _ a, hs _ _ b, j, m0, c1, c2, c3, c4.trans hs⟩
theorem conv_44_9 (m : Mem) (l : List UInt8) (x : Bool) : convA Try.prog m 44 9 (.vs (l.map byteC) x) = some (.val (.string ⟨l.toArray⟩)) := by
  exact conv_vs ti_44 rfl ti_9 rfl ti_5 rfl m l x
theorem I48 (nF nJ N Nd fr e first : Nat) (d : Dev) (h : 1 ≤ d.laid.length) (hm : d.laid.length ≤ 4096) (hl : d.list.length ≤ 4096) (he : e ≤ 4096) (hfr : fr ≤ 4096) (hfi : first ≤ 4611686018427387904) : IterOn Try.prog 48 [] [.ptr nF 0, .ptr nJ 0] (Keeps nF nJ N Nd fr e first d) (rowsJ (stand e d e fr first)) := by
  intro ny M I S K' h0 hB hY hend hstop
  refine C.turn (C48_of ?_)
  unfold k48
  obtain ⟨q1, q2, j, m0, rfl, rfl, hJ, hs0⟩ := hB 0 M h0
  have hN : M N = some (.cells false 36 (j.own Nd)) := by
    obtain ⟨md, _, _, rfl⟩ := hJ
    exact hs0 _ _ (Mem.set_same _ _ _)
  replace hB : Kept _ := hB
  replace hY : Kept _ := hY
  repeat' first
    | simp -dsimp (disch := omega) only [↓rulesA, rulesB, rulesC, Int.reduceLT, nth, upd, put, storeN, AV.one, Nat.reduceBEq, Nat.reduceBNe, Int.reduceBEq, Int.reduceBNe, Int.reduceLE, Int.reduceEq, Int.reduceMod, Int.reduceNeg, boolBin, strBin, intBin, unA, fillA, ne_eq, reduceCtorEq, Nat.reduceAdd, Nat.reduceSub, Nat.reduceLeDiff, Nat.reduceLT, Nat.reduceEqDiff, Int.reduceToNat, eq_self, rulesT, rulesD, Jour.o1, Jour.o2, *]
    | (refine allK_intro fun n hn => ?_; try simp only [fresh_set] at hn)
    | (refine ifK_intro (fun h => ?_) (fun h => ?_) <;> (try simp only [rulesE] at h) <;> try (exfalso; (try simp only [rulesF] at h); omega))
    | (refine keeps_sub (Mem.sub_set ?_) ?_; focus (simp [Mem.set_at, nomem, *]; done))
  obtain ⟨L, eL⟩ : ∃ L, L = stand j.end_ d j.end_ j.from_ first := ⟨_, rfl⟩
  rw [← eL] at hend hY
  clear hs0 hN hJ q1 q2
  refine loop_intro (fun jj env m => ∃ (k a l : Nat) (mI : Mem), k ≤ L.length ∧ jj = j.end_ - a ∧ I k mI ∧ mI.sub m ∧ L.drop k = stand j.end_ d j.end_ a l ∧ a ≤ 4096 ∧ l ≤ 4611686018427387905 ∧ env.length = 47 ∧ nth env 0 = .yld ny ∧ nth env 1 = .ptr nF 0 ∧ nth env 2 = .ptr nJ 0 ∧ nth env 4 = .val (.int .i64 l) ∧ nth env 5 = .val (.int .i64 a)) (j.end_ - j.from_) _ (Mem.sub.refl _) ⟨0, j.from_, first, M, by omega, rfl, h0, Mem.sub.refl _, by rw [eL]; rfl, hfr, by omega, rfl, rfl, rfl, rfl, rfl, rfl⟩ ?_
  clear h0 eL
  rintro jj env m ⟨k, a, l, mI, hk, rfl, hI, hsub, hdrop, ha, hll, hlen, e0, e1, e2, e4, e5⟩
  obtain ⟨q1, q2, j', m0, f1, f2, hJ, hs0⟩ := (hB : ∀ _ _, _) k mI hI
  replace q1 := hsub _ _ q1
  replace q2 := hsub _ _ q2
  have hsn := hJ.seen (hs0.trans hsub)
  have hN : m N = some (.cells false 36 (j'.own Nd)) := by
    obtain ⟨md, _, _, rfl⟩ := hJ
    exact hsub _ _ (hs0 _ _ (Mem.set_same _ _ _))
  have h49 := F49 j' d false false h hm hl (by omega) a ha
  rw [f2] at h49
  replace hdrop : Kept _ := hdrop
  replace hI : Kept _ := hI
  by_cases hae : a < j.end_
  · have hst := stand_step (e := j.end_) (d := d) (a := a) (l := l)
    have hsp := stand_stop (e := j.end_) (d := d) (a := a) (l := l)
    have hon := readJ_on (e := j.end_) (d := d) (a := a)
    generalize readJ j.end_ d a = R at h49 hst hsp hon
    obtain ⟨rec, num, bh, ok⟩ := R
    replace h49 : F Try.prog 49 [.vp (j'.rc d false false) 0, .val (.int .i64 a)] (.tup [.vs (rec.map byteC) false, .val (.int .i64 num), .val (.int .i64 bh), .val (.bool ok)]) := h49
    replace hst : Kept _ := hst
    replace hsp : Kept _ := hsp
    replace hon : Kept _ := hon
    cases ok with
    | false =>
      have hd : L.drop k = [] := (hdrop : _ = _).trans ((hsp : _ → _) (fun hh => by have := hh.2.1; cases this))
      have hkl : k = L.length := by have := List.length_drop (l := L) (i := k); rw [hd] at this; simp at this; omega
      clear hd
      repeat' first
        | simp -dsimp (disch := omega) only [↓rulesA, rulesB, rulesC, Int.reduceLT, nth, upd, put, storeN, AV.one, Nat.reduceBEq, Nat.reduceBNe, Int.reduceBEq, Int.reduceBNe, Int.reduceLE, Int.reduceEq, Int.reduceMod, Int.reduceNeg, boolBin, strBin, intBin, unA, fillA, ne_eq, reduceCtorEq, Nat.reduceAdd, Nat.reduceSub, Nat.reduceLeDiff, Nat.reduceLT, Nat.reduceEqDiff, Int.reduceToNat, eq_self, rulesT, rulesD, Jour.o2, f2, conv_44_9, *]
        | (refine allK_intro fun n hn => ?_; try simp only [fresh_set] at hn)
        | (refine ifK_intro (fun h => ?_) (fun h => ?_) <;> (try simp only [rulesE] at h) <;> try (exfalso; (try simp only [rulesF] at h); omega))
        | (refine keeps_sub (Mem.sub_set ?_) ?_; focus (simp [Mem.set_at, nomem, *]; done))
        | (refine call_F (h49) (.two hsn .same) ?_)
        | (refine pure_F (h49) (.two hsn .same) ?_)
      refine Turns.sub hsub (hend _ ?_)
      have hI2 : I k mI := hI
      rw [show (rowsJ L).length = k by unfold rowsJ; rw [List.length_map, hkl]]
      exact hI2
    | true =>
      repeat' first
        | simp -dsimp (disch := omega) only [↓rulesA, rulesB, rulesC, Int.reduceLT, nth, upd, put, storeN, AV.one, Nat.reduceBEq, Nat.reduceBNe, Int.reduceBEq, Int.reduceBNe, Int.reduceLE, Int.reduceEq, Int.reduceMod, Int.reduceNeg, boolBin, strBin, intBin, unA, fillA, ne_eq, reduceCtorEq, Nat.reduceAdd, Nat.reduceSub, Nat.reduceLeDiff, Nat.reduceLT, Nat.reduceEqDiff, Int.reduceToNat, eq_self, rulesT, rulesD, Jour.o2, f2, conv_44_9, *]
        | (refine allK_intro fun n hn => ?_; try simp only [fresh_set] at hn)
        | (refine ifK_intro (fun h => ?_) (fun h => ?_) <;> (try simp only [rulesE] at h) <;> try (exfalso; (try simp only [rulesF] at h); omega))
        | (refine keeps_sub (Mem.sub_set ?_) ?_; focus (simp [Mem.set_at, nomem, *]; done))
        | (refine call_F (h49) (.two hsn .same) ?_)
        | (refine pure_F (h49) (.two hsn .same) ?_)
      · have hc : l ≤ num := by omega
        have hd := (hdrop : _ = _).trans ((hst : _ → _) ⟨hae, rfl, hc⟩)
        have hkl : k < L.length := Nat.lt_of_not_le fun hh => by rw [List.drop_of_length_le hh] at hd; cases hd
        rw [List.drop_eq_getElem_cons hkl] at hd
        injection hd with hd1 hd2
        obtain ⟨o1, o2, o3⟩ := (hon : _ → _) rfl
        simp only at o1 o2 o3
        have hkr : k < (rowsJ L).length := by unfold rowsJ; rw [List.length_map]; exact hkl
        have hY' := (hY : ∀ _ _ _ _, _) k hkr mI hI
        have er : (rowsJ L)[k] = [.val (.string ⟨rec.toArray⟩), .val (.int .i64 bh)] := by rw [rowsJ_at L k hkl hkr, hd1]
        rw [er] at hY'
        clear hst hsp hon hdrop hd1 er
        refine yield_on hY' hsub fun r m' M' hh hs' hf => ?_
        rcases hh with ⟨rfl, hh⟩ | ⟨rfl, hh⟩
        · repeat' first
            | simp -dsimp (disch := omega) only [↓rulesA, rulesB, rulesC, Int.reduceLT, nth, upd, put, storeN, AV.one, Nat.reduceBEq, Nat.reduceBNe, Int.reduceBEq, Int.reduceBNe, Int.reduceLE, Int.reduceEq, Int.reduceMod, Int.reduceNeg, boolBin, strBin, intBin, unA, fillA, ne_eq, reduceCtorEq, Nat.reduceAdd, Nat.reduceSub, Nat.reduceLeDiff, Nat.reduceLT, Nat.reduceEqDiff, Int.reduceToNat, eq_self, rulesT, rulesD, *]
            | (refine allK_intro fun n hn => ?_; try simp only [fresh_set] at hn)
            | (refine ifK_intro (fun h => ?_) (fun h => ?_) <;> (try simp only [rulesE] at h) <;> try (exfalso; (try simp only [rulesF] at h); omega))
            | (refine keeps_sub (Mem.sub_set ?_) ?_; focus (simp [Mem.set_at, nomem, *]; done))
          refine again_intro (j.end_ - bh) (by omega) M' (Mem.sub.refl _) ⟨k + 1, bh, num + 1, m', by omega, rfl, hh, hs', hd2, by omega, by omega, ?_, ?_, ?_, ?_, ?_, ?_⟩
          all_goals try (simp (disch := omega) only [nth_upd, pickB_true, pickB_false, inB_lt, upd_len, cast_succ, Int.cast_ofNat_Int, Nat.reduceBEq, beq_self_eq_true, reduceCtorEq, *]; done)
        · repeat' first
            | simp -dsimp (disch := omega) only [↓rulesA, rulesB, rulesC, Int.reduceLT, nth, upd, put, storeN, AV.one, Nat.reduceBEq, Nat.reduceBNe, Int.reduceBEq, Int.reduceBNe, Int.reduceLE, Int.reduceEq, Int.reduceMod, Int.reduceNeg, boolBin, strBin, intBin, unA, fillA, ne_eq, reduceCtorEq, Nat.reduceAdd, Nat.reduceSub, Nat.reduceLeDiff, Nat.reduceLT, Nat.reduceEqDiff, Int.reduceToNat, eq_self, rulesT, rulesD, *]
            | (refine allK_intro fun n hn => ?_; try simp only [fresh_set] at hn)
            | (refine ifK_intro (fun h => ?_) (fun h => ?_) <;> (try simp only [rulesE] at h) <;> try (exfalso; (try simp only [rulesF] at h); omega))
            | (refine keeps_sub (Mem.sub_set ?_) ?_; focus (simp [Mem.set_at, nomem, *]; done))
          exact Turns.sub hs' (hstop _ hh)
      · have hd : L.drop k = [] := (hdrop : _ = _).trans ((hsp : _ → _) (fun hh => by have := hh.2.2; simp only at this; omega))
        have hkl : k = L.length := by have := List.length_drop (l := L) (i := k); rw [hd] at this; simp at this; omega
        refine Turns.sub hsub (hend _ ?_)
        have hI2 : I k mI := hI
        rw [show (rowsJ L).length = k by unfold rowsJ; rw [List.length_map, hkl]]
        exact hI2
  · have hnil := stand_none (d := d) (f := j.end_) (l := l) hae
    have hd : L.drop k = [] := (hdrop : _ = _).trans hnil
    have hkl : k = L.length := by have := List.length_drop (l := L) (i := k); rw [hd] at this; simp at this; omega
    clear hd hnil
    repeat' first
      | simp -dsimp (disch := omega) only [↓rulesA, rulesB, rulesC, Int.reduceLT, nth, upd, put, storeN, AV.one, Nat.reduceBEq, Nat.reduceBNe, Int.reduceBEq, Int.reduceBNe, Int.reduceLE, Int.reduceEq, Int.reduceMod, Int.reduceNeg, boolBin, strBin, intBin, unA, fillA, ne_eq, reduceCtorEq, Nat.reduceAdd, Nat.reduceSub, Nat.reduceLeDiff, Nat.reduceLT, Nat.reduceEqDiff, Int.reduceToNat, eq_self, rulesT, rulesD, Jour.o2, f2, *]
      | (refine allK_intro fun n hn => ?_; try simp only [fresh_set] at hn)
      | (refine ifK_intro (fun h => ?_) (fun h => ?_) <;> (try simp only [rulesE] at h) <;> try (exfalso; (try simp only [rulesF] at h); omega))
      | (refine keeps_sub (Mem.sub_set ?_) ?_; focus (simp [Mem.set_at, nomem, *]; done))
    refine Turns.sub hsub (hend _ ?_)
    have hI2 : I k mI := hI
    rw [show (rowsJ L).length = k by unfold rowsJ; rw [List.length_map, hkl]]
    exact hI2
end Go.Proofs.Ytlkeailgccbmbaa

set_option maxRecDepth 100000
set_option maxHeartbeats 1000000
set_option linter.unusedSimpArgs false
set_option linter.unusedVariables false
namespace Go.Proofs.Ytlkeailgccbmbaa
open Go.Abs
attribute [local irreducible] C X CC Y CV CW binK litK AppK PureC PureCV againK loopV rangeV allK ifK got onB condK V stepsK planK opK firstK seeE keepsK
def atTo (L : List (List UInt8 × Nat)) (fr : Nat) : Nat → Nat
  | 0 => fr
  | k + 1 => (L.getD k default).2
def nextTo (d : Dev) (fr first : Nat) : Nat → Nat
  | 0 => first
  | k + 1 => max (nextTo d fr first k) (numAt d (fr + k) + 1)
theorem nextTo_le (d : Dev) {fr first : Nat} (h : first ≤ 4611686018427387905) : ∀ k, nextTo d fr first k ≤ 4611686018427387905
  | 0 => h
  | k + 1 => by
    have := nextTo_le d (fr := fr) h k
    have := numAt_le d (fr + k)
    unfold nextTo
    omega
def three (a b c : Option AV) : Option AV := match a, b, c with
  | some a, some b, some c => some (.tup [a, b, c])
  | _, _, _ => none
theorem three_some (a b c : AV) : three (some a) (some b) (some c) = some (.tup [a, b, c]) := Eq.trans rfl rfl
theorem resL_three (P : Program) (m : Mem) (env : List AV) (x y z : ResultVar) : resL P m env [x, y, z] = three (resOne P m env x) (resOne P m env y) (resOne P m env z) := by
  simp only [resL, List.mapM_cons, List.mapM_nil, three]
  cases resOne P m env x <;> cases resOne P m env y <;> cases resOne P m env z <;> rfl
def OpenOk (d : Dev) (fr cnt first : Int) : Prop := 0 ≤ fr ∧ 1 ≤ cnt ∧ cnt ≤ d.laid.length ∧ fr ≤ d.laid.length - cnt ∧ 1 ≤ first ∧ first ≤ 4611686018427387904
theorem C9_no (d : Dev) (hd1 : 1 ≤ d.laid.length) (hm : d.laid.length ≤ 4096) {Nd : Nat} {m : Mem} (hat : d.At Nd m) (fr cnt first : Int) (hno : ¬ OpenOk d fr cnt first) : C Try.prog 9 [.ptr Nd 0, .val (.int .i64 fr), .val (.int .i64 cnt), .val (.int .i64 first)] m (fun r m' => r = .tup [.val (.pointer none), .val (.slice none 0 0), .val (.int .i64 20)] ∧ m' = m) := by
  have hs := hat.seen (Mem.sub.refl m) 0
  replace hno : Kept _ := hno
  refine C9_of ?_
  unfold k9
  repeat' first
    | simp -dsimp (disch := omega) only [↓rulesA, rulesB, rulesC, Int.reduceLT, nth, upd, put, storeN, AV.one, Nat.reduceBEq, Nat.reduceBNe, Int.reduceBEq, Int.reduceBNe, Int.reduceLE, Int.reduceEq, Int.reduceMod, Int.reduceNeg, boolBin, strBin, intBin, unA, fillA, ne_eq, reduceCtorEq, Nat.reduceAdd, Nat.reduceSub, Nat.reduceLeDiff, Nat.reduceLT, Nat.reduceEqDiff, Int.reduceToNat, eq_self, rulesT, rulesD, resL_three, three_some, *]
    | (refine allK_intro fun n hn => ?_; try simp only [fresh_set] at hn)
    | (refine ifK_intro (fun h => ?_) (fun h => ?_) <;> (try simp only [rulesE] at h) <;> try (exfalso; (try simp only [rulesF] at h); omega))
    | (refine keeps_sub (Mem.sub_set ?_) ?_; focus (simp [Mem.set_at, nomem, *]; done))
    | (refine call_F (F31 d false false hd1) (.one hs) ?_)
    | (refine pure_F (F31 d false false hd1) (.one hs) ?_)
  all_goals first | exact ⟨rfl, rfl⟩ | exact absurd (show OpenOk d fr cnt first from ⟨by omega, by omega, by omega, by omega, by omega, by omega⟩) hno
theorem C9_dead (d : Dev) (hd1 : 1 ≤ d.laid.length) (hm : d.laid.length ≤ 4096) {Nd : Nat} {m : Mem} (hat : d.At Nd m) (fr cnt first : Int) (hok : OpenOk d fr cnt first) (hdead : d.dead = true) : C Try.prog 9 [.ptr Nd 0, .val (.int .i64 fr), .val (.int .i64 cnt), .val (.int .i64 first)] m (fun r m' => r = .tup [.val (.pointer none), .val (.slice none 0 0), .val (.int .i64 22)] ∧ m' = m) := by
  have hs := hat.seen (Mem.sub.refl m) 0
  obtain ⟨o1, o2, o3, o4, o5, o6⟩ := hok
  have f32 := F32 d false false hd1
  rw [hdead] at f32
  refine C9_of ?_
  unfold k9
  repeat' first
    | simp -dsimp (disch := omega) only [↓rulesA, rulesB, rulesC, Int.reduceLT, nth, upd, put, storeN, AV.one, Nat.reduceBEq, Nat.reduceBNe, Int.reduceBEq, Int.reduceBNe, Int.reduceLE, Int.reduceEq, Int.reduceMod, Int.reduceNeg, boolBin, strBin, intBin, unA, fillA, ne_eq, reduceCtorEq, Nat.reduceAdd, Nat.reduceSub, Nat.reduceLeDiff, Nat.reduceLT, Nat.reduceEqDiff, Int.reduceToNat, eq_self, rulesT, rulesD, resL_three, three_some, *]
    | (refine allK_intro fun n hn => ?_; try simp only [fresh_set] at hn)
    | (refine ifK_intro (fun h => ?_) (fun h => ?_) <;> (try simp only [rulesE] at h) <;> try (exfalso; (try simp only [rulesF] at h); omega))
    | (refine keeps_sub (Mem.sub_set ?_) ?_; focus (simp [Mem.set_at, nomem, *]; done))
    | (refine call_F (F31 d false false hd1) (.one hs) ?_)
    | (refine pure_F (F31 d false false hd1) (.one hs) ?_)
    | (refine call_F (f32) (.one hs) ?_)
    | (refine pure_F (f32) (.one hs) ?_)
  all_goals first | exact ⟨rfl, rfl⟩ | (exfalso; omega)
end Go.Proofs.Ytlkeailgccbmbaa

set_option maxRecDepth 100000
set_option maxHeartbeats 1000000
set_option linter.unusedSimpArgs false
set_option linter.unusedVariables false
namespace Go.Proofs.Ytlkeailgccbmbaa
open Go.Abs
attribute [local irreducible] C X CC Y CV CW binK litK AppK PureC PureCV againK loopV rangeV allK ifK got onB condK V stepsK planK opK firstK seeE keepsK
def txC (s : ByteArray) : List AV := [.val (.string s)]
theorem tx_len (l : List ByteArray) : (l.map txC).flatten.length = l.length := by rw [row_len txC (s := 1) (fun _ => rfl) l, Nat.mul_one]
def txts (L : List (List UInt8 × Nat)) : List ByteArray := L.map fun p => ⟨p.1.toArray⟩
theorem tx_next (L : List ByteArray) (k : Nat) (h : k < L.length) : L.take (k + 1) = L.take k ++ [L.getD k default] := by
  rw [List.take_add_one, List.getD_eq_getElem?_getD, List.getElem?_eq_getElem h]; rfl
theorem src_22 (m : Mem) (l : List ByteArray) (x : Bool) : srcA Try.prog m 22 1 (.vs (l.map txC) x) = some (l.length, (l.map txC).flatten) := src_vs txC ti_22 rfl (fun _ => ⟨rfl, rfl⟩) m l x
theorem startA_two (env : List AV) (t u : Nat) (v w : AV) : startA env #[t, u] [v, w] = upd (upd env t v) u w := rfl
theorem Turns.nil1 (t : TypeId) {a c : AV} {m : Mem} {K' : AV → Mem → Prop} (h : ∀ n, m n = none → K' (.tup [a, .sl n 0 0 0, c]) (m.set n (.cells true t []))) : Turns Try.prog (.tup [a, .val (.slice none 0 0), c]) m K' := fun κ w cv hs hr => by
  obtain ⟨n, hr', hm⟩ := hs.fresh
  have hst := Step.empty hs hm hr' t
  refine ⟨_, _, _, h n hm, hst, ?_⟩
  cases hr with
  | tup hl hr =>
    refine .tup hl fun i h1 h2 => ?_
    match i, h1 with
    | 0, _ => exact (hr 0 (by simp) h2).mono hst.le
    | 1, _ =>
      have := hr 1 (by simp) h2
      obtain ⟨e, _⟩ := this.val_inv
      rw [e]; exact .snil
    | 2, _ => exact (hr 2 (by simp) h2).mono hst.le
theorem jseen {j : Jour} {d : Dev} {N Nd : Nat} {md M : Mem} (hat : d.At Nd md) (hs : md.sub M) (hN : M N = some (.cells false 36 (j.own Nd))) : Seen M (.ptr N 0) (.vp (j.rc d false false) 0) :=
  Seen.ptrOf (cs := j.own Nd) hN (Nat.zero_lt_succ _) (.cons (hat.seen hs 0) (Seens.refl _ _))
def openAt (d : Dev) (fr cnt first k : Nat) : Jour := ⟨fr, fr + cnt, atTo (stand (fr + cnt) d (fr + cnt) fr first) fr k, first, false⟩
def openJ (d : Dev) (fr cnt first : Nat) : Jour := ⟨fr, fr + cnt, atTo (stand (fr + cnt) d (fr + cnt) fr first) fr (stand (fr + cnt) d (fr + cnt) fr first).length, nextTo d fr first cnt, false⟩
def openT (d : Dev) (fr cnt first : Nat) : List ByteArray := txts (stand (fr + cnt) d (fr + cnt) fr first)
theorem stand_len (e : Nat) (d : Dev) : ∀ f a l, (stand e d f a l).length ≤ e - a
  | 0, _, _ => Nat.zero_le _
  | f + 1, a, l => by
    unfold stand
    split
    · rename_i h
      have := stand_len e d f (readJ e d a).2.2.1 ((readJ e d a).2.1 + 1)
      have := readJ_on h.2.1
      rw [List.length_cons]; omega
    · exact Nat.zero_le _
def openM (m : Mem) (J : Jour) (Nd N n1 n2 n3 n4 first : Nat) (out : AV) : Mem := ((((m.set N (.cells false 36 (J.own Nd))).set n1 (.cells false 26 [.ptr N 0])).set n2 (.cells false 22 [out])).set n3 (.cells false 26 [.ptr N 0])).set n4 (.cells false 2 [.val (.int .i64 first)])
theorem C9_ok (d : Dev) (hd1 : 1 ≤ d.laid.length) (hm : d.laid.length ≤ 4096) (hl : d.list.length ≤ 4096) {Nd : Nat} {m : Mem} (hat : d.At Nd m) (fr cnt first : Nat) (h1 : 1 ≤ cnt) (h2 : fr + cnt ≤ d.laid.length) (h3 : 1 ≤ first) (h4 : first ≤ 4611686018427387904) (hdead : d.dead = false) : C Try.prog 9 [.ptr Nd 0, .val (.int .i64 fr), .val (.int .i64 cnt), .val (.int .i64 first)] m (fun r m' => ∃ N q, m N = none ∧ m q = none ∧ N ≠ q ∧ r = .tup [.ptr N 0, .sl q 0 (openT d fr cnt first).length (openT d fr cnt first).length, .val (.int .i64 0)] ∧ m' = (m.set N (.cells false 36 ((openJ d fr cnt first).own Nd))).set q (.cells true 9 ((openT d fr cnt first).map txC).flatten)) := by
  have hs := hat.seen (Mem.sub.refl m) 0
  have f32 := F32 d false false hd1
  rw [hdead] at f32
  refine C.turn (C9_of ?_)
  unfold k9
  repeat' first
    | simp -dsimp (disch := omega) only [↓rulesA, rulesB, rulesC, Int.reduceLT, nth, upd, put, storeN, AV.one, Nat.reduceBEq, Nat.reduceBNe, Int.reduceBEq, Int.reduceBNe, Int.reduceLE, Int.reduceEq, Int.reduceMod, Int.reduceNeg, boolBin, strBin, intBin, unA, fillA, ne_eq, reduceCtorEq, Nat.reduceAdd, Nat.reduceSub, Nat.reduceLeDiff, Nat.reduceLT, Nat.reduceEqDiff, Int.reduceToNat, eq_self, rulesT, rulesD, resL_three, three_some, *]
    | (refine allK_intro fun n hn => ?_; try simp only [fresh_set] at hn)
    | (refine ifK_intro (fun h => ?_) (fun h => ?_) <;> (try simp only [rulesE] at h) <;> try (exfalso; (try simp only [rulesF] at h); omega))
    | (refine keeps_sub (Mem.sub_set ?_) ?_; focus (simp [Mem.set_at, nomem, *]; done))
    | (refine call_F (F31 d false false hd1) (.one hs) ?_)
    | (refine pure_F (F31 d false false hd1) (.one hs) ?_)
    | (refine call_F (f32) (.one hs) ?_)
    | (refine pure_F (f32) (.one hs) ?_)
  rename_i nN hN nj hj
  have e0 : (([.ptr Nd 0, .val (.int .i64 fr), .val (.int .i64 (fr + cnt : Nat)), .val (.int .i64 fr), .val (.int .i64 first), .val (.bool false)]) : List AV) = (openAt d fr cnt first 0).own Nd := rfl
  rw [← Int.natCast_add, e0]
  refine call_on (C33 nN first) (nomem_sub _) fun r m' hr hd => ?_
  obtain ⟨n3, n4, h34, rfl, rfl⟩ := hr
  have h43 := Ne.symm h34
  have f3 := hd n3 rfl (by simp [Mem.set_at, h34])
  have f4 := hd n4 rfl (by simp [Mem.set_at])
  clear hd
  simp only [fresh_set] at f3 f4
  rw [Mem.plus_set, Mem.plus_set, Mem.plus_nomem nomem _ fun n h => absurd rfl h]
  obtain ⟨L, eL⟩ : ∃ L, L = stand (fr + cnt) d (fr + cnt) fr first := ⟨_, rfl⟩
  have hI := I48 n4 n3 nN Nd fr (fr + cnt) first d hd1 hm hl (by omega) (by omega) h4
  rw [← eL] at hI
  have hLle : L.length ≤ 4096 := by rw [eL]; have := stand_len (fr + cnt) d (fr + cnt) fr first; omega
  replace eL : Kept _ := eL
  repeat' first
    | simp -dsimp (disch := omega) only [↓rulesA, rulesB, rulesC, Int.reduceLT, nth, upd, put, storeN, AV.one, Nat.reduceBEq, Nat.reduceBNe, Int.reduceBEq, Int.reduceBNe, Int.reduceLE, Int.reduceEq, Int.reduceMod, Int.reduceNeg, boolBin, strBin, intBin, unA, fillA, ne_eq, reduceCtorEq, Nat.reduceAdd, Nat.reduceSub, Nat.reduceLeDiff, Nat.reduceLT, Nat.reduceEqDiff, Int.reduceToNat, eq_self, rulesT, rulesD, *]
    | (refine allK_intro fun n hn => ?_; try simp only [fresh_set] at hn)
    | (refine ifK_intro (fun h => ?_) (fun h => ?_) <;> (try simp only [rulesE] at h) <;> try (exfalso; (try simp only [rulesF] at h); omega))
    | (refine keeps_sub (Mem.sub_set ?_) ?_; focus (simp [Mem.set_at, nomem, *]; done))
  refine range_on mixed la9_0_is lb9_0_is hI (fun k m m' => Keeps.up) (fun l hl => by obtain ⟨p, _, rfl⟩ := List.mem_map.1 hl; rfl) (fun n h => by cases h)
    (fun k m1 => k ≤ L.length ∧ ((k = 0 ∧ m1 = openM m ⟨fr, fr + cnt, fr, first, false⟩ Nd nN nj n n3 n4 first (.val (.slice none 0 0))) ∨ (0 < k ∧ ∃ q, m q = none ∧ q ≠ nN ∧ q ≠ nj ∧ q ≠ n ∧ q ≠ n3 ∧ q ≠ n4 ∧ m1 = (openM m ⟨fr, fr + cnt, atTo L fr k, first, false⟩ Nd nN nj n n3 n4 first (.sl q 0 k k)).set q (.cells true 9 (((txts L).take k).map txC).flatten))))
    _ (Mem.sub.refl _) ⟨by omega, .inl ⟨rfl, rfl⟩⟩ ?_ ?_ ?_
  · rintro k m1 ⟨hk, hc⟩
    obtain ⟨j, out, q, b, hj1, hj2, hq, -⟩ : ∃ (j : Jour) (out : AV) (m2 : Mem) (hm2 : m2 = openM m j Nd nN nj n n3 n4 first out), j.from_ = fr ∧ j.end_ = fr + cnt ∧ (m1 = m2 ∨ ∃ q c, m q = none ∧ q ≠ nN ∧ q ≠ nj ∧ q ≠ n ∧ q ≠ n3 ∧ q ≠ n4 ∧ m1 = m2.set q c) ∧ True := by
      rcases hc with ⟨rfl, rfl⟩ | ⟨h0, q, a1, a2, a3, a4, a5, a6, rfl⟩
      · exact ⟨_, _, _, rfl, rfl, rfl, .inl rfl, trivial⟩
      · exact ⟨_, _, _, rfl, rfl, rfl, .inr ⟨q, _, a1, a2, a3, a4, a5, a6, rfl⟩, trivial⟩
    subst b
    refine Keeps.up (m := openM m j Nd nN nj n n3 n4 first out) ?_ ?_
    · rcases hq with rfl | ⟨q, c, a1, a2, a3, a4, a5, a6, rfl⟩
      · exact Mem.sub.refl _
      · exact Mem.sub_set (by simp [openM, Mem.set_at, *])
    · refine ⟨by simp [openM, Mem.set_at, *], by simp [openM, Mem.set_at, *], j, m.set nN (.cells false 36 (j.own Nd)), hj1, hj2, ⟨m, hat, hN, rfl⟩, ?_⟩
      unfold openM
      refine Mem.sub.trans (Mem.sub.trans (Mem.sub.trans (Mem.sub_set ?_) (Mem.sub_set ?_)) (Mem.sub_set ?_)) (Mem.sub_set ?_) <;> simp [Mem.set_at, *]
  · rintro k hk nl m1 ⟨hkL, hm1⟩ hnl
    have hkl : k < L.length := by have := hk; simp only [rowsJ, List.length_map] at this; omega
    have etx : (⟨L[k].1.toArray⟩ : ByteArray) = (txts L).getD k default := by simp [txts, List.getD_eq_getElem?_getD, List.getElem?_eq_getElem hkl]
    have eat : atTo L fr (k + 1) = L[k].2 := by simp [atTo, List.getD_eq_getElem?_getD, List.getElem?_eq_getElem hkl]
    rw [rowsJ_at L k hkl hk, etx, ← eat]
    clear etx eat
    rcases hm1 with ⟨rfl, rfl⟩ | ⟨h0, q, a1, a2, a3, a4, a5, a6, rfl⟩
    · unfold la9_0 lb9_0
      unfold openM at hnl ⊢
      simp only [fresh_set] at hnl
      repeat' first
        | simp -dsimp (disch := omega) only [↓rulesA, rulesB, rulesC, Int.reduceLT, nth, upd, put, storeN, AV.one, Nat.reduceBEq, Nat.reduceBNe, Int.reduceBEq, Int.reduceBNe, Int.reduceLE, Int.reduceEq, Int.reduceMod, Int.reduceNeg, boolBin, strBin, intBin, unA, fillA, ne_eq, reduceCtorEq, Nat.reduceAdd, Nat.reduceSub, Nat.reduceLeDiff, Nat.reduceLT, Nat.reduceEqDiff, Int.reduceToNat, eq_self, rulesT, rulesD, startA_two, *]
        | (refine allK_intro fun n hn => ?_; try simp only [fresh_set] at hn)
        | (refine ifK_intro (fun h => ?_) (fun h => ?_) <;> (try simp only [rulesE] at h) <;> try (exfalso; (try simp only [rulesF] at h); omega))
        | (refine keeps_sub (Mem.sub_set ?_) ?_; focus (simp [Mem.set_at, nomem, *]; done))
      refine lit_vs (lit1_22 _) rfl ?_
      repeat' first
        | simp -dsimp (disch := omega) only [↓rulesA, rulesB, rulesC, Int.reduceLT, nth, upd, put, storeN, AV.one, Nat.reduceBEq, Nat.reduceBNe, Int.reduceBEq, Int.reduceBNe, Int.reduceLE, Int.reduceEq, Int.reduceMod, Int.reduceNeg, boolBin, strBin, intBin, unA, fillA, ne_eq, reduceCtorEq, Nat.reduceAdd, Nat.reduceSub, Nat.reduceLeDiff, Nat.reduceLT, Nat.reduceEqDiff, Int.reduceToNat, eq_self, rulesT, rulesD, *]
        | (refine allK_intro fun n hn => ?_; try simp only [fresh_set] at hn)
        | (refine ifK_intro (fun h => ?_) (fun h => ?_) <;> (try simp only [rulesE] at h) <;> try (exfalso; (try simp only [rulesF] at h); omega))
        | (refine keeps_sub (Mem.sub_set ?_) ?_; focus (simp [Mem.set_at, nomem, *]; done))
      refine append_nil app_22 (src_22 _ [(txts L).getD 0 default] _) (by simp) fun q hq => ?_
      simp only [fresh_set] at hq
      repeat' first
        | simp -dsimp (disch := omega) only [↓rulesA, rulesB, rulesC, Int.reduceLT, nth, upd, put, storeN, AV.one, Nat.reduceBEq, Nat.reduceBNe, Int.reduceBEq, Int.reduceBNe, Int.reduceLE, Int.reduceEq, Int.reduceMod, Int.reduceNeg, boolBin, strBin, intBin, unA, fillA, ne_eq, reduceCtorEq, Nat.reduceAdd, Nat.reduceSub, Nat.reduceLeDiff, Nat.reduceLT, Nat.reduceEqDiff, Int.reduceToNat, eq_self, rulesT, rulesD, Jour.s3, Jour.olen, *]
        | (refine allK_intro fun n hn => ?_; try simp only [fresh_set] at hn)
        | (refine ifK_intro (fun h => ?_) (fun h => ?_) <;> (try simp only [rulesE] at h) <;> try (exfalso; (try simp only [rulesF] at h); omega))
        | (refine keeps_sub (Mem.sub_set ?_) ?_; focus (simp [Mem.set_at, nomem, *]; done))
      rw [roundV_normal]
      obtain ⟨x1, x2, x3, x4, x5, x6, x7, x8, x9, x10, x11, x12, x13⟩ := hq
      refine ⟨by simp [Mem.set_at, *], _, ?_, by omega, .inr ⟨q, x13, x11, x9, x7, x5, x3, rfl⟩⟩
      have e1 : (txts L).take 1 = [(txts L).getD 0 default] := tx_next _ 0 (by simpa [txts] using hkl)
      rw [e1]
      ((repeat' first | exact Mem.sub.refl _ | exact nomem_sub _ | refine Mem.set_sub ?_ ?_ | refine Mem.sub_set_new ?_ ?_ | refine Mem.sub_del ?_ ?_) <;> simp [Mem.set_at, Mem.del_at, nomem, *])
    · unfold la9_0 lb9_0
      unfold openM at hnl ⊢
      simp only [fresh_set] at hnl
      have b2 := Ne.symm a2
      have b3 := Ne.symm a3
      have b4 := Ne.symm a4
      have b5 := Ne.symm a5
      have b6 := Ne.symm a6
      repeat' first
        | simp -dsimp (disch := omega) only [↓rulesA, rulesB, rulesC, Int.reduceLT, nth, upd, put, storeN, AV.one, Nat.reduceBEq, Nat.reduceBNe, Int.reduceBEq, Int.reduceBNe, Int.reduceLE, Int.reduceEq, Int.reduceMod, Int.reduceNeg, boolBin, strBin, intBin, unA, fillA, ne_eq, reduceCtorEq, Nat.reduceAdd, Nat.reduceSub, Nat.reduceLeDiff, Nat.reduceLT, Nat.reduceEqDiff, Int.reduceToNat, eq_self, rulesT, rulesD, startA_two, *]
        | (refine allK_intro fun n hn => ?_; try simp only [fresh_set] at hn)
        | (refine ifK_intro (fun h => ?_) (fun h => ?_) <;> (try simp only [rulesE] at h) <;> try (exfalso; (try simp only [rulesF] at h); omega))
        | (refine keeps_sub (Mem.sub_set ?_) ?_; focus (simp [Mem.set_at, nomem, *]; done))
      refine lit_vs (lit1_22 _) rfl ?_
      repeat' first
        | simp -dsimp (disch := omega) only [↓rulesA, rulesB, rulesC, Int.reduceLT, nth, upd, put, storeN, AV.one, Nat.reduceBEq, Nat.reduceBNe, Int.reduceBEq, Int.reduceBNe, Int.reduceLE, Int.reduceEq, Int.reduceMod, Int.reduceNeg, boolBin, strBin, intBin, unA, fillA, ne_eq, reduceCtorEq, Nat.reduceAdd, Nat.reduceSub, Nat.reduceLeDiff, Nat.reduceLT, Nat.reduceEqDiff, Int.reduceToNat, eq_self, rulesT, rulesD, *]
        | (refine allK_intro fun n hn => ?_; try simp only [fresh_set] at hn)
        | (refine ifK_intro (fun h => ?_) (fun h => ?_) <;> (try simp only [rulesE] at h) <;> try (exfalso; (try simp only [rulesF] at h); omega))
        | (refine keeps_sub (Mem.sub_set ?_) ?_; focus (simp [Mem.set_at, nomem, *]; done))
      have etl : ((txts L).take k).length = k := by simp [txts]; omega
      refine append_open app_22 (src_22 _ [(txts L).getD k default] _) (cs := (((txts L).take k).map txC).flatten) (bt := 9) (by simp [Mem.set_at, *]) cs_9 (by rw [tx_len, etl]; simp) (by simp; omega) fun q' hq => ?_
      simp only [fresh_set] at hq
      repeat' first
        | simp -dsimp (disch := omega) only [↓rulesA, rulesB, rulesC, Int.reduceLT, nth, upd, put, storeN, AV.one, Nat.reduceBEq, Nat.reduceBNe, Int.reduceBEq, Int.reduceBNe, Int.reduceLE, Int.reduceEq, Int.reduceMod, Int.reduceNeg, boolBin, strBin, intBin, unA, fillA, ne_eq, reduceCtorEq, Nat.reduceAdd, Nat.reduceSub, Nat.reduceLeDiff, Nat.reduceLT, Nat.reduceEqDiff, Int.reduceToNat, eq_self, rulesT, rulesD, Jour.s3, Jour.olen, *]
        | (refine allK_intro fun n hn => ?_; try simp only [fresh_set] at hn)
        | (refine ifK_intro (fun h => ?_) (fun h => ?_) <;> (try simp only [rulesE] at h) <;> try (exfalso; (try simp only [rulesF] at h); omega))
        | (refine keeps_sub (Mem.sub_set ?_) ?_; focus (simp [Mem.set_at, nomem, *]; done))
      rw [roundV_normal]
      obtain ⟨x1, x2, x3, x4, x5, x6, x7, x8, x9, x10, x11, x12, x13, x14, x15⟩ := hq
      refine ⟨by simp [Mem.set_at, *], _, ?_, by omega, .inr ⟨by omega, q', x15, x13, x11, x9, x7, x5, rfl⟩⟩
      have e1 := tx_next (txts L) k (by simpa [txts] using hkl)
      rw [e1, List.map_append, List.flatten_append]
      ((repeat' first | exact Mem.sub.refl _ | exact nomem_sub _ | refine Mem.set_sub ?_ ?_ | refine Mem.sub_set_new ?_ ?_ | refine Mem.sub_del ?_ ?_) <;> simp [Mem.set_at, Mem.del_at, nomem, *])
  · rintro m1 ⟨hkL, hc⟩
    have erl : (rowsJ L).length = L.length := List.length_map ..
    have htl : (txts L).length = L.length := List.length_map ..
    rw [erl] at hc
    clear hI hkL erl
    obtain ⟨D, hD⟩ : ∃ D, D = d.laid.length := ⟨_, rfl⟩
    have hnum := fun (a : Jour) (k : Nat) => F34 a d false false hd1 hm hl k
    obtain ⟨mq, out, s0, s1, s2, s3, s4, s5, rfl, hres⟩ : ∃ mq out, m.sub mq ∧ mq nN = none ∧ mq nj = none ∧ mq n = none ∧ mq n3 = none ∧ mq n4 = none ∧ m1 = openM mq ⟨fr, fr + cnt, atTo L fr L.length, first, false⟩ Nd nN nj n n3 n4 first out ∧ ((L = [] ∧ mq = m ∧ out = .val (.slice none 0 0)) ∨ ∃ q, m q = none ∧ nN ≠ q ∧ mq = m.set q (.cells true 9 ((txts L).map txC).flatten) ∧ out = .sl q 0 (txts L).length (txts L).length) := by
      rcases hc with ⟨hL, rfl⟩ | ⟨h0, q, a1, a2, a3, a4, a5, a6, rfl⟩
      · have hL' := List.eq_nil_of_length_eq_zero hL
        refine ⟨m, _, .refl _, hN, hj.2.2, hn.2.2.2.2, f3.2.2.2.2.2.2, f4.2.2.2.2.2.2, ?_, .inl ⟨hL', rfl, rfl⟩⟩
        rw [hL]; rfl
      · refine ⟨m.set q (.cells true 9 ((txts L).map txC).flatten), _, Mem.sub_set a1, ?_, ?_, ?_, ?_, ?_, ?_, .inr ⟨q, a1, Ne.symm a2, rfl, rfl⟩⟩
        iterate 5 simp [Mem.set_at, *, Ne.symm a2, Ne.symm a3, Ne.symm a4, Ne.symm a5, Ne.symm a6]
        rw [← htl, List.take_length]
        unfold openM
        rw [set_comm _ (Ne.symm a6), set_comm _ (Ne.symm a5), set_comm _ (Ne.symm a4), set_comm _ (Ne.symm a3), set_comm _ (Ne.symm a2)]
    clear hc
    replace hres : Kept _ := hres
    unfold openM
    repeat' first
      | simp -dsimp (disch := omega) only [↓rulesA, rulesB, rulesC, Int.reduceLT, nth, upd, put, storeN, AV.one, Nat.reduceBEq, Nat.reduceBNe, Int.reduceBEq, Int.reduceBNe, Int.reduceLE, Int.reduceEq, Int.reduceMod, Int.reduceNeg, boolBin, strBin, intBin, unA, fillA, ne_eq, reduceCtorEq, Nat.reduceAdd, Nat.reduceSub, Nat.reduceLeDiff, Nat.reduceLT, Nat.reduceEqDiff, Int.reduceToNat, eq_self, rulesT, rulesD, *]
      | (refine allK_intro fun n hn => ?_; try simp only [fresh_set] at hn)
      | (refine ifK_intro (fun h => ?_) (fun h => ?_) <;> (try simp only [rulesE] at h) <;> try (exfalso; (try simp only [rulesF] at h); omega))
      | (refine keeps_sub (Mem.sub_set ?_) ?_; focus (simp [Mem.set_at, nomem, *]; done))
    refine loop_intro (fun jj env m' => ∃ i, i ≤ cnt ∧ jj = cnt - i ∧ m' = ((mq.set nN (.cells false 36 ((⟨fr, fr + cnt, atTo L fr L.length, nextTo d fr first i, false⟩ : Jour).own Nd))).set nj (.cells false 26 [.ptr nN 0])).set n (.cells false 22 [out]) ∧ env.length = 91 ∧ nth env 11 = .ptr nj 0 ∧ nth env 12 = .ptr n 0 ∧ nth env 15 = .val (.int .i64 (fr + i : Nat))) cnt _ ?_ ⟨0, by omega, rfl, rfl, rfl, rfl, rfl, rfl⟩ ?_
    · rw [show nextTo d fr first 0 = first from rfl]; ((repeat' first | exact Mem.sub.refl _ | exact nomem_sub _ | refine Mem.set_sub ?_ ?_ | refine Mem.sub_set_new ?_ ?_ | refine Mem.sub_del ?_ ?_) <;> simp [Mem.set_at, Mem.del_at, nomem, *])
    rintro jj env m' ⟨i, hi, rfl, rfl, hlen, e11, e12, e15⟩
    have hsub : m.sub (((mq.set nN (.cells false 36 ((⟨fr, fr + cnt, atTo L fr L.length, nextTo d fr first i, false⟩ : Jour).own Nd))).set nj (.cells false 26 [.ptr nN 0])).set n (.cells false 22 [out])) := s0.trans (by ((repeat' first | exact Mem.sub.refl _ | exact nomem_sub _ | refine Mem.set_sub ?_ ?_ | refine Mem.sub_set_new ?_ ?_ | refine Mem.sub_del ?_ ?_) <;> simp [Mem.set_at, Mem.del_at, nomem, *]))
    have hjs := jseen hat hsub (j := ⟨fr, fr + cnt, atTo L fr L.length, nextTo d fr first i, false⟩) (N := nN) (by simp [Mem.set_at, *])
    replace hsub : Kept _ := hsub
    have hna := numAt_le d (fr + i)
    have en : (if (nextTo d fr first i : Int) < numAt d (fr + i) + 1 then (numAt d (fr + i) + 1 : Int) else nextTo d fr first i) = (nextTo d fr first (i + 1) : Nat) := by
      rw [nextTo]; split <;> omega
    repeat' first
      | simp -dsimp (disch := omega) only [↓rulesA, rulesB, rulesC, Int.reduceLT, nth, upd, put, storeN, AV.one, Nat.reduceBEq, Nat.reduceBNe, Int.reduceBEq, Int.reduceBNe, Int.reduceLE, Int.reduceEq, Int.reduceMod, Int.reduceNeg, boolBin, strBin, intBin, unA, fillA, ne_eq, reduceCtorEq, Nat.reduceAdd, Nat.reduceSub, Nat.reduceLeDiff, Nat.reduceLT, Nat.reduceEqDiff, Int.reduceToNat, eq_self, rulesT, rulesD, Jour.o2, Jour.o4, Jour.olen, Jour.s4, resL_three, three_some, *]
      | (refine allK_intro fun n hn => ?_; try simp only [fresh_set] at hn)
      | (refine ifK_intro (fun h => ?_) (fun h => ?_) <;> (try simp only [rulesE] at h) <;> try (exfalso; (try simp only [rulesF] at h); omega))
      | (refine keeps_sub (Mem.sub_set ?_) ?_; focus (simp [Mem.set_at, nomem, *]; done))
      | (refine call_F (hnum _ (fr + i)) (.two hjs .same) ?_)
      | (refine pure_F (hnum _ (fr + i)) (.two hjs .same) ?_)
    · refine again_intro (cnt - (i + 1)) (by omega) _ (Mem.sub.refl _) ⟨i + 1, by omega, rfl, ?_, ?_, ?_, ?_, ?_⟩
      · rw [set_comm _ (Ne.symm hn.2.2.2.1), set_comm _ (Ne.symm hj.2.1), Mem.set_set]
      rotate_left 3
      · have ec : ((fr + i : Nat) : Int) + 1 = (fr + (i + 1) : Nat) := by omega
        simp (disch := omega) only [nth_upd, pickB_true, pickB_false, inB_lt, upd_len, Nat.reduceBEq, beq_self_eq_true, ec, hlen]
      clear en hna hjs hsub
      all_goals try (simp (disch := omega) only [nth_upd, pickB_true, pickB_false, inB_lt, upd_len, cast_succ, Int.cast_ofNat_Int, Nat.reduceBEq, beq_self_eq_true, reduceCtorEq, *]; done)
    · have hi' : i = cnt := by omega
      subst hi'
      have eL' : L = _ := eL
      have eo : openT d fr i first = txts L := by unfold openT; rw [← eL']
      have ej : openJ d fr i first = ⟨fr, fr + i, atTo L fr L.length, nextTo d fr first i, false⟩ := by unfold openJ; rw [← eL']
      rw [eo, ej]
      rcases hres with ⟨hL, rfl, rfl⟩ | ⟨q, q1, q2, rfl, rfl⟩
      · rw [hL]
        refine Turns.less (m' := mq.set nN (.cells false 36 ((⟨fr, fr + i, atTo [] fr 0, nextTo d fr first i, false⟩ : Jour).own Nd))) (by ((repeat' first | exact Mem.sub.refl _ | exact nomem_sub _ | refine Mem.set_sub ?_ ?_ | refine Mem.sub_set_new ?_ ?_ | refine Mem.sub_del ?_ ?_) <;> simp [Mem.set_at, Mem.del_at, nomem, *])) (Turns.nil1 9 fun q hq => ?_)
        simp only [fresh_set] at hq
        refine ⟨nN, q, hN, hq.2.2, hq.2.1, rfl, rfl⟩
      · refine .sub ?_ ⟨nN, q, hN, q1, q2, rfl, rfl⟩
        rw [← set_comm _ (Ne.symm q2)]
        have q2' := Ne.symm q2
        simp only [fresh_set] at s2 s3
        ((repeat' first | exact Mem.sub.refl _ | exact nomem_sub _ | refine Mem.set_sub ?_ ?_ | refine Mem.sub_set_new ?_ ?_ | refine Mem.sub_del ?_ ?_) <;> simp [Mem.set_at, Mem.del_at, nomem, *])
end Go.Proofs.Ytlkeailgccbmbaa

set_option maxRecDepth 100000
set_option maxHeartbeats 1000000
set_option linter.unusedSimpArgs false
set_option linter.unusedVariables false
namespace Go.Proofs.Ytlkeailgccbmbaa
open Go.Abs
attribute [local irreducible] C X CC Y CV CW binK litK AppK PureC PureCV againK loopV rangeV allK ifK got onB condK V stepsK planK opK firstK seeE keepsK
def h9B (n : Nat) : List UInt8 := [1] ++ numB n 8
def h13B (n : Nat) (rec : List UInt8) : List UInt8 := h9B n ++ numB rec.length 4
def headB (n : Nat) (rec : List UInt8) : List UInt8 := h13B n rec ++ numB (sumN n rec) 4
theorem h9B_len (n : Nat) : (h9B n).length = 9 := by simp [h9B, numB_len]
theorem h13B_len (n : Nat) (rec : List UInt8) : (h13B n rec).length = 13 := by simp [h13B, h9B_len, numB_len]
theorem headB_len (n : Nat) (rec : List UInt8) : (headB n rec).length = 17 := by simp [headB, h13B_len, numB_len]
def moreB (n : Nat) : List UInt8 := [2] ++ numB n 8
theorem moreB_len (n : Nat) : (moreB n).length = 9 := by simp [moreB, numB_len]
def preB (n : Nat) (rec : List UInt8) (i : Nat) : List UInt8 := if i = 0 then headB n rec else moreB n
def offB (i : Nat) : Nat := if i = 0 then 0 else 47 + (i - 1) * 55
def pad64 (l : List UInt8) : List UInt8 := l ++ List.replicate (64 - l.length) 0
def secB (n : Nat) (rec : List UInt8) (i : Nat) : List UInt8 := pad64 (preB n rec i ++ (rec.drop (offB i)).take (64 - (preB n rec i).length))
theorem preB_len (n : Nat) (rec : List UInt8) (i : Nat) : (preB n rec i).length = if i = 0 then 17 else 9 := by unfold preB; split; exact headB_len n rec; exact moreB_len n
theorem secB_len (n : Nat) (rec : List UInt8) (i : Nat) : (secB n rec i).length = 64 := by
  have := preB_len n rec i
  unfold secB pad64
  simp only [List.length_append, List.length_take, List.length_replicate, List.length_drop]
  split at this <;> omega
def wrTo (d : Dev) (a n : Nat) (rec : List UInt8) : Nat → Dev
  | 0 => d
  | k + 1 => writeD (wrTo d a n rec k) ((a + k : Nat) : Int) (secB n rec k)
theorem need_more {n i : Nat} (h : i < needN n) : ¬ (n ≤ offB (i + 1)) ↔ i + 1 < needN n := by
  unfold needN offB at *
  rw [if_neg (by omega)]
  have e : i + 1 - 1 = i := by omega
  rw [e]
  split at h <;> rename_i h1
  · rw [if_pos h1]; omega
  · rw [if_neg h1]; omega
theorem wrTo_laid (d : Dev) (a n : Nat) (rec : List UInt8) : ∀ k, (wrTo d a n rec k).laid.length = d.laid.length
  | 0 => rfl
  | k + 1 => by unfold wrTo; rw [write_laid, wrTo_laid d a n rec k]
theorem wrTo_w (d : Dev) (a n : Nat) (rec : List UInt8) : ∀ k, (wrTo d a n rec k).w ≤ d.w + k
  | 0 => Nat.le_refl _
  | k + 1 => by
    have := write_w (wrTo d a n rec k) ((a + k : Nat) : Int) (secB n rec k)
    have := wrTo_w d a n rec k
    unfold wrTo; omega
theorem wrTo_f (d : Dev) (a n : Nat) (rec : List UInt8) : ∀ k, (wrTo d a n rec k).f = d.f
  | 0 => rfl
  | k + 1 => by unfold wrTo; rw [write_f, wrTo_f d a n rec k]
theorem wrTo_ok {d : Dev} (h : d.Ok) (a n : Nat) (rec : List UInt8) : ∀ k, (wrTo d a n rec k).Ok
  | 0 => h
  | k + 1 => by unfold wrTo; exact Ok.write (wrTo_ok h a n rec k) _ _
theorem call_put {l : List UInt8} (hl : l.length ≤ 1000000) {x : Nat} (hx : x < 18446744073709551616) {k : Nat} (h0 : 0 < k) (hk : k ≤ 8) {X : Mem} {n : Nat} (hX : X n = none) {K' : AV → Mem → Prop} {y : Hid K'} {l' : List UInt8} (el : l ++ numB x k = l')
    (h : ∀ n', X n' = none → K' (.sl n' 0 l'.length l'.length) (X.set n' (.cells true 5 (l'.map byteC).flatten))) :
    CC Try.prog 36 [.sl n 0 l.length l.length, .val (.int .u64 x), .val (.int .i64 k)] (X.set n (.cells true 5 (l.map byteC).flatten)) (hid K' y) :=
  call_on (C36 (.inr (.inr ⟨n, rfl, rfl⟩)) hl x hx k hk) (nomem_set_sub (Mem.set_same _ _ _)) fun r m' ⟨_, hO⟩ hd => by
    rw [el] at hO; obtain ⟨n', rfl, rfl⟩ := hO h0
    rw [Mem.plus_own hX]
    refine h n' ?_
    by_cases e : n' = n
    · rw [e]; exact hX
    · have := hd n' (by rw [Mem.set_ne _ _ e]; rfl) (by rw [Mem.set_same]; simp)
      rwa [Mem.set_ne _ _ e] at this
theorem call_put1 {l : List UInt8} (hl : l.length ≤ 1000000) {x : Nat} (hx : x < 18446744073709551616) {k : Nat} (h0 : 0 < k) (hk : k ≤ 8) {X : Mem} {K' : AV → Mem → Prop} {y : Hid K'} {l' : List UInt8} (el : l ++ numB x k = l')
    (h : ∀ n', X n' = none → K' (.sl n' 0 l'.length l'.length) (X.set n' (.cells true 5 (l'.map byteC).flatten))) :
    CC Try.prog 36 [.vs (l.map byteC) true, .val (.int .u64 x), .val (.int .i64 k)] X (hid K' y) :=
  call_on (C36 (.inr (.inl ⟨rfl, rfl⟩)) hl x hx k hk) (nomem_sub _) fun r m' ⟨_, hO⟩ hd => by
    rw [el] at hO; obtain ⟨n', rfl, rfl⟩ := hO h0
    rw [Mem.plus_new rfl]
    exact h n' (hd n' rfl (by rw [Mem.set_same]; simp))
end Go.Proofs.Ytlkeailgccbmbaa

set_option maxRecDepth 100000
set_option maxHeartbeats 1000000
set_option linter.unusedSimpArgs false
set_option linter.unusedVariables false
namespace Go.Proofs.Ytlkeailgccbmbaa
open Go.Abs
attribute [local irreducible] C X CC Y CV CW binK litK AppK PureC PureCV againK loopV rangeV allK ifK got onB condK V stepsK planK opK firstK seeE keepsK
def fullJ (j : Jour) (rec : List UInt8) : Prop := 4611686018427387904 < j.next ∨ j.end_ < j.at_ + needN rec.length
instance (j : Jour) (rec : List UInt8) : Decidable (fullJ j rec) := by unfold fullJ; exact inferInstance
def putD (j : Jour) (d : Dev) (rec : List UInt8) : Dev := wrTo d j.at_ j.next rec (needN rec.length)
def appE (j : Jour) (d : Dev) (rec : List UInt8) : Int := if j.dead = true ∨ d.dead = true then 22 else if fullJ j rec then 21 else if (putD j d rec).dead then 22 else 0
def appJ (j : Jour) (d : Dev) (rec : List UInt8) : Jour := if j.dead = true ∨ d.dead = true then j else if fullJ j rec then j else if (putD j d rec).dead then { j with dead := true } else { j with at_ := j.at_ + needN rec.length, next := j.next + 1 }
def appD (j : Jour) (d : Dev) (rec : List UInt8) : Dev := if j.dead = true ∨ d.dead = true then d else if fullJ j rec then d else flushD (putD j d rec)
theorem wrTo_dead {d : Dev} {a n : Nat} {rec : List UInt8} {k : Nat} (h : (wrTo d a n rec k).dead = true) : ∀ i, wrTo d a n rec (k + i) = wrTo d a n rec k
  | 0 => rfl
  | i + 1 => by
    rw [← Nat.add_assoc, wrTo, wrTo_dead h i]
    unfold writeD
    rw [if_pos h]
theorem write_if {d : Dev} {k : Nat} {l : List UInt8} (hd : d.dead = false) (hk : k < d.laid.length) (hl : l.length = 64) : writeE d k l = if (writeD d k l).dead then 22 else 0 := by
  have h1 : ¬((k : Int) < 0 ∨ (d.laid.length : Int) ≤ k) := by omega
  simp only [writeE, writeD, hd, if_neg h1, hl, ne_eq, not_true, if_false, Bool.false_eq_true]
  split
  · have : (loseD d d.pick).dead = true := by unfold loseD; rw [hd]; rfl
    rw [this]; rfl
  · unfold countD layD lessD
    split <;> simp [hd]
theorem cleans_vals' : ∀ {l : List AV}, (∀ c ∈ l, ∃ v, c = .val v) → AV.clean.cleans l = true
  | [], _ => rfl
  | c :: l, h => by
    obtain ⟨v, rfl⟩ := h c (by simp)
    show (AV.clean (.val v) && AV.clean.cleans l) = true
    rw [cleans_vals' fun c hc => h c (by simp [hc])]; rfl
theorem at_clean {d : Dev} {N : Nat} {m : Mem} (h : d.At N m) : ∀ n b, m n = some b → cleanB b := by
  obtain ⟨nl, nL, h1, h2, h3, rfl⟩ := h
  intro n b hb
  unfold Dev.mem Mem.set at hb
  split at hb
  · cases hb; exact rfl
  · split at hb
    · cases hb; exact cleans_vals' (vals_row Wr.cells Wr.vals d.list)
    · split at hb
      · cases hb; exact cleans_vals' (vals_row Sec.cells Sec.vals d.laid)
      · cases hb
theorem need_len {n e : Nat} (h : needN n ≤ e) (he : e ≤ 4096) : n ≤ 300000 := by
  unfold needN at h; split at h <;> omega
theorem app_44_9 : AppT Try.prog 44 9 5 ⟨(Go.TypeDesc.int Go.IntKind.u8), 1, 1, (some (Go.Value.int Go.IntKind.u8 0))⟩ [.val (Go.Value.int Go.IntKind.u8 0)] := ⟨⟨_, ti_44, rfl⟩, ⟨_, ti_9, .inr (.inl rfl)⟩, ti_5, z_5, rfl, by decide, by decide⟩
theorem app_44_3 : AppT Try.prog 44 3 5 ⟨(Go.TypeDesc.int Go.IntKind.u8), 1, 1, (some (Go.Value.int Go.IntKind.u8 0))⟩ [.val (Go.Value.int Go.IntKind.u8 0)] := ⟨⟨_, ti_44, rfl⟩, ⟨_, ti_3, .inr (.inr ⟨_, rfl⟩)⟩, ti_5, z_5, rfl, by decide, by decide⟩
theorem zeros_flat (n : Nat) : (List.replicate n [AV.val (.int .u8 0)]).flatten = ((List.replicate n (0 : UInt8)).map byteC).flatten := by rw [List.map_replicate]; rfl
theorem app_own {l s l' : List UInt8} {X : Mem} {n : Nat} {t : TypeId} {y : AV} (hX : X n = none) (ht : AppT Try.prog 44 t 5 ⟨(Go.TypeDesc.int Go.IntKind.u8), 1, 1, (some (Go.Value.int Go.IntKind.u8 0))⟩ [.val (Go.Value.int Go.IntKind.u8 0)]) (hlen : l.length + s.length ≤ 140737488355328)
    (hy : srcB Try.prog (X.set n (.cells true 5 (l.map byteC).flatten)) t ⟨(Go.TypeDesc.int Go.IntKind.u8), 1, 1, (some (Go.Value.int Go.IntKind.u8 0))⟩ [.val (Go.Value.int Go.IntKind.u8 0)] y = some (s.length, (s.map byteC).flatten)) {K' : AV → Mem → Prop} {x : Hid K'} (el : l ++ s = l')
    (h : ∀ n', X n' = none → K' (.sl n' 0 l'.length l'.length) (X.set n' (.cells true 5 (l'.map byteC).flatten))) : AppK Try.prog 44 t (.sl n 0 l.length l.length) y (X.set n (.cells true 5 (l.map byteC).flatten)) (hid K' x) := by
  refine appendB_open ht hy (Mem.set_same _ _ _) cs_5 (by show 0 + l.length * 1 = _; rw [row_len1]; omega) (by show (l.length + s.length) * 1 ≤ _; omega) fun N' hN => ?_
  rw [List.drop_zero, row_app, Mem.del_set_eq, Mem.del_none hX, el, ← List.length_append, el]
  simp only [fresh_set] at hN
  exact h N' hN.2.2
theorem zero_src (m : Mem) (n : Nat) (h : n ≤ 64) : srcB Try.prog m 3 ⟨(Go.TypeDesc.int Go.IntKind.u8), 1, 1, (some (Go.Value.int Go.IntKind.u8 0))⟩ [.val (Go.Value.int Go.IntKind.u8 0)] (.val (.int .i64 n)) = some ((List.replicate n (0 : UInt8)).length, ((List.replicate n (0 : UInt8)).map byteC).flatten) := by
  rw [List.length_replicate, ← zeros_flat]
  exact make_src ti_3 rfl m rfl .i64 n (by show n * 1 ≤ _; omega) (by omega)
theorem C10 {j : Jour} {d : Dev} {N Nd : Nat} {m : Mem} (hat : JAt j d N Nd m) (hok : d.Ok) (he : j.end_ ≤ d.laid.length) (ha : j.at_ ≤ 4096) (hn : j.next ≤ 4611686018427387905) (hw : d.w < 2305843009213693952) (hf : d.f < 4611686018427387904) (rec : List UInt8) (hrec : rec.length ≤ 140737488355328) : C Try.prog 10 [.ptr N 0, .val (.string ⟨rec.toArray⟩)] m (fun r m' => r = .val (.int .i64 (appE j d rec)) ∧ JAt (appJ j d rec) (appD j d rec) N Nd m') := by
  obtain ⟨md, hmd, hN, rfl⟩ := hat
  have hd1 := hok.some
  have hdm := hok.most
  have hsn := jseen (j := j) hmd (Mem.sub_set hN (b := .cells false 36 (j.own Nd))) (Mem.set_same _ _ _)
  have hs := hmd.seen (Mem.sub_set hN (b := .cells false 36 (j.own Nd))) 0
  have f35 := F35 j d false false
  have f32 := F32 d false false hd1
  rcases hj : j.dead with _ | _
  rotate_left
  · have e1 : appE j d rec = 22 := if_pos (.inl hj)
    have e2 : appJ j d rec = j := if_pos (.inl hj)
    have e3 : appD j d rec = d := if_pos (.inl hj)
    rw [e1, e2, e3]
    clear e1 e2 e3
    refine C10_of ?_
    unfold k10
    repeat' first
      | simp -dsimp (disch := omega) only [↓rulesA, rulesB, rulesC, Int.reduceLT, nth, upd, put, storeN, AV.one, Nat.reduceBEq, Nat.reduceBNe, Int.reduceBEq, Int.reduceBNe, Int.reduceLE, Int.reduceEq, Int.reduceMod, Int.reduceNeg, boolBin, strBin, intBin, unA, fillA, ne_eq, reduceCtorEq, Nat.reduceAdd, Nat.reduceSub, Nat.reduceLeDiff, Nat.reduceLT, Nat.reduceEqDiff, Int.reduceToNat, eq_self, rulesT, rulesD, Jour.o0, Jour.o5, *]
      | (refine allK_intro fun n hn => ?_; try simp only [fresh_set] at hn)
      | (refine ifK_intro (fun h => ?_) (fun h => ?_) <;> (try simp only [rulesE] at h) <;> try (exfalso; (try simp only [rulesF] at h); omega))
      | (refine keeps_sub (Mem.sub_set ?_) ?_; focus (simp [Mem.set_at, nomem, *]; done))
      | (refine call_F (f35) (.one hsn) ?_)
      | (refine pure_F (f35) (.one hsn) ?_)
      | (refine call_F (f32) (.one hs) ?_)
      | (refine pure_F (f32) (.one hs) ?_)
    exact ⟨md, hmd, hN, rfl⟩
  rcases hdd : d.dead with _ | _
  rotate_left
  · have e1 : appE j d rec = 22 := if_pos (.inr hdd)
    have e2 : appJ j d rec = j := if_pos (.inr hdd)
    have e3 : appD j d rec = d := if_pos (.inr hdd)
    rw [e1, e2, e3]
    clear e1 e2 e3
    rw [hdd] at f32
    refine C10_of ?_
    unfold k10
    repeat' first
      | simp -dsimp (disch := omega) only [↓rulesA, rulesB, rulesC, Int.reduceLT, nth, upd, put, storeN, AV.one, Nat.reduceBEq, Nat.reduceBNe, Int.reduceBEq, Int.reduceBNe, Int.reduceLE, Int.reduceEq, Int.reduceMod, Int.reduceNeg, boolBin, strBin, intBin, unA, fillA, ne_eq, reduceCtorEq, Nat.reduceAdd, Nat.reduceSub, Nat.reduceLeDiff, Nat.reduceLT, Nat.reduceEqDiff, Int.reduceToNat, eq_self, rulesT, rulesD, Jour.o0, Jour.o5, *]
      | (refine allK_intro fun n hn => ?_; try simp only [fresh_set] at hn)
      | (refine ifK_intro (fun h => ?_) (fun h => ?_) <;> (try simp only [rulesE] at h) <;> try (exfalso; (try simp only [rulesF] at h); omega))
      | (refine keeps_sub (Mem.sub_set ?_) ?_; focus (simp [Mem.set_at, nomem, *]; done))
      | (refine call_F (f35) (.one hsn) ?_)
      | (refine pure_F (f35) (.one hsn) ?_)
      | (refine call_F (f32) (.one hs) ?_)
      | (refine pure_F (f32) (.one hs) ?_)
    exact ⟨md, hmd, hN, rfl⟩
  have hno : ¬ (j.dead = true ∨ d.dead = true) := by rw [hj, hdd]; decide
  rw [show appE j d rec = if fullJ j rec then 21 else if (putD j d rec).dead then 22 else 0 from if_neg hno, show appJ j d rec = if fullJ j rec then j else if (putD j d rec).dead then { j with dead := true } else { j with at_ := j.at_ + needN rec.length, next := j.next + 1 } from if_neg hno,
    show appD j d rec = if fullJ j rec then d else flushD (putD j d rec) from if_neg hno]
  rw [hdd] at f32
  clear hno
  have f29 := F29 rec.length (by omega)
  by_cases hfull : fullJ j rec
  · rw [if_pos hfull, if_pos hfull, if_pos hfull]
    have hK : Kept _ := hfull
    clear hfull
    refine C10_of ?_
    unfold k10
    repeat' first
      | simp -dsimp (disch := omega) only [↓rulesA, rulesB, rulesC, Int.reduceLT, nth, upd, put, storeN, AV.one, Nat.reduceBEq, Nat.reduceBNe, Int.reduceBEq, Int.reduceBNe, Int.reduceLE, Int.reduceEq, Int.reduceMod, Int.reduceNeg, boolBin, strBin, intBin, unA, fillA, ne_eq, reduceCtorEq, Nat.reduceAdd, Nat.reduceSub, Nat.reduceLeDiff, Nat.reduceLT, Nat.reduceEqDiff, Int.reduceToNat, eq_self, rulesT, rulesD, Jour.o0, Jour.o2, Jour.o3, Jour.o4, Jour.o5, text_size, *]
      | (refine allK_intro fun n hn => ?_; try simp only [fresh_set] at hn)
      | (refine ifK_intro (fun h => ?_) (fun h => ?_) <;> (try simp only [rulesE] at h) <;> try (exfalso; (try simp only [rulesF] at h); omega))
      | (refine keeps_sub (Mem.sub_set ?_) ?_; focus (simp [Mem.set_at, nomem, *]; done))
      | (refine call_F (f35) (.one hsn) ?_)
      | (refine pure_F (f35) (.one hsn) ?_)
      | (refine call_F (f32) (.one hs) ?_)
      | (refine pure_F (f32) (.one hs) ?_)
      | (refine call_F (f29) (Seens.refl _ _) ?_)
      | (refine pure_F (f29) (Seens.refl _ _) ?_)
    · exact ⟨md, hmd, hN, rfl⟩
    · exfalso
      have : fullJ j rec := hK
      unfold fullJ at this
      omega
    · exact ⟨md, hmd, hN, rfl⟩
  rw [if_neg hfull, if_neg hfull, if_neg hfull]
  unfold fullJ at hfull
  have c1 := conv64 j.next (by omega)
  have c2 := conv64 rec.length (by omega)
  have c3 := conv64 (sumN j.next rec) (by have := sumN_lt j.next rec; omega)
  have hshort := need_len (n := rec.length) (e := j.end_ - j.at_) (by omega) (by omega)
  have f37 := F37 j.next (by omega) rec false (by omega)
  refine C.turn (C10_of ?_)
  unfold k10
  repeat' first
    | simp -dsimp (disch := omega) only [↓rulesA, rulesB, rulesC, Int.reduceLT, nth, upd, put, storeN, AV.one, Nat.reduceBEq, Nat.reduceBNe, Int.reduceBEq, Int.reduceBNe, Int.reduceLE, Int.reduceEq, Int.reduceMod, Int.reduceNeg, boolBin, strBin, intBin, unA, fillA, ne_eq, reduceCtorEq, Nat.reduceAdd, Nat.reduceSub, Nat.reduceLeDiff, Nat.reduceLT, Nat.reduceEqDiff, Int.reduceToNat, eq_self, rulesT, rulesD, Jour.o0, Jour.o2, Jour.o3, Jour.o4, Jour.o5, text_size, *]
    | (refine allK_intro fun n hn => ?_; try simp only [fresh_set] at hn)
    | (refine ifK_intro (fun h => ?_) (fun h => ?_) <;> (try simp only [rulesE] at h) <;> try (exfalso; (try simp only [rulesF] at h); omega))
    | (refine keeps_sub (Mem.sub_set ?_) ?_; focus (simp [Mem.set_at, nomem, *]; done))
    | (refine call_F (f35) (.one hsn) ?_)
    | (refine pure_F (f35) (.one hsn) ?_)
    | (refine call_F (f32) (.one hs) ?_)
    | (refine pure_F (f32) (.one hs) ?_)
    | (refine call_F (f29) (Seens.refl _ _) ?_)
    | (refine pure_F (f29) (Seens.refl _ _) ?_)
  refine lit_vs (lit1_44 _) rfl ?_
  rw [chunk_one]
  repeat' first
    | simp -dsimp (disch := omega) only [↓rulesA, rulesB, rulesC, Int.reduceLT, nth, upd, put, storeN, AV.one, Nat.reduceBEq, Nat.reduceBNe, Int.reduceBEq, Int.reduceBNe, Int.reduceLE, Int.reduceEq, Int.reduceMod, Int.reduceNeg, boolBin, strBin, intBin, unA, fillA, ne_eq, reduceCtorEq, Nat.reduceAdd, Nat.reduceSub, Nat.reduceLeDiff, Nat.reduceLT, Nat.reduceEqDiff, Int.reduceToNat, eq_self, rulesT, rulesD, Jour.o4, *]
    | (refine allK_intro fun n hn => ?_; try simp only [fresh_set] at hn)
    | (refine ifK_intro (fun h => ?_) (fun h => ?_) <;> (try simp only [rulesE] at h) <;> try (exfalso; (try simp only [rulesF] at h); omega))
    | (refine keeps_sub (Mem.sub_set ?_) ?_; focus (simp [Mem.set_at, nomem, *]; done))
  refine call_put1 (l := [1]) (l' := h9B j.next) (by decide) (by omega) (by decide) (by decide) rfl fun n1 hn1 => ?_
  have g1 := hn1
  simp only [fresh_set] at g1
  repeat' first
    | simp -dsimp (disch := omega) only [↓rulesA, rulesB, rulesC, Int.reduceLT, nth, upd, put, storeN, AV.one, Nat.reduceBEq, Nat.reduceBNe, Int.reduceBEq, Int.reduceBNe, Int.reduceLE, Int.reduceEq, Int.reduceMod, Int.reduceNeg, boolBin, strBin, intBin, unA, fillA, ne_eq, reduceCtorEq, Nat.reduceAdd, Nat.reduceSub, Nat.reduceLeDiff, Nat.reduceLT, Nat.reduceEqDiff, Int.reduceToNat, eq_self, rulesT, rulesD, text_size, *]
    | (refine allK_intro fun n hn => ?_; try simp only [fresh_set] at hn)
    | (refine ifK_intro (fun h => ?_) (fun h => ?_) <;> (try simp only [rulesE] at h) <;> try (exfalso; (try simp only [rulesF] at h); omega))
    | (refine keeps_sub (Mem.sub_set ?_) ?_; focus (simp [Mem.set_at, nomem, *]; done))
  refine call_put (l' := h13B j.next rec) (by rw [h9B_len]; decide) (by omega) (by decide) (by decide) hn1 rfl fun n2 hn2 => ?_
  have g2 := hn2
  simp only [fresh_set] at g2
  repeat' first
    | simp -dsimp (disch := omega) only [↓rulesA, rulesB, rulesC, Int.reduceLT, nth, upd, put, storeN, AV.one, Nat.reduceBEq, Nat.reduceBNe, Int.reduceBEq, Int.reduceBNe, Int.reduceLE, Int.reduceEq, Int.reduceMod, Int.reduceNeg, boolBin, strBin, intBin, unA, fillA, ne_eq, reduceCtorEq, Nat.reduceAdd, Nat.reduceSub, Nat.reduceLeDiff, Nat.reduceLT, Nat.reduceEqDiff, Int.reduceToNat, eq_self, rulesT, rulesD, Jour.o4, *]
    | (refine allK_intro fun n hn => ?_; try simp only [fresh_set] at hn)
    | (refine ifK_intro (fun h => ?_) (fun h => ?_) <;> (try simp only [rulesE] at h) <;> try (exfalso; (try simp only [rulesF] at h); omega))
    | (refine keeps_sub (Mem.sub_set ?_) ?_; focus (simp [Mem.set_at, nomem, *]; done))
  refine conv_text (tb_9_44 _) ?_
  rw [text_bytes]
  repeat' first
    | simp -dsimp (disch := omega) only [↓rulesA, rulesB, rulesC, Int.reduceLT, nth, upd, put, storeN, AV.one, Nat.reduceBEq, Nat.reduceBNe, Int.reduceBEq, Int.reduceBNe, Int.reduceLE, Int.reduceEq, Int.reduceMod, Int.reduceNeg, boolBin, strBin, intBin, unA, fillA, ne_eq, reduceCtorEq, Nat.reduceAdd, Nat.reduceSub, Nat.reduceLeDiff, Nat.reduceLT, Nat.reduceEqDiff, Int.reduceToNat, eq_self, rulesT, rulesD, *]
    | (refine allK_intro fun n hn => ?_; try simp only [fresh_set] at hn)
    | (refine ifK_intro (fun h => ?_) (fun h => ?_) <;> (try simp only [rulesE] at h) <;> try (exfalso; (try simp only [rulesF] at h); omega))
    | (refine keeps_sub (Mem.sub_set ?_) ?_; focus (simp [Mem.set_at, nomem, *]; done))
    | (refine call_F (f37) (Seens.refl _ _) ?_)
    | (refine pure_F (f37) (Seens.refl _ _) ?_)
  refine call_put (l' := headB j.next rec) (by rw [h13B_len]; decide) (by have := sumN_lt j.next rec; omega) (by decide) (by decide) hn2 rfl fun n3 hn3 => ?_
  have g3 := hn3
  simp only [fresh_set] at g3
  repeat' first
    | simp -dsimp (disch := omega) only [↓rulesA, rulesB, rulesC, Int.reduceLT, nth, upd, put, storeN, AV.one, Nat.reduceBEq, Nat.reduceBNe, Int.reduceBEq, Int.reduceBNe, Int.reduceLE, Int.reduceEq, Int.reduceMod, Int.reduceNeg, boolBin, strBin, intBin, unA, fillA, ne_eq, reduceCtorEq, Nat.reduceAdd, Nat.reduceSub, Nat.reduceLeDiff, Nat.reduceLT, Nat.reduceEqDiff, Int.reduceToNat, eq_self, rulesT, rulesD, Jour.o3, *]
    | (refine allK_intro fun n hn => ?_; try simp only [fresh_set] at hn)
    | (refine ifK_intro (fun h => ?_) (fun h => ?_) <;> (try simp only [rulesE] at h) <;> try (exfalso; (try simp only [rulesF] at h); omega))
    | (refine keeps_sub (Mem.sub_set ?_) ?_; focus (simp [Mem.set_at, nomem, *]; done))
  clear f35 f29 f37 c1 c2 c3 hsn hs f32
  obtain ⟨K, hK⟩ : ∃ K, K = needN rec.length := ⟨_, rfl⟩
  have hK1 := needN_pos rec.length
  rw [← hK] at hK1
  have hput : putD j d rec = wrTo d j.at_ j.next rec K := by rw [hK]; rfl
  rw [hput, ← hK]
  have hmore : ∀ i, i < K → (¬ (rec.length ≤ offB (i + 1)) ↔ i + 1 < K) := fun i hi => by rw [hK] at hi ⊢; exact need_more hi
  rw [← hK] at hfull
  clear hK hput
  replace hmore : Kept _ := hmore
  refine loop_intro (fun jj env m => ∃ (i nb : Nat) (md' : Mem), i < K ∧ jj = K - i ∧ (wrTo d j.at_ j.next rec i).dead = false ∧ (wrTo d j.at_ j.next rec i).At Nd md' ∧ md' N = none ∧ md' nb = none ∧ nb ≠ N ∧ m = (md'.set N (.cells false 36 (j.own Nd))).set nb (.cells true 5 ((preB j.next rec i).map byteC).flatten) ∧ env.length = 133 ∧ nth env 0 = .ptr N 0 ∧ nth env 5 = .sl nb 0 (preB j.next rec i).length (preB j.next rec i).length ∧ nth env 6 = .val (.string ⟨(rec.drop (offB i)).toArray⟩) ∧ nth env 7 = .val (.int .i64 (j.at_ + i : Nat))) K _ (Mem.sub.refl _) ⟨0, n3, md, by omega, rfl, hdd, hmd, hN, g3.2.2, g3.1, rfl, rfl, rfl, rfl, rfl, rfl⟩ ?_
  clear hmd hN hn1 hn2 hn3 g1 g2 g3 hdd
  rintro jj env m ⟨i, nb, md', hi, rfl, hdd, hmd, hN, hnb, hne, rfl, hlen, e0, e5, e6, e7⟩
  have hoki := wrTo_ok hok j.at_ j.next rec i
  have hlai := wrTo_laid d j.at_ j.next rec i
  have hwi := wrTo_w d j.at_ j.next rec i
  have hfi := wrTo_f d j.at_ j.next rec i
  have hsl := secB_len j.next rec i
  have hwe := write_if hdd (k := j.at_ + i) (by rw [hlai]; omega) hsl
  have c38 := C38 (wrTo d j.at_ j.next rec i) hoki hmd (by omega) (j.at_ + i : Nat) (secB j.next rec i) false (by rw [hsl]; decide)
  rw [hwe] at c38
  have hw1 : Kept (wrTo d j.at_ j.next rec (i + 1) = writeD (wrTo d j.at_ j.next rec i) ((j.at_ + i : Nat) : Int) (secB j.next rec i)) := rfl
  have hsec : Kept (secB j.next rec i = pad64 (preB j.next rec i ++ (rec.drop (offB i)).take (64 - (preB j.next rec i).length))) := rfl
  have hdr : Kept (rec.drop (offB (i + 1)) = (rec.drop (offB i)).drop (64 - (preB j.next rec i).length)) := by
    show _ = _
    rw [List.drop_drop, preB_len]; congr 1; cases i with | zero => rfl | succ i => show 47 + (i + 1) * 55 = 47 + (i + 1 - 1) * 55 + (64 - 9); omega
  have hpl : 9 ≤ (preB j.next rec i).length ∧ (preB j.next rec i).length ≤ 17 := by rw [preB_len]; split <;> omega
  have hrl : (rec.drop (offB i)).length ≤ 300000 := by rw [List.length_drop]; omega
  generalize preB j.next rec i = p at *
  generalize rec.drop (offB i) = R at *
  clear hoki
  obtain ⟨q, hq⟩ : ∃ q, q = (R.take (64 - p.length)).length := ⟨_, rfl⟩
  have hq' : q = min (64 - p.length) R.length := by rw [hq, List.length_take]
  have hqR : q ≤ R.length := by omega
  have hqp : p.length + q ≤ 64 := by omega
  have emin : (if (64 : Int) - p.length < R.length then (64 : Int) - p.length else R.length) = (q : Int) := by split <;> omega
  have etake : R.take q = R.take (64 - p.length) := by
    rw [hq']; rcases Nat.le_total (64 - p.length) R.length with h | h
    · rw [Nat.min_eq_left h]
    · rw [Nat.min_eq_right h, List.take_length, List.take_of_length_le h]
  have edrop : R.drop q = R.drop (64 - p.length) := by
    rw [hq']; rcases Nat.le_total (64 - p.length) R.length with h | h
    · rw [Nat.min_eq_left h]
    · rw [Nat.min_eq_right h, List.drop_length, List.drop_of_length_le h]
  have sh := fun m => text_hi ti_9 rfl m R .i64 q (by omega) (by omega)
  have sd := fun m => text_lo ti_9 rfl m R .i64 q (by omega) (by omega)
  rw [Int.toNat_natCast, etake] at sh
  rw [Int.toNat_natCast, edrop] at sd
  have htl : (R.take (64 - p.length)).length = q := hq.symm
  clear hq' etake edrop hq
  generalize R.take (64 - p.length) = T at *
  generalize R.drop (64 - p.length) = R' at *
  repeat' first
    | simp -dsimp (disch := omega) only [↓rulesA, rulesB, rulesC, Int.reduceLT, nth, upd, put, storeN, AV.one, Nat.reduceBEq, Nat.reduceBNe, Int.reduceBEq, Int.reduceBNe, Int.reduceLE, Int.reduceEq, Int.reduceMod, Int.reduceNeg, boolBin, strBin, intBin, unA, fillA, ne_eq, reduceCtorEq, Nat.reduceAdd, Nat.reduceSub, Nat.reduceLeDiff, Nat.reduceLT, Nat.reduceEqDiff, Int.reduceToNat, eq_self, rulesT, rulesD, Jour.o0, text_size, mm_min, *]
    | (refine allK_intro fun n hn => ?_; try simp only [fresh_set] at hn)
    | (refine ifK_intro (fun h => ?_) (fun h => ?_) <;> (try simp only [rulesE] at h) <;> try (exfalso; (try simp only [rulesF] at h); omega))
    | (refine keeps_sub (Mem.sub_set ?_) ?_; focus (simp [Mem.set_at, nomem, *]; done))
  refine app_own (l' := p ++ T) (by simp [Mem.set_at, *]) app_44_9 (by omega) (srcB_of (text_src ti_9 rfl _ T)) rfl fun n4 hn4 => ?_
  have hpt : (p ++ T).length ≤ 64 := by rw [List.length_append, htl]; exact hqp
  have epad : Kept (p ++ T ++ List.replicate (64 - (p ++ T).length) 0 = secB j.next rec i) := (hsec : _ = _).symm
  generalize p ++ T = pt at *
  have ez : (64 : Int) - pt.length = ((64 - pt.length : Nat) : Int) := by omega
  repeat' first
    | simp -dsimp (disch := omega) only [↓rulesA, rulesB, rulesC, Int.reduceLT, nth, upd, put, storeN, AV.one, Nat.reduceBEq, Nat.reduceBNe, Int.reduceBEq, Int.reduceBNe, Int.reduceLE, Int.reduceEq, Int.reduceMod, Int.reduceNeg, boolBin, strBin, intBin, unA, fillA, ne_eq, reduceCtorEq, Nat.reduceAdd, Nat.reduceSub, Nat.reduceLeDiff, Nat.reduceLT, Nat.reduceEqDiff, Int.reduceToNat, eq_self, rulesT, rulesD, *]
    | (refine allK_intro fun n hn => ?_; try simp only [fresh_set] at hn)
    | (refine ifK_intro (fun h => ?_) (fun h => ?_) <;> (try simp only [rulesE] at h) <;> try (exfalso; (try simp only [rulesF] at h); omega))
    | (refine keeps_sub (Mem.sub_set ?_) ?_; focus (simp [Mem.set_at, nomem, *]; done))
  refine app_own hn4 app_44_3 (by rw [List.length_replicate]; omega) (zero_src _ (64 - pt.length) (by omega)) epad fun n5 hn5 => ?_
  have g5 := hn5
  simp only [fresh_set] at g5
  generalize secB j.next rec i = SB at *
  clear ez epad hsec hpt
  repeat' first
    | simp -dsimp (disch := omega) only [↓rulesA, rulesB, rulesC, Int.reduceLT, nth, upd, put, storeN, AV.one, Nat.reduceBEq, Nat.reduceBNe, Int.reduceBEq, Int.reduceBNe, Int.reduceLE, Int.reduceEq, Int.reduceMod, Int.reduceNeg, boolBin, strBin, intBin, unA, fillA, ne_eq, reduceCtorEq, Nat.reduceAdd, Nat.reduceSub, Nat.reduceLeDiff, Nat.reduceLT, Nat.reduceEqDiff, Int.reduceToNat, eq_self, rulesT, rulesD, Jour.o0, text_size, mm_min, *]
    | (refine allK_intro fun n hn => ?_; try simp only [fresh_set] at hn)
    | (refine ifK_intro (fun h => ?_) (fun h => ?_) <;> (try simp only [rulesE] at h) <;> try (exfalso; (try simp only [rulesF] at h); omega))
    | (refine keeps_sub (Mem.sub_set ?_) ?_; focus (simp [Mem.set_at, nomem, *]; done))
  have hM5 : ((md'.set N (.cells false 36 (j.own Nd))).set n5 (.cells true 5 (SB.map byteC).flatten)) n5 = some (.cells true 5 (SB.map byteC).flatten) := Mem.set_same _ _ _
  have hMN : ((md'.set N (.cells false 36 (j.own Nd))).set n5 (.cells true 5 (SB.map byteC).flatten)) N = some (.cells false 36 (j.own Nd)) := by simp [Mem.set_at, *]
  have hbs : Seen (md'.rest ((md'.set N (.cells false 36 (j.own Nd))).set n5 (.cells true 5 (SB.map byteC).flatten))) (.sl n5 0 64 64) (.vs (SB.map byteC) false) := by
    have := byte_seen SB (cap := 64) ((Mem.rest_none g5.2.2).trans hM5)
    rwa [hsl] at this
  have hsubd : md'.sub ((md'.set N (.cells false 36 (j.own Nd))).set n5 (.cells true 5 (SB.map byteC).flatten)) := by ((repeat' first | exact Mem.sub.refl _ | exact nomem_sub _ | refine Mem.set_sub ?_ ?_ | refine Mem.sub_set_new ?_ ?_ | refine Mem.sub_del ?_ ?_) <;> simp [Mem.set_at, Mem.del_at, nomem, *])
  refine call_seen c38 hsubd (.three .same .same hbs) (fun r m' ⟨hr, ha⟩ => ⟨by rw [hr]; rfl, at_clean ha⟩) fun r m1 M1 ⟨hr, hat1⟩ s1 l1 => ?_
  obtain ⟨hN1, hMN1⟩ := l1 N _ hN hMN
  clear l1 hbs hM5 hMN hsubd g5 hn4 hn5 c38
  subst hr
  replace hw1 : _ = _ := hw1
  generalize (writeD (wrTo d j.at_ j.next rec i) ((j.at_ + i : Nat) : Int) SB) = D1 at *
  have hdrop : Kept (rec.drop (offB (i + 1)) = R') := hdr
  have hiK := (hmore : ∀ _, _) i hi
  have hend : rec.length ≤ offB (i + 1) ↔ R' = [] := by
    rw [← (hdrop : _ = _)]
    constructor
    · exact List.drop_of_length_le
    · intro h
      have := congrArg List.length h
      rw [List.length_drop, List.length_nil] at this
      omega
  have hsub1 := Mem.sub_set_new (b := .cells false 36 (j.own Nd)) s1 hN1
  rcases hD1 : D1.dead with _ | _
  · have s3' : setRange (j.own Nd) 3 [.val (.int .i64 (((j.at_ + i : Nat) : Int) + 1))] = ({ j with at_ := j.at_ + i + 1 } : Jour).own Nd := rfl
    have hok1 := wrTo_ok hok j.at_ j.next rec (i + 1)
    have hf1 := wrTo_f d j.at_ j.next rec (i + 1)
    rw [hw1] at hok1 hf1
    clear hdr hwe hrl sh sd emin
    replace hend : Kept _ := hend
    replace hiK : Kept _ := hiK
    have htext : ∀ l : List UInt8, ((⟨l.toArray⟩ : ByteArray) = ⟨#[]⟩) = (l = []) := fun l => text_mk l []
    repeat' first
      | simp -dsimp (disch := omega) only [↓rulesA, rulesB, rulesC, Int.reduceLT, nth, upd, put, storeN, AV.one, Nat.reduceBEq, Nat.reduceBNe, Int.reduceBEq, Int.reduceBNe, Int.reduceLE, Int.reduceEq, Int.reduceMod, Int.reduceNeg, boolBin, strBin, intBin, unA, fillA, ne_eq, reduceCtorEq, Nat.reduceAdd, Nat.reduceSub, Nat.reduceLeDiff, Nat.reduceLT, Nat.reduceEqDiff, Int.reduceToNat, eq_self, rulesT, rulesD, Jour.o0, text_eql, htext, mm_min, Jour.olen, Jour.s5, s3', *]
      | (refine allK_intro fun n hn => ?_; try simp only [fresh_set] at hn)
      | (refine ifK_intro (fun h => ?_) (fun h => ?_) <;> (try simp only [rulesE] at h) <;> try (exfalso; (try simp only [rulesF] at h); omega))
      | (refine keeps_sub (Mem.sub_set ?_) ?_; focus (simp [Mem.set_at, nomem, *]; done))
    · have hR : R' = [] := by
        rw [text_inj] at h
        have h' := of_decide_eq_true h
        rwa [htext] at h'
      have hiK' : i + 1 = K := by
        have h1 := (hend : _ ↔ _).2 hR
        have h2 := (hiK : _ ↔ _)
        have h3 : ¬ (i + 1 < K) := fun h => h2.2 h h1
        omega
      have c39 := C39 D1 hok1 hat1 (by omega)
      rw [hD1] at c39
      have hKi : Kept (wrTo d j.at_ j.next rec K = D1) := by rw [← hiK']; exact hw1
      have sj : setRange (({ j with at_ := j.at_ + i + 1 } : Jour).own Nd) 4 [.val (.int .i64 ((j.next : Int) + 1))] = ({ j with at_ := j.at_ + i + 1, next := j.next + 1 } : Jour).own Nd := rfl
      rw [hj] at sj
      refine call_at c39 (Mem.sub_set_new s1 hN1) fun r m2 M2 ⟨hr, hat2⟩ s2 l2 => ?_
      obtain ⟨hN2, hMN2⟩ := l2 N _ hN1 (Mem.set_same _ _ _)
      subst hr
      clear l2 c39
      repeat' first
        | simp -dsimp (disch := omega) only [↓rulesA, rulesB, rulesC, Int.reduceLT, nth, upd, put, storeN, AV.one, Nat.reduceBEq, Nat.reduceBNe, Int.reduceBEq, Int.reduceBNe, Int.reduceLE, Int.reduceEq, Int.reduceMod, Int.reduceNeg, boolBin, strBin, intBin, unA, fillA, ne_eq, reduceCtorEq, Nat.reduceAdd, Nat.reduceSub, Nat.reduceLeDiff, Nat.reduceLT, Nat.reduceEqDiff, Int.reduceToNat, eq_self, rulesT, rulesD, Jour.o4, Jour.olen, sj, *]
        | (refine allK_intro fun n hn => ?_; try simp only [fresh_set] at hn)
        | (refine ifK_intro (fun h => ?_) (fun h => ?_) <;> (try simp only [rulesE] at h) <;> try (exfalso; (try simp only [rulesF] at h); omega))
        | (refine keeps_sub (Mem.sub_set ?_) ?_; focus (simp [Mem.set_at, nomem, *]; done))
      have hKi' : wrTo d j.at_ j.next rec K = D1 := hKi
      rw [hKi', hD1]
      refine .sub (m' := m2.set N (.cells false 36 (({ j with at_ := j.at_ + i + 1, next := j.next + 1 } : Jour).own Nd))) ?_ ⟨rfl, m2, hat2, hN2, ?_⟩
      · rw [← hj]; exact Mem.set_mono s2
      · rw [← hiK', hj]; rfl
    · have hR : ¬ R' = [] := by
        rw [text_inj] at h
        have h' := of_decide_eq_false h
        rwa [htext] at h'
      have hiK' : i + 1 < K := by
        have h1 : ¬ _ := fun h => hR ((hend : _ ↔ _).1 h)
        exact (hiK : _ ↔ _).1 h1
      refine lit_vs (lit1_44 _) rfl ?_
      rw [chunk_one]
      repeat' first
        | simp -dsimp (disch := omega) only [↓rulesA, rulesB, rulesC, Int.reduceLT, nth, upd, put, storeN, AV.one, Nat.reduceBEq, Nat.reduceBNe, Int.reduceBEq, Int.reduceBNe, Int.reduceLE, Int.reduceEq, Int.reduceMod, Int.reduceNeg, boolBin, strBin, intBin, unA, fillA, ne_eq, reduceCtorEq, Nat.reduceAdd, Nat.reduceSub, Nat.reduceLeDiff, Nat.reduceLT, Nat.reduceEqDiff, Int.reduceToNat, eq_self, rulesT, rulesD, Jour.o4, *]
        | (refine allK_intro fun n hn => ?_; try simp only [fresh_set] at hn)
        | (refine ifK_intro (fun h => ?_) (fun h => ?_) <;> (try simp only [rulesE] at h) <;> try (exfalso; (try simp only [rulesF] at h); omega))
        | (refine keeps_sub (Mem.sub_set ?_) ?_; focus (simp [Mem.set_at, nomem, *]; done))
      have c1 := conv64 j.next (by omega)
      refine call_put1 (l := [2]) (l' := moreB j.next) (by decide) (by omega) (by decide) (by decide) rfl fun n6 hn6 => ?_
      have hm1 : m1 n6 = none := Mem.sub_none s1 hn6
      have hpre : preB j.next rec (i + 1) = moreB j.next := by unfold preB; rw [if_neg (by omega)]
      have hn6N : n6 ≠ N := fun e => by rw [e, hMN1] at hn6; cases hn6
      rw [← hpre]
      clear hpre hsub1 c1
      repeat' first
        | simp -dsimp (disch := omega) only [↓rulesA, rulesB, rulesC, Int.reduceLT, nth, upd, put, storeN, AV.one, Nat.reduceBEq, Nat.reduceBNe, Int.reduceBEq, Int.reduceBNe, Int.reduceLE, Int.reduceEq, Int.reduceMod, Int.reduceNeg, boolBin, strBin, intBin, unA, fillA, ne_eq, reduceCtorEq, Nat.reduceAdd, Nat.reduceSub, Nat.reduceLeDiff, Nat.reduceLT, Nat.reduceEqDiff, Int.reduceToNat, eq_self, rulesT, rulesD, *]
        | (refine allK_intro fun n hn => ?_; try simp only [fresh_set] at hn)
        | (refine ifK_intro (fun h => ?_) (fun h => ?_) <;> (try simp only [rulesE] at h) <;> try (exfalso; (try simp only [rulesF] at h); omega))
        | (refine keeps_sub (Mem.sub_set ?_) ?_; focus (simp [Mem.set_at, nomem, *]; done))
      refine again_intro (K - (i + 1)) (by omega) ((m1.set N (.cells false 36 (j.own Nd))).set n6 (.cells true 5 ((preB j.next rec (i + 1)).map byteC).flatten)) ?_ ⟨i + 1, n6, m1, hiK', rfl, ?_, ?_, hN1, hm1, hn6N, rfl, ?_, ?_, ?_, ?_, ?_⟩
      · exact Mem.set_mono (Mem.set_sub s1 hMN1)
      · rw [hw1]; exact hD1
      · rw [hw1]; exact hat1
      rotate_left 3
      · rw [(hdrop : _ = _)]
        simp (disch := omega) only [nth_upd, pickB_true, pickB_false, inB_lt, upd_len, Nat.reduceBEq, beq_self_eq_true, hlen]
      · have ec : ((j.at_ + i : Nat) : Int) + 1 = (j.at_ + (i + 1) : Nat) := by omega
        simp (disch := omega) only [nth_upd, pickB_true, pickB_false, inB_lt, upd_len, Nat.reduceBEq, beq_self_eq_true, ec, hlen]
      all_goals simp (disch := omega) only [nth_upd, pickB_true, pickB_false, inB_lt, upd_len, Nat.reduceBEq, beq_self_eq_true, hlen, e0]
  · repeat' first
      | simp -dsimp (disch := omega) only [↓rulesA, rulesB, rulesC, Int.reduceLT, nth, upd, put, storeN, AV.one, Nat.reduceBEq, Nat.reduceBNe, Int.reduceBEq, Int.reduceBNe, Int.reduceLE, Int.reduceEq, Int.reduceMod, Int.reduceNeg, boolBin, strBin, intBin, unA, fillA, ne_eq, reduceCtorEq, Nat.reduceAdd, Nat.reduceSub, Nat.reduceLeDiff, Nat.reduceLT, Nat.reduceEqDiff, Int.reduceToNat, eq_self, rulesT, rulesD, Jour.o0, text_size, mm_min, Jour.olen, Jour.s5, *]
      | (refine allK_intro fun n hn => ?_; try simp only [fresh_set] at hn)
      | (refine ifK_intro (fun h => ?_) (fun h => ?_) <;> (try simp only [rulesE] at h) <;> try (exfalso; (try simp only [rulesF] at h); omega))
      | (refine keeps_sub (Mem.sub_set ?_) ?_; focus (simp [Mem.set_at, nomem, *]; done))
    have hKi : wrTo d j.at_ j.next rec K = D1 := by
      have := wrTo_dead (d := d) (a := j.at_) (n := j.next) (rec := rec) (k := i + 1) (by rw [hw1]; exact hD1) (K - (i + 1))
      rw [show i + 1 + (K - (i + 1)) = K by omega, hw1] at this
      exact this
    have hfl : flushD D1 = D1 := by unfold flushD; rw [if_pos hD1]
    rw [hKi, hD1, hfl]
    refine .sub (m' := m1.set N (.cells false 36 (({ j with dead := true } : Jour).own Nd))) (Mem.set_mono s1) ⟨rfl, m1, hat1, hN1, ?_⟩
    rfl
end Go.Proofs.Ytlkeailgccbmbaa

set_option maxRecDepth 100000
set_option maxHeartbeats 1000000
set_option linter.unusedSimpArgs false
set_option linter.unusedVariables false
namespace Go.Proofs.Ytlkeailgccbmbaa
open Go.Abs
attribute [local irreducible] C X CC Y CV CW binK litK AppK PureC PureCV againK loopV rangeV allK ifK got onB condK V stepsK planK opK firstK seeE keepsK
theorem byteAt_nat (x i : Nat) : (byteAt x i).toNat = x / 2 ^ (8 * i) % 256 := by unfold byteAt; rw [UInt8.toNat_ofNat']
theorem numB_at (x : Nat) : ∀ k i, i < k → (numB x k)[i]? = some (byteAt x i)
  | k + 1, i, h => by
    unfold numB
    by_cases hi : i < k
    · rw [List.getElem?_append_left (by rw [numB_len]; exact hi)]; exact numB_at x k i hi
    · have e : i = k := by omega
      subst e
      rw [List.getElem?_append_right (by rw [numB_len]; exact Nat.le_refl _), numB_len, Nat.sub_self]; rfl
theorem getTo_numB (x k : Nat) (l : List UInt8) : ∀ i, i ≤ k → getTo (numB x k ++ l) i = x % 2 ^ (8 * i)
  | 0, _ => by simp [getTo, Nat.mod_one]
  | i + 1, h => by
    unfold getTo
    rw [getTo_numB x k l i (by omega), List.getD_eq_getElem?_getD, List.getElem?_append_left (by rw [numB_len]; omega), numB_at x k i (by omega)]
    show x % 2 ^ (8 * i) + (byteAt x i).toNat * 2 ^ (8 * i) = _
    rw [byteAt_nat, show 8 * (i + 1) = 8 * i + 8 by omega, Nat.pow_add, Nat.mod_mul, Nat.mul_comm (x / 2 ^ (8 * i) % 256)]
theorem getTo_num (x k : Nat) (h : x < 2 ^ (8 * k)) : getTo (numB x k) k = x := by
  have := getTo_numB x k [] k (Nat.le_refl _)
  rw [List.append_nil] at this
  rw [this, Nat.mod_eq_of_lt h]
def secS (n : Nat) (rec : List UInt8) (i : Nat) : Sec := ⟨secB n rec i, secB_len n rec i⟩
theorem kind_sec (n : Nat) (rec : List UInt8) (i : Nat) : kindS (secS n rec i) = if i = 0 then 1 else 2 := by
  unfold kindS secS secB preB pad64
  split
  · simp [headB, h13B, h9B]
  · simp [moreB]
theorem num_sec {n : Nat} (rec : List UInt8) (i : Nat) (hn : n ≤ 4611686018427387904) : numS (secS n rec i) = n := by
  have e : ((secB n rec i).drop 1).take 8 = numB n 8 := by
    unfold secB preB pad64
    have hl := numB_len n 8
    split
    · simp only [headB, h13B, h9B, List.append_assoc, List.singleton_append, List.cons_append, List.nil_append, List.drop_succ_cons, List.drop_zero]
      rw [List.take_append_of_le_length (by omega), List.take_of_length_le (by omega)]
    · simp only [moreB, List.append_assoc, List.singleton_append, List.cons_append, List.nil_append, List.drop_succ_cons, List.drop_zero]
      rw [List.take_append_of_le_length (by omega), List.take_of_length_le (by omega)]
  have hk := kind_sec n rec i
  unfold numS
  rw [if_neg (by rw [hk]; split <;> decide)]
  show (if getTo (((secB n rec i).drop 1).take 8) 8 ≤ _ then getTo (((secB n rec i).drop 1).take 8) 8 else 0) = n
  rw [e, getTo_num n 8 (by omega), if_pos hn]
theorem len_sec (n : Nat) (rec : List UInt8) (h : rec.length < 4294967296) : lenS (secS n rec 0) = rec.length := by
  have e : ((secB n rec 0).drop 9).take 4 = numB rec.length 4 := by
    unfold secB preB pad64
    have hl := numB_len rec.length 4
    have h9 := h9B_len n
    rw [if_pos rfl]
    simp only [headB, h13B, List.append_assoc]
    rw [List.drop_append_of_le_length (by omega), List.drop_of_length_le (by omega), List.nil_append, List.take_append_of_le_length (by omega), List.take_of_length_le (by omega)]
  show getTo (((secB n rec 0).drop 9).take 4) 4 = _
  rw [e, getTo_num _ 4 (by omega)]
theorem want_sec (n : Nat) (rec : List UInt8) : wantS (secS n rec 0) = sumN n rec := by
  have e : ((secB n rec 0).drop 13).take 4 = numB (sumN n rec) 4 := by
    unfold secB preB pad64
    have hl := numB_len (sumN n rec) 4
    have h9 := h13B_len n rec
    rw [if_pos rfl]
    simp only [headB, List.append_assoc]
    rw [List.drop_append_of_le_length (by omega), List.drop_of_length_le (by omega), List.nil_append, List.take_append_of_le_length (by omega), List.take_of_length_le (by omega)]
  have := sumN_lt n rec
  show getTo (((secB n rec 0).drop 13).take 4) 4 = _
  rw [e, getTo_num _ 4 (by omega)]
theorem part_sec (n : Nat) (rec : List UInt8) (i : Nat) : (secB n rec i).drop (if i = 0 then 17 else 9) = (rec.drop (offB i)).take (if i = 0 then 47 else 55) ++ List.replicate ((if i = 0 then 47 else 55) - (rec.length - offB i)) 0 := by
  have hl := preB_len n rec i
  unfold secB pad64
  rw [hl, List.append_assoc, List.drop_append_of_le_length (by omega), List.drop_of_length_le (by omega), List.nil_append, List.length_append, hl, List.length_take, List.length_drop]
  split <;> (congr 2; omega)
theorem rec_next (rec : List UInt8) (k : Nat) : (rec.take (47 + 55 * k) ++ List.replicate (47 + 55 * k - rec.length) 0) ++ ((rec.drop (47 + k * 55)).take 55 ++ List.replicate (55 - (rec.length - (47 + k * 55))) 0) = rec.take (47 + 55 * (k + 1)) ++ List.replicate (47 + 55 * (k + 1) - rec.length) (0 : UInt8) := by
  rcases Nat.lt_or_ge (47 + 55 * k) rec.length with h | h
  · rw [show 47 + 55 * k - rec.length = 0 by omega, List.replicate_zero, List.append_nil, ← List.append_assoc, show 47 + k * 55 = 47 + 55 * k by omega, show 47 + 55 * (k + 1) = (47 + 55 * k) + 55 by omega, List.take_add (l := rec) (i := 47 + 55 * k) (j := 55), show 55 - (rec.length - (47 + 55 * k)) = 47 + 55 * k + 55 - rec.length by omega]
  · rw [List.take_of_length_le h, List.drop_of_length_le (by omega), List.take_nil, List.nil_append, List.take_of_length_le (by omega), List.append_assoc, List.replicate_append_replicate]
    congr 2; omega
end Go.Proofs.Ytlkeailgccbmbaa

set_option maxRecDepth 100000
set_option maxHeartbeats 1000000
set_option linter.unusedSimpArgs false
set_option linter.unusedVariables false
namespace Go.Proofs.Ytlkeailgccbmbaa
open Go.Abs
attribute [local irreducible] C X CC Y CV CW binK litK AppK PureC PureCV againK loopV rangeV allK ifK got onB condK V stepsK planK opK firstK seeE keepsK
def recL (a n : Nat) (rec : List UInt8) (k : Nat) : List Wr := (List.range k).map fun i => ⟨a + i, secS n rec i⟩
theorem recL_len (a n : Nat) (rec : List UInt8) (k : Nat) : (recL a n rec k).length = k := by simp [recL]
theorem recL_at {a n : Nat} {rec : List UInt8} {k i : Nat} (h : i < k) : (recL a n rec k).getD i default = ⟨a + i, secS n rec i⟩ := by
  rw [List.getD_eq_getElem?_getD, List.getElem?_eq_getElem (by rw [recL_len]; exact h)]
  simp [recL]
theorem recL_succ (a n : Nat) (rec : List UInt8) (k : Nat) : recL a n rec (k + 1) = recL a n rec k ++ [⟨a + k, secS n rec k⟩] := by
  simp [recL, List.range_succ]
theorem lay_rec (a n : Nat) (rec : List UInt8) (k : Nat) (s : Sec) : layL (recL a n rec k) (a + k) s = recL a n rec k ++ [⟨a + k, s⟩] := by
  unfold layL
  rw [if_neg]
  intro h
  have h2 := findN_is h
  rw [recL_len] at h
  rw [recL_at h] at h2
  simp only at h2
  omega
theorem fill_sec (n : Nat) (rec : List UInt8) (i : Nat) : fillS (secB n rec i) = secS n rec i := by
  have h := fill_full (secB_len n rec i)
  unfold secS
  cases hf : fillS (secB n rec i) with
  | mk l hl => rw [hf] at h; simp only at h; subst h; rfl
theorem write_cases {d : Dev} {k : Nat} {l : List UInt8} (hd : d.dead = false) (hk : k < d.laid.length) (hl : l.length = 64) : (d.set = true ∧ writeD d k l = loseD d d.pick) ∨ writeD d k l = countD (layD (lessD d) k (fillS l)) := by
  have h1 : ¬((k : Int) < 0 ∨ (d.laid.length : Int) ≤ k) := by omega
  unfold writeD
  rw [if_neg (by rw [hd]; decide), if_neg h1, if_neg (by omega)]
  split
  · rename_i h; exact .inl ⟨h.1, rfl⟩
  · exact .inr rfl
theorem lose_dead {d : Dev} (hd : d.dead = false) (p : Int) : (loseD d p).dead = true := by unfold loseD; rw [hd]; rfl
theorem less_is (d : Dev) : (lessD d).list = d.list ∧ (lessD d).laid = d.laid ∧ (lessD d).dead = d.dead ∧ (lessD d).set = d.set := by unfold lessD; split <;> exact ⟨rfl, rfl, rfl, rfl⟩
theorem wrTo_live {d : Dev} {a n : Nat} {rec : List UInt8} (hl : d.list = []) : ∀ k, a + k ≤ d.laid.length → (wrTo d a n rec k).dead = false → (wrTo d a n rec k).list = recL a n rec k ∧ (wrTo d a n rec k).laid = d.laid ∧ (wrTo d a n rec k).set = d.set ∧ d.dead = false
  | 0, _, h => ⟨hl, rfl, rfl, h⟩
  | k + 1, hk, h => by
    have hd : (wrTo d a n rec k).dead = false := by
      cases hd : (wrTo d a n rec k).dead with
      | false => rfl
      | true => have := wrTo_dead hd 1; rw [this, hd] at h; cases h
    obtain ⟨i1, i2, i3, i4⟩ := wrTo_live hl k (by omega) hd
    rw [wrTo] at h ⊢
    rcases write_cases hd (k := a + k) (by rw [i2]; omega) (secB_len n rec k) with ⟨_, e⟩ | e
    · rw [e, lose_dead hd] at h; cases h
    · rw [e]
      obtain ⟨l1, l2, l3, l4⟩ := less_is (wrTo d a n rec k)
      refine ⟨?_, l2.trans i2, l4.trans i3, i4⟩
      show layL (lessD _).list _ _ = _
      rw [l1, i1, fill_sec, lay_rec, recL_succ]
theorem wrTo_lost {d : Dev} {a n : Nat} {rec : List UInt8} (hl : d.list = []) (hd : d.dead = false) : ∀ k, a + k ≤ d.laid.length → (wrTo d a n rec k).dead = true → ∃ i p, i < k ∧ (wrTo d a n rec i).dead = false ∧ d.set = true ∧ wrTo d a n rec k = loseD (wrTo d a n rec i) p
  | 0, _, h => by rw [wrTo, hd] at h; cases h
  | k + 1, hk, h => by
    cases hk' : (wrTo d a n rec k).dead with
    | true =>
      obtain ⟨i, p, h1, h2, h3, h4⟩ := wrTo_lost hl hd k (by omega) hk'
      exact ⟨i, p, by omega, h2, h3, by rw [wrTo_dead hk' 1]; exact h4⟩
    | false =>
      obtain ⟨i1, i2, i3, i4⟩ := wrTo_live hl k (by omega) hk'
      rw [wrTo] at h
      rcases write_cases hk' (k := a + k) (by rw [i2]; omega) (secB_len n rec k) with ⟨e0, e⟩ | e
      · exact ⟨k, _, by omega, hk', by rw [← i3]; exact e0, by rw [wrTo, e]⟩
      · rw [e] at h
        have : (countD (layD (lessD (wrTo d a n rec k)) (a + k) (fillS (secB n rec k)))).dead = (lessD (wrTo d a n rec k)).dead := rfl
        rw [this, (less_is _).2.2.1, hk'] at h; cases h
theorem layTo_rec (a n : Nat) (rec : List UInt8) (k : Nat) (b : Nat → Bool) (L : List Sec) (hL : a + k ≤ L.length) (x : Nat) : ∀ i, i ≤ k → (layTo (recL a n rec k) b L i).getD x default = if a ≤ x ∧ x < a + i ∧ b (x - a) = true then secS n rec (x - a) else L.getD x default
  | 0, _ => by rw [if_neg (by omega)]; rfl
  | i + 1, hi => by
    have ih := layTo_rec a n rec k b L hL x i (by omega)
    by_cases hb : b i = true
    · rw [layTo_yes hb, recL_at (by omega)]
      simp only
      by_cases hx : x = a + i
      · subst hx
        rw [if_pos ⟨by omega, by omega, by rw [Nat.add_sub_cancel_left]; exact hb⟩, Nat.add_sub_cancel_left]
        rw [List.getD_eq_getElem?_getD, List.getElem?_set_self (by rw [layTo_len]; omega)]; rfl
      · rw [List.getD_eq_getElem?_getD, List.getElem?_set_ne (by omega), ← List.getD_eq_getElem?_getD, ih]
        by_cases hc : a ≤ x ∧ x < a + i ∧ b (x - a) = true
        · rw [if_pos hc, if_pos ⟨hc.1, by omega, hc.2.2⟩]
        · rw [if_neg hc, if_neg (fun h => hc ⟨h.1, by omega, h.2.2⟩)]
    · have hb' : b i = false := by simpa using hb
      rw [layTo_no hb', ih]
      by_cases hc : a ≤ x ∧ x < a + i ∧ b (x - a) = true
      · rw [if_pos hc, if_pos ⟨hc.1, by omega, hc.2.2⟩]
      · rw [if_neg hc, if_neg]
        intro h
        have hx : x < a + i := by
          rcases Nat.lt_or_ge x (a + i) with q | q
          · exact q
          · have e : x - a = i := by omega
            rw [e, hb'] at h; cases h.2.2
        exact hc ⟨h.1, hx, h.2.2⟩
structure Flat (d : Dev) (n : Nat) : Prop where
  ok : d.Ok
  list : d.list = []
  live : d.dead = false
  len : d.laid.length = n
def secD (d : Dev) (x : Nat) : Sec := d.laid.getD x default
theorem Flat.readS {d : Dev} {n : Nat} (h : Flat d n) (x : Nat) : readS d x = secD d x := by
  unfold Go.Proofs.Ytlkeailgccbmbaa.readS
  rw [h.list, if_neg (by simp [findN])]; rfl
theorem Flat.readE {d : Dev} {n : Nat} (h : Flat d n) {x : Nat} (hx : x < n) : readE d x = 0 := by
  unfold Go.Proofs.Ytlkeailgccbmbaa.readE
  rw [h.live, if_neg (by decide), if_neg (by rw [h.len]; omega)]
theorem Flat.num {d : Dev} {n : Nat} (h : Flat d n) {x : Nat} (hx : x < n) : numAt d x = numS (secD d x) := by
  unfold numAt; rw [if_pos (h.readE hx), h.readS]
theorem app_done {j : Jour} {d : Dev} {n : Nat} {rec : List UInt8} (h : Flat d n) (hr : j.at_ + needN rec.length ≤ n) (hp : (putD j d rec).dead = false) : Flat (flushD (putD j d rec)) n ∧ (flushD (putD j d rec)).set = d.set ∧ ∀ x, secD (flushD (putD j d rec)) x = if j.at_ ≤ x ∧ x < j.at_ + needN rec.length then secS j.next rec (x - j.at_) else secD d x := by
  have hl : j.at_ + needN rec.length ≤ d.laid.length := by rw [h.len]; exact hr
  obtain ⟨i1, i2, i3, i4⟩ := wrTo_live (a := j.at_) (n := j.next) (rec := rec) h.list (needN rec.length) hl hp
  have hok : (putD j d rec).Ok := wrTo_ok h.ok _ _ _ _
  have e : flushD (putD j d rec) = { (putD j d rec) with list := [], f := (putD j d rec).f + 1, laid := layTo (putD j d rec).list (fun _ => true) (putD j d rec).laid (putD j d rec).list.length } := by
    unfold flushD; rw [if_neg (by rw [hp]; decide)]
  refine ⟨⟨Ok.flush hok, by rw [e], by rw [e]; exact hp, by rw [flush_laid]; exact (wrTo_laid d _ _ _ _).trans h.len⟩, by rw [e]; exact i3, fun x => ?_⟩
  unfold secD
  rw [e]
  show (layTo (wrTo d j.at_ j.next rec (needN rec.length)).list (fun _ => true) (wrTo d j.at_ j.next rec (needN rec.length)).laid (wrTo d j.at_ j.next rec (needN rec.length)).list.length).getD x default = _
  rw [i1, i2, recL_len, layTo_rec _ _ _ _ _ _ hl x _ (Nat.le_refl _)]
  by_cases hc : j.at_ ≤ x ∧ x < j.at_ + needN rec.length
  · rw [if_pos ⟨hc.1, hc.2, rfl⟩, if_pos hc]
  · rw [if_neg (fun q => hc ⟨q.1, q.2.1⟩), if_neg hc]
theorem app_lost {j : Jour} {d : Dev} {n : Nat} {rec : List UInt8} (h : Flat d n) (hr : j.at_ + needN rec.length ≤ n) (hp : (putD j d rec).dead = true) : flushD (putD j d rec) = putD j d rec ∧ d.set = true ∧ (putD j d rec).set = false ∧ Flat (onD (putD j d rec)) n ∧ ∃ (k : Nat) (b : Nat → Bool), k < needN rec.length ∧ ∀ x, secD (onD (putD j d rec)) x = if j.at_ ≤ x ∧ x < j.at_ + k ∧ b (x - j.at_) = true then secS j.next rec (x - j.at_) else secD d x := by
  have hl : j.at_ + needN rec.length ≤ d.laid.length := by rw [h.len]; exact hr
  obtain ⟨i, p, hi, hd, hset, e⟩ := wrTo_lost (a := j.at_) (n := j.next) (rec := rec) h.list h.live (needN rec.length) hl hp
  obtain ⟨i1, i2, i3, i4⟩ := wrTo_live (a := j.at_) (n := j.next) (rec := rec) h.list i (by omega) hd
  have e2 : putD j d rec = { (wrTo d j.at_ j.next rec i) with list := [], set := false, left := 0, pick := 0, dead := true, laid := layTo (recL j.at_ j.next rec i) (bitAt p) d.laid i } := by
    unfold putD; rw [e]; unfold loseD; rw [if_neg (by rw [hd]; decide), i1, i2, recL_len]
  have hok : (putD j d rec).Ok := wrTo_ok h.ok _ _ _ _
  refine ⟨by unfold flushD; rw [if_pos hp], hset, by rw [e2], ⟨Ok.on hok, by rw [e2]; rfl, rfl, (wrTo_laid d _ _ _ _).trans h.len⟩, i, bitAt p, hi, fun x => ?_⟩
  unfold secD
  rw [e2]
  show (layTo (recL j.at_ j.next rec i) (bitAt p) d.laid i).getD x default = _
  rw [layTo_rec _ _ _ _ _ _ (by omega) x _ (Nat.le_refl _)]
end Go.Proofs.Ytlkeailgccbmbaa

set_option maxRecDepth 100000
set_option maxHeartbeats 1000000
set_option linter.unusedSimpArgs false
set_option linter.unusedVariables false
namespace Go.Proofs.Ytlkeailgccbmbaa
open Go.Abs
attribute [local irreducible] C X CC Y CV CW binK litK AppK PureC PureCV againK loopV rangeV allK ifK got onB condK V stepsK planK opK firstK seeE keepsK
theorem allGo_congr {d d' : Dev} {n a num : Nat} (h : Flat d n) (h' : Flat d' n) : ∀ k, a + k < n → (∀ x, a ≤ x → x ≤ a + k → secD d' x = secD d x) → allGo d' a num k = allGo d a num k
  | 0, _, _ => rfl
  | k + 1, hk, hs => by
    unfold allGo
    rw [allGo_congr h h' k (by omega) fun x h1 h2 => hs x h1 (by omega)]
    unfold goOk
    rw [h.readE (by omega), h'.readE (by omega), h.readS, h'.readS, h.num (by omega), h'.num (by omega), hs (a + (k + 1)) (by omega) (by omega)]
theorem recTo_congr {d d' : Dev} {n a : Nat} (h : Flat d n) (h' : Flat d' n) : ∀ k, (∀ x, a ≤ x → x ≤ a + k → secD d' x = secD d x) → recTo d' a k = recTo d a k
  | 0, hs => by unfold recTo; rw [h.readS, h'.readS, hs a (by omega) (by omega)]
  | k + 1, hs => by
    unfold recTo
    rw [recTo_congr h h' k fun x h1 h2 => hs x h1 (by omega), h.readS, h'.readS, hs _ (by omega) (by omega)]
theorem readJ_congr {d d' : Dev} {n e a : Nat} (h : Flat d n) (h' : Flat d' n) (he : e ≤ n) (ha : a < n) (hs : ∀ x, a ≤ x → x < a + needN (lenS (secD d a)) → x < n → secD d' x = secD d x) : readJ e d' a = readJ e d a := by
  have hp := needN_pos (lenS (secD d a))
  have h0 := hs a (by omega) (by omega) ha
  unfold readJ
  rw [h.readE ha, h'.readE ha, h.readS, h'.readS, h.num ha, h'.num ha, h0]
  by_cases hc : kindS (secD d a) = 1 ∧ a + needN (lenS (secD d a)) ≤ e
  · rw [allGo_congr h h' _ (by omega) fun x h1 h2 => hs x h1 (by omega) (by omega), recTo_congr h h' _ fun x h1 h2 => hs x h1 (by omega) (by omega)]
  · rw [if_neg (fun q => hc ⟨q.2.1, q.2.2.1⟩), if_neg (fun q => hc ⟨q.2.1, q.2.2.1⟩)]
theorem readJ_need {d : Dev} {n e a : Nat} (h : Flat d n) (hr : (readJ e d a).2.2.2 = true) : (readJ e d a).2.2.1 = a + needN (lenS (secD d a)) ∧ (readJ e d a).2.1 = numAt d a ∧ (readJ e d a).2.2.1 ≤ e := by
  unfold readJ at hr ⊢
  split at hr
  · rename_i hc
    rw [if_pos hc]
    exact ⟨by rw [← h.readS], rfl, hc.2.2.1⟩
  · cases hr
theorem readJ_new {d : Dev} {n e a num : Nat} {rec : List UInt8} (h : Flat d n) (he : e ≤ n) (hr : a + needN rec.length ≤ e) (hn : num ≤ 4611686018427387904) (hl : rec.length < 4294967296) (hs : ∀ i, i < needN rec.length → secD d (a + i) = secS num rec i) : readJ e d a = (rec, num, a + needN rec.length, true) := by
  have hp := needN_pos rec.length
  have h0 := hs 0 hp
  rw [Nat.add_zero] at h0
  have hnum : ∀ i, i < needN rec.length → numAt d (a + i) = num := fun i hi => by rw [h.num (by omega), hs i hi, num_sec rec i hn]
  have hna := hnum 0 hp
  rw [Nat.add_zero] at hna
  have hgo : ∀ k, k < needN rec.length → allGo d a num k = true := by
    intro k
    induction k with
    | zero => exact fun _ => rfl
    | succ k ih =>
      intro hk
      unfold allGo
      rw [ih (by omega), Bool.true_and]
      unfold goOk
      refine decide_eq_true ⟨h.readE (by omega), ?_, hnum _ hk⟩
      rw [h.readS, hs _ hk, kind_sec, if_neg (by omega)]
  have hrec : ∀ k, k < needN rec.length → recTo d a k = rec.take (47 + 55 * k) ++ List.replicate (47 + 55 * k - rec.length) 0 := by
    intro k
    induction k with
    | zero =>
      intro _
      unfold recTo
      rw [h.readS, h0]
      exact part_sec num rec 0
    | succ k ih =>
      intro hk
      unfold recTo
      rw [ih (by omega), h.readS, hs _ hk, ← rec_next]
      congr 1
      exact part_sec num rec (k + 1)
  have hlen : lenS (readS d a) = rec.length := by rw [h.readS, h0, len_sec _ _ hl]
  have hfull : rec.length ≤ 47 + 55 * (needN rec.length - 1) := need_room (n := rec.length) (k := needN rec.length - 1) (by omega)
  have hw : recTo d a (needN rec.length - 1) = rec ++ List.replicate (47 + 55 * (needN rec.length - 1) - rec.length) 0 := by
    rw [hrec _ (by omega), List.take_of_length_le hfull]
  unfold readJ
  rw [hlen, hna, hw, if_pos ⟨h.readE (by omega), by rw [h.readS, h0, kind_sec]; rfl, hr, hgo _ (by omega)⟩, List.take_append_of_le_length (Nat.le_refl _), List.take_length]
  have : wantS (readS d a) = sumN num rec := by rw [h.readS, h0, want_sec]
  rw [this, beq_self_eq_true]
def Chain (e : Nat) (d : Dev) : List (List UInt8 × Nat) → Nat → Nat → Nat → Nat → Prop
  | [], a, l, a', l' => a' = a ∧ l' = l
  | p :: L, a, l, a', l' => ∃ num, a < e ∧ l ≤ num ∧ readJ e d a = (p.1, num, p.2, true) ∧ Chain e d L p.2 (num + 1) a' l'
def Stop (e : Nat) (d : Dev) (a l : Nat) : Prop := ¬ (a < e ∧ (readJ e d a).2.2.2 = true ∧ l ≤ (readJ e d a).2.1)
theorem chain_stand {e : Nat} {d : Dev} : ∀ (L : List (List UInt8 × Nat)) (a l a' l' : Nat), Chain e d L a l a' l' → Stop e d a' l' → stand e d e a l = L
  | [], a, l, a', l', h, hs => by obtain ⟨rfl, rfl⟩ := h; exact stand_stop hs
  | p :: L, a, l, a', l', ⟨num, h1, h2, h3, h4⟩, hs => by
    rw [stand_step (by rw [h3]; exact ⟨h1, rfl, h2⟩), h3]
    show (p.1, p.2) :: stand e d e p.2 (num + 1) = _
    rw [chain_stand L _ _ _ _ h4 hs]
theorem stand_chain {e : Nat} {d : Dev} : ∀ (f a l : Nat), e ≤ a + f → ∃ a' l', Chain e d (stand e d f a l) a l a' l' ∧ Stop e d a' l'
  | 0, a, l, h => ⟨a, l, ⟨rfl, rfl⟩, fun q => by omega⟩
  | f + 1, a, l, h => by
    unfold stand
    by_cases hc : a < e ∧ (readJ e d a).2.2.2 = true ∧ l ≤ (readJ e d a).2.1
    · rw [if_pos hc]
      have ho := readJ_on hc.2.1
      obtain ⟨a', l', h1, h2⟩ := stand_chain (e := e) (d := d) f (readJ e d a).2.2.1 ((readJ e d a).2.1 + 1) (by omega)
      exact ⟨a', l', ⟨(readJ e d a).2.1, hc.1, hc.2.2, by rw [← hc.2.1], h1⟩, h2⟩
    · rw [if_neg hc]
      exact ⟨a, l, ⟨rfl, rfl⟩, hc⟩
theorem chain_snoc {e : Nat} {d : Dev} : ∀ (L : List (List UInt8 × Nat)) (a l a' l' num b : Nat) (r : List UInt8), Chain e d L a l a' l' → a' < e → l' ≤ num → readJ e d a' = (r, num, b, true) → Chain e d (L ++ [(r, b)]) a l b (num + 1)
  | [], a, l, a', l', num, b, r, ⟨h1, h2⟩, h3, h4, h5 => by subst h1 h2; exact ⟨num, h3, h4, h5, rfl, rfl⟩
  | p :: L, a, l, a', l', num, b, r, ⟨n1, h1, h2, h3, h4⟩, h5, h6, h7 => ⟨n1, h1, h2, h3, chain_snoc L _ _ _ _ num b r h4 h5 h6 h7⟩
theorem chain_le {e : Nat} {d : Dev} : ∀ (L : List (List UInt8 × Nat)) (a l a' l' : Nat), Chain e d L a l a' l' → a ≤ a' ∧ (a' ≤ e ∨ a' = a)
  | [], a, l, a', l', ⟨h1, _⟩ => by omega
  | p :: L, a, l, a', l', ⟨num, h1, h2, h3, h4⟩ => by
    have h5 := chain_le L _ _ _ _ h4
    have h6 := readJ_on (e := e) (d := d) (a := a) (by rw [h3])
    rw [h3] at h6
    simp only at h6
    omega
theorem chain_congr {e n : Nat} {d d' : Dev} (h : Flat d n) (h' : Flat d' n) (he : e ≤ n) : ∀ (L : List (List UInt8 × Nat)) (a l a' l' : Nat), Chain e d L a l a' l' → (∀ x, a ≤ x → x < a' → secD d' x = secD d x) → Chain e d' L a l a' l'
  | [], a, l, a', l', hc, _ => hc
  | p :: L, a, l, a', l', ⟨num, h1, h2, h3, h4⟩, hs => by
    have h5 := chain_le L _ _ _ _ h4
    have h6 := readJ_on (e := e) (d := d) (a := a) (by rw [h3])
    have h7 := readJ_need (e := e) (a := a) h (by rw [h3])
    rw [h3] at h6 h7
    simp only at h6 h7
    refine ⟨num, h1, h2, ?_, chain_congr h h' he L _ _ _ _ h4 fun x q1 q2 => hs x (by omega) q2⟩
    rw [readJ_congr h h' he (by omega) fun x q1 q2 q3 => hs x q1 (by omega), h3]
theorem chain_at {e : Nat} {d : Dev} : ∀ (L : List (List UInt8 × Nat)) (a l a' l' : Nat), Chain e d L a l a' l' → atTo L a L.length = a'
  | [], a, l, a', l', ⟨h1, _⟩ => h1.symm
  | [p], a, l, a', l', ⟨num, _, _, _, h1, _⟩ => h1.symm
  | p :: q :: L, a, l, a', l', ⟨num, _, _, _, h4⟩ => by
    have := chain_at (q :: L) _ _ _ _ h4
    rw [← this]
    simp [atTo]
theorem chain_num {e n : Nat} {d : Dev} (h : Flat d n) (he : e ≤ n) (N : Nat) : ∀ (L : List (List UInt8 × Nat)) (a l a' l' : Nat), Chain e d L a l a' l' → (∀ x, a ≤ x → x < e → numAt d x < N) → l ≤ N → l' ≤ N
  | [], a, l, a', l', ⟨_, h1⟩, _, h2 => by omega
  | p :: L, a, l, a', l', ⟨num, h1, h2, h3, h4⟩, hs, _ => by
    have h6 := readJ_on (e := e) (d := d) (a := a) (by rw [h3])
    have h7 := readJ_need (e := e) (a := a) h (by rw [h3])
    rw [h3] at h6 h7
    simp only at h6 h7
    have := hs a (Nat.le_refl _) h1
    exact chain_num h he N L _ _ _ _ h4 (fun x q1 q2 => hs x (by omega) q2) (by omega)
theorem nextTo_gt (d : Dev) (fr first : Nat) : ∀ k, first ≤ nextTo d fr first k ∧ ∀ x, fr ≤ x → x < fr + k → numAt d x < nextTo d fr first k
  | 0 => ⟨Nat.le_refl _, fun x h1 h2 => by omega⟩
  | k + 1 => by
    obtain ⟨h1, h2⟩ := nextTo_gt d fr first k
    unfold nextTo
    refine ⟨by omega, fun x q1 q2 => ?_⟩
    by_cases hx : x < fr + k
    · have := h2 x q1 hx; omega
    · have e : x = fr + k := by omega
      rw [e]; omega
structure JInv (d : Dev) (j : Jour) (n first : Nat) (L : List (List UInt8 × Nat)) : Prop where
  flat : Flat d n
  live : j.dead = false
  endn : j.end_ ≤ n
  frat : j.from_ ≤ j.at_
  aten : j.at_ ≤ j.end_
  next : j.next ≤ 4611686018427387905
  nums : ∀ x, j.from_ ≤ x → x < j.end_ → numAt d x < j.next
  row : ∃ l, l ≤ j.next ∧ Chain j.end_ d L j.from_ first j.at_ l ∧ Stop j.end_ d j.at_ l
theorem JInv.stand {d : Dev} {j : Jour} {n first : Nat} {L : List (List UInt8 × Nat)} (h : JInv d j n first L) : stand j.end_ d j.end_ j.from_ first = L := by
  obtain ⟨l, h1, h2, h3⟩ := h.row
  exact chain_stand _ _ _ _ _ h2 h3
theorem open_inv {d : Dev} {n fr cnt first : Nat} (h : Flat d n) (hr : fr + cnt ≤ n) (hf : first ≤ 4611686018427387904) : JInv d (openJ d fr cnt first) n first (Go.Proofs.Ytlkeailgccbmbaa.stand (fr + cnt) d (fr + cnt) fr first) := by
  obtain ⟨g1, g2⟩ := nextTo_gt d fr first cnt
  obtain ⟨a', l', h1, h2⟩ := stand_chain (d := d) (e := fr + cnt) (fr + cnt) fr first (by omega)
  have h3 := chain_at _ _ _ _ _ h1
  have h4 := chain_le _ _ _ _ _ h1
  have h5 := chain_num h hr (nextTo d fr first cnt) _ _ _ _ _ h1 g2 g1
  refine ⟨h, rfl, hr, ?_, ?_, nextTo_le d (by omega) cnt, g2, l', h5, ?_, ?_⟩
  · show fr ≤ atTo _ _ _; rw [h3]; exact h4.1
  · show atTo _ _ _ ≤ fr + cnt; rw [h3]; omega
  · show Chain (fr + cnt) d _ fr first (atTo _ _ _) l'; rw [h3]; exact h1
  · show Stop (fr + cnt) d (atTo _ _ _) l'; rw [h3]; exact h2
theorem JInv.done {d : Dev} {j : Jour} {n first : Nat} {L : List (List UInt8 × Nat)} (h : JInv d j n first L) (rec : List UInt8) (hl : rec.length < 4294967296) (hf : ¬ fullJ j rec) (hp : (putD j d rec).dead = false) :
    JInv (appD j d rec) (appJ j d rec) n first (L ++ [(rec, j.at_ + needN rec.length)]) ∧ appE j d rec = 0 ∧ (appD j d rec).set = d.set := by
  have hno : ¬ (j.dead = true ∨ d.dead = true) := by rw [h.live, h.flat.live]; decide
  have e1 : appD j d rec = flushD (putD j d rec) := by unfold appD; rw [if_neg hno, if_neg hf]
  have e2 : appJ j d rec = { j with at_ := j.at_ + needN rec.length, next := j.next + 1 } := by unfold appJ; rw [if_neg hno, if_neg hf, hp]; rfl
  have e3 : appE j d rec = 0 := by unfold appE; rw [if_neg hno, if_neg hf, hp]; rfl
  have hf' : ¬ (4611686018427387904 < j.next ∨ j.end_ < j.at_ + needN rec.length) := hf
  have hr : j.at_ + needN rec.length ≤ j.end_ := by omega
  have hn : j.next ≤ 4611686018427387904 := by omega
  obtain ⟨i1, i2, i3⟩ := app_done h.flat (Nat.le_trans hr h.endn) hp
  rw [e1, e2, e3]
  refine ⟨?_, rfl, i2⟩
  generalize flushD (putD j d rec) = d' at i1 i2 i3
  obtain ⟨l, r1, r2, r3⟩ := h.row
  have hpos := needN_pos rec.length
  have hnew : readJ j.end_ d' j.at_ = (rec, j.next, j.at_ + needN rec.length, true) := readJ_new i1 h.endn hr hn hl fun i hi => by
    rw [i3, if_pos (by omega), Nat.add_sub_cancel_left]
  have hc : Chain j.end_ d' L j.from_ first j.at_ l := chain_congr h.flat i1 h.endn L _ _ _ _ r2 fun x q1 q2 => by rw [i3, if_neg (fun q => by omega)]
  have hnums : ∀ x, j.from_ ≤ x → x < j.end_ → numAt d' x < j.next + 1 := fun x q1 q2 => by
    have hx : x < n := Nat.lt_of_lt_of_le q2 h.endn
    rw [i1.num hx, i3]
    split
    · rw [num_sec rec _ hn]; omega
    · rw [← h.flat.num hx]; have := h.nums x q1 q2; omega
  refine ⟨i1, h.live, h.endn, Nat.le_trans h.frat (Nat.le_add_right _ _), hr, by show j.next + 1 ≤ _; omega, hnums, j.next + 1, Nat.le_refl _, chain_snoc (e := j.end_) L _ _ _ _ j.next _ rec hc (by omega) r1 hnew, ?_⟩
  rintro ⟨q1, q2, q3⟩
  replace q1 : j.at_ + needN rec.length < j.end_ := q1
  replace q2 : (readJ j.end_ d' (j.at_ + needN rec.length)).2.2.2 = true := q2
  replace q3 : j.next + 1 ≤ (readJ j.end_ d' (j.at_ + needN rec.length)).2.1 := q3
  have h1 := readJ_need (e := j.end_) i1 q2
  have h2 := hnums (j.at_ + needN rec.length) (by have := h.frat; omega) q1
  rw [h1.2.1] at q3
  omega
theorem JInv.full {d : Dev} {j : Jour} {n first : Nat} {L : List (List UInt8 × Nat)} (h : JInv d j n first L) (rec : List UInt8) (hf : fullJ j rec) : appD j d rec = d ∧ appJ j d rec = j ∧ appE j d rec = 21 := by
  have hno : ¬ (j.dead = true ∨ d.dead = true) := by rw [h.live, h.flat.live]; decide
  exact ⟨by unfold appD; rw [if_neg hno, if_pos hf], by unfold appJ; rw [if_neg hno, if_pos hf], by unfold appE; rw [if_neg hno, if_pos hf]⟩
end Go.Proofs.Ytlkeailgccbmbaa

set_option maxRecDepth 100000
set_option maxHeartbeats 1000000
set_option linter.unusedSimpArgs false
set_option linter.unusedVariables false
namespace Go.Proofs.Ytlkeailgccbmbaa
open Go.Abs
attribute [local irreducible] C X CC Y CV CW binK litK AppK PureC PureCV againK loopV rangeV allK ifK got onB condK V stepsK planK opK firstK seeE keepsK
theorem ix_22 (l : List ByteArray) (x : Bool) (kk : IntKind) (k : Int) (h0 : 0 ≤ k) (h1 : k < l.length) : indexAddrA Try.prog 22 (.vs (l.map txC) x) (.val (.int kk k)) = some (.vp (txC (l.getD k.toNat default)) 0) := index_vs txC ti_22 rfl ti_9 (fun _ => rfl) l x kk k h0 h1
theorem tx_g0 (s : ByteArray) : (txC s)[0]? = some (.val (.string s)) := rfl
theorem F13 (a b : List ByteArray) (x y : Bool) (ha : a.length ≤ 140737488355328) : F Try.prog 13 [.vs (a.map txC) x, .vs (b.map txC) y] (.val (.bool (decide (a = b)))) := by
  refine F13_of ?_
  unfold k13
  by_cases hl : a.length = b.length
  · repeat' first
      | simp -dsimp (disch := omega) only [↓rulesA, rulesB, rulesC, Int.reduceLT, nth, upd, put, storeN, AV.one, Nat.reduceBEq, Nat.reduceBNe, Int.reduceBEq, Int.reduceBNe, Int.reduceLE, Int.reduceEq, Int.reduceMod, Int.reduceNeg, boolBin, strBin, intBin, unA, fillA, ne_eq, reduceCtorEq, Nat.reduceAdd, Nat.reduceSub, Nat.reduceLeDiff, Nat.reduceLT, Nat.reduceEqDiff, Int.reduceToNat, eq_self, rulesT, rulesD, *]
      | (refine allK_intro fun n hn => ?_; try simp only [fresh_set] at hn)
      | (refine ifK_intro (fun h => ?_) (fun h => ?_) <;> (try simp only [rulesE] at h) <;> try (exfalso; (try simp only [rulesF] at h); omega))
      | (refine keeps_sub (Mem.sub_set ?_) ?_; focus (simp [Mem.set_at, nomem, *]; done))
    refine loop_intro (fun j env m => ∃ i : Nat, i ≤ a.length ∧ j = a.length - i ∧ m = nomem ∧ a.take i = b.take i ∧ env.length = 26 ∧ nth env 0 = .vs (a.map txC) x ∧ nth env 1 = .vs (b.map txC) y ∧ nth env 12 = .val (.int .i64 b.length) ∧ nth env 13 = .val (.int .i64 i)) a.length _ (Mem.sub.refl _) ⟨0, by omega, rfl, rfl, rfl, rfl, rfl, rfl, rfl, rfl⟩ ?_
    rintro j env m ⟨i, hi, rfl, rfl, ht, hlen, e0, e1, e12, e13⟩
    replace ht : Kept _ := ht
    repeat' first
      | simp -dsimp (disch := omega) only [↓rulesA, rulesB, rulesC, Int.reduceLT, nth, upd, put, storeN, AV.one, Nat.reduceBEq, Nat.reduceBNe, Int.reduceBEq, Int.reduceBNe, Int.reduceLE, Int.reduceEq, Int.reduceMod, Int.reduceNeg, boolBin, strBin, intBin, unA, fillA, ne_eq, reduceCtorEq, Nat.reduceAdd, Nat.reduceSub, Nat.reduceLeDiff, Nat.reduceLT, Nat.reduceEqDiff, Int.reduceToNat, eq_self, rulesT, rulesD, ix_22, tx_g0, text_neq, *]
      | (refine allK_intro fun n hn => ?_; try simp only [fresh_set] at hn)
      | (refine ifK_intro (fun h => ?_) (fun h => ?_) <;> (try simp only [rulesE] at h) <;> try (exfalso; (try simp only [rulesF] at h); omega))
      | (refine keeps_sub (Mem.sub_set ?_) ?_; focus (simp [Mem.set_at, nomem, *]; done))
    all_goals try rw [text_inj] at h
    · have hne : a.getD i default ≠ b.getD i default := fun e => by rw [e] at h; simp at h
      rw [decide_eq_false fun e => hne (by rw [e])]
      exact .val
    · have heq : a.getD i default = b.getD i default := by simpa using h
      have ht' : a.take (i + 1) = b.take (i + 1) := by rw [tx_next a i (by omega), tx_next b i (by omega), heq, (ht : _ = _)]
      clear h
      refine again_intro (b.length - (i + 1)) (by omega) _ (Mem.sub.refl _) ⟨i + 1, by omega, by omega, rfl, ht', ?_, ?_, ?_, ?_, ?_⟩
      all_goals try (simp (disch := omega) only [nth_upd, pickB_true, pickB_false, inB_lt, upd_len, cast_succ, Int.cast_ofNat_Int, Nat.reduceBEq, beq_self_eq_true, reduceCtorEq, *]; done)
    · have hi' : i = b.length := by omega
      have e : a = b := by
        have ht' : a.take i = b.take i := ht
        rw [List.take_of_length_le (by omega), List.take_of_length_le (by omega)] at ht'
        exact ht'
      rw [decide_eq_true e]
      exact .val
  · have e : ¬ a = b := fun h => hl (congrArg _ h)
    rw [decide_eq_false e]
    have hne : ((a.length : Int) != b.length) = true := by rw [bne_iff_ne]; omega
    repeat' first
      | simp -dsimp (disch := omega) only [↓rulesA, rulesB, rulesC, Int.reduceLT, nth, upd, put, storeN, AV.one, Nat.reduceBEq, Nat.reduceBNe, Int.reduceBEq, Int.reduceBNe, Int.reduceLE, Int.reduceEq, Int.reduceMod, Int.reduceNeg, boolBin, strBin, intBin, unA, fillA, ne_eq, reduceCtorEq, Nat.reduceAdd, Nat.reduceSub, Nat.reduceLeDiff, Nat.reduceLT, Nat.reduceEqDiff, Int.reduceToNat, eq_self, rulesT, rulesD, *]
      | (refine allK_intro fun n hn => ?_; try simp only [fresh_set] at hn)
      | (refine ifK_intro (fun h => ?_) (fun h => ?_) <;> (try simp only [rulesE] at h) <;> try (exfalso; (try simp only [rulesF] at h); omega))
      | (refine keeps_sub (Mem.sub_set ?_) ?_; focus (simp [Mem.set_at, nomem, *]; done))
    exact .val
theorem new_flat {n : Nat} (h1 : 1 ≤ n) (h2 : n ≤ 4096) : Flat (newDev n) n := ⟨newDev_ok h1 h2, rfl, rfl, by simp [newDev]⟩
theorem new_sec0 (n x : Nat) : kindS (secD (newDev n) x) = 0 := by
  have : secD (newDev n) x = Sec.zero ∨ secD (newDev n) x = default := by
    unfold secD newDev
    rw [List.getD_eq_getElem?_getD]
    by_cases hx : x < n
    · exact .inl (by simp [hx])
    · exact .inr (by simp [hx])
  rcases this with e | e <;> rw [e] <;> decide
theorem new_num (n x : Nat) : numAt (newDev n) x = 0 := by
  unfold numAt
  split
  · rename_i h
    have e : readS (newDev n) x = secD (newDev n) x := by unfold Go.Proofs.Ytlkeailgccbmbaa.readS; rw [if_neg (by simp [newDev, findN])]; rfl
    unfold numS
    rw [e, new_sec0, if_pos (by decide)]
  · rfl
theorem new_next (n fr : Nat) : ∀ k, nextTo (newDev n) fr 1 k = 1
  | 0 => rfl
  | k + 1 => by unfold nextTo; rw [new_next n fr k, new_num]; rfl
theorem new_stand {n fr cnt : Nat} (h1 : 1 ≤ n) (h2 : n ≤ 4096) : stand (fr + cnt) (newDev n) (fr + cnt) fr 1 = [] := by
  refine stand_stop ?_
  rintro ⟨_, q, _⟩
  unfold readJ at q
  split at q
  · rename_i hc
    have e : readS (newDev n) fr = secD (newDev n) fr := by unfold Go.Proofs.Ytlkeailgccbmbaa.readS; rw [if_neg (by simp [newDev, findN])]; rfl
    have := hc.2.1
    rw [e, new_sec0] at this; cases this
  · cases q
theorem new_open {n fr cnt : Nat} (h1 : 1 ≤ n) (h2 : n ≤ 4096) : openJ (newDev n) fr cnt 1 = ⟨fr, fr + cnt, fr, 1, false⟩ ∧ openT (newDev n) fr cnt 1 = [] := by
  unfold openJ openT
  rw [new_stand h1 h2, new_next]
  exact ⟨rfl, rfl⟩
theorem new_inv {n fr cnt : Nat} (h1 : 1 ≤ n) (h2 : n ≤ 4096) (h3 : fr + cnt ≤ n) : JInv (newDev n) ⟨fr, fr + cnt, fr, 1, false⟩ n 1 [] := by
  have h := open_inv (first := 1) (new_flat h1 h2) h3 (by decide)
  rw [new_stand h1 h2, (new_open h1 h2).1] at h
  exact h
theorem JInv.alive {d : Dev} {j : Jour} {n first : Nat} {L : List (List UInt8 × Nat)} (h : JInv d j n first L) (rec : List UInt8) (hs : d.set = false) (hf : ¬ fullJ j rec) : (putD j d rec).dead = false := by
  cases hp : (putD j d rec).dead with
  | false => rfl
  | true =>
    have hf' : ¬ (4611686018427387904 < j.next ∨ j.end_ < j.at_ + needN rec.length) := hf
    have := app_lost h.flat (n := n) (rec := rec) (Nat.le_trans (by omega) h.endn) hp
    rw [hs] at this; cases this.2.1
structure Few (d : Dev) (c : Nat) : Prop where
  w : d.w ≤ c
  f : d.f ≤ c
theorem app_few {d : Dev} {w : Nat} (h : Few d w) (j : Jour) (rec : List UInt8) (hr : j.end_ ≤ 4096) : Few (appD j d rec) (w + 4096) := by
  unfold appD
  split
  · exact ⟨Nat.le_trans h.w (Nat.le_add_right _ _), Nat.le_trans h.f (Nat.le_add_right _ _)⟩
  split
  · exact ⟨Nat.le_trans h.w (Nat.le_add_right _ _), Nat.le_trans h.f (Nat.le_add_right _ _)⟩
  rename_i hf
  have hf' : ¬ (4611686018427387904 < j.next ∨ j.end_ < j.at_ + needN rec.length) := hf
  have h1 := wrTo_w d j.at_ j.next rec (needN rec.length)
  have h2 := wrTo_f d j.at_ j.next rec (needN rec.length)
  have h3 := h.w
  have h4 := h.f
  unfold flushD putD
  split
  · exact ⟨by omega, by omega⟩
  · refine ⟨?_, ?_⟩
    · show (wrTo d j.at_ j.next rec (needN rec.length)).w ≤ _; omega
    · show (wrTo d j.at_ j.next rec (needN rec.length)).f + 1 ≤ _; omega
end Go.Proofs.Ytlkeailgccbmbaa

set_option maxRecDepth 100000
set_option maxHeartbeats 1000000
set_option linter.unusedSimpArgs false
set_option linter.unusedVariables false
namespace Go.Proofs.Ytlkeailgccbmbaa
open Go.Abs
attribute [local irreducible] C X CC Y CV CW binK litK AppK PureC PureCV againK loopV rangeV allK ifK got onB condK V stepsK planK opK firstK seeE keepsK
def longB : List UInt8 := List.replicate 50 0
theorem conv_long {m : Mem} {n : Nat} (h : m n = some (.cells false 5 (longB.map byteC).flatten)) : convA Try.prog m 44 9 (.sl n 0 50 50) = some (.val (.string ⟨longB.toArray⟩)) :=
  conv_own ti_44 rfl ti_9 rfl ti_5 rfl h longB (by rfl) (by rw [row_len1]; decide)
theorem mk_44 : mkSliceA Try.prog 44 (.val (.int .i64 50)) (.val (.int .i64 50)) = some (5, 50, 50, (longB.map byteC).flatten) := by
  simp only [mkSliceA, ti_44, ti_5, z_5]
  rw [if_pos ⟨by decide, by decide, by decide, by decide, rfl, by decide⟩]
  rfl
theorem fl_0 (a b : ByteArray) : ([txC a, txC b].flatten)[0]? = some (.val (.string a)) := rfl
theorem fl_1 (a b : ByteArray) : ([txC a, txC b].flatten)[1 * 1]? = some (.val (.string b)) := rfl
theorem F14 : F Try.prog 14 [] (.val (.bool true)) := by
  have i0 := new_inv (n := 8) (fr := 2) (cnt := 4) (by decide) (by decide) (by decide)
  have c8 := C8 8 (by decide) (by decide)
  refine F14_of ?_
  unfold k14
  repeat' first
    | simp -dsimp (disch := omega) only [↓rulesA, rulesB, rulesC, Int.reduceLT, nth, upd, put, storeN, AV.one, Nat.reduceBEq, Nat.reduceBNe, Int.reduceBEq, Int.reduceBNe, Int.reduceLE, Int.reduceEq, Int.reduceMod, Int.reduceNeg, boolBin, strBin, intBin, unA, fillA, ne_eq, reduceCtorEq, Nat.reduceAdd, Nat.reduceSub, Nat.reduceLeDiff, Nat.reduceLT, Nat.reduceEqDiff, Int.reduceToNat, eq_self, rulesT, rulesD, *]
    | (refine allK_intro fun n hn => ?_; try simp only [fresh_set] at hn)
    | (refine ifK_intro (fun h => ?_) (fun h => ?_) <;> (try simp only [rulesE] at h) <;> try (exfalso; (try simp only [rulesF] at h); omega))
    | (refine keeps_sub (Mem.sub_set ?_) ?_; focus (simp [Mem.set_at, nomem, *]; done))
  refine call_C c8 fun r m1 ⟨N, hr, hat⟩ => ?_
  subst hr
  have c9 := C9_ok (newDev 8) i0.flat.ok.some i0.flat.ok.most (by decide) hat 2 4 1 (by decide) (by decide) (by decide) (by decide) rfl
  rw [(new_open (n := 8) (fr := 2) (cnt := 4) (by decide) (by decide)).1, (new_open (n := 8) (fr := 2) (cnt := 4) (by decide) (by decide)).2] at c9
  repeat' first
    | simp -dsimp (disch := omega) only [↓rulesA, rulesB, rulesC, Int.reduceLT, nth, upd, put, storeN, AV.one, Nat.reduceBEq, Nat.reduceBNe, Int.reduceBEq, Int.reduceBNe, Int.reduceLE, Int.reduceEq, Int.reduceMod, Int.reduceNeg, boolBin, strBin, intBin, unA, fillA, ne_eq, reduceCtorEq, Nat.reduceAdd, Nat.reduceSub, Nat.reduceLeDiff, Nat.reduceLT, Nat.reduceEqDiff, Int.reduceToNat, eq_self, rulesT, rulesD, *]
    | (refine allK_intro fun n hn => ?_; try simp only [fresh_set] at hn)
    | (refine ifK_intro (fun h => ?_) (fun h => ?_) <;> (try simp only [rulesE] at h) <;> try (exfalso; (try simp only [rulesF] at h); omega))
    | (refine keeps_sub (Mem.sub_set ?_) ?_; focus (simp [Mem.set_at, nomem, *]; done))
  refine call_C c9 fun r m2 ⟨NJ, q, hN, hq, hNq, hr, hm⟩ => ?_
  subst hr hm
  repeat' first
    | simp -dsimp (disch := omega) only [↓rulesA, rulesB, rulesC, Int.reduceLT, nth, upd, put, storeN, AV.one, Nat.reduceBEq, Nat.reduceBNe, Int.reduceBEq, Int.reduceBNe, Int.reduceLE, Int.reduceEq, Int.reduceMod, Int.reduceNeg, boolBin, strBin, intBin, unA, fillA, ne_eq, reduceCtorEq, Nat.reduceAdd, Nat.reduceSub, Nat.reduceLeDiff, Nat.reduceLT, Nat.reduceEqDiff, Int.reduceToNat, eq_self, rulesT, rulesD, *]
    | (refine allK_intro fun n hn => ?_; try simp only [fresh_set] at hn)
    | (refine ifK_intro (fun h => ?_) (fun h => ?_) <;> (try simp only [rulesE] at h) <;> try (exfalso; (try simp only [rulesF] at h); omega))
    | (refine keeps_sub (Mem.sub_set ?_) ?_; focus (simp [Mem.set_at, nomem, *]; done))
  have f15 := F15 ⟨2, 6, 2, 1, false⟩ (newDev 8) false false (by decide) (by decide)
  have hs1 := jseen (j := ⟨2, 6, 2, 1, false⟩) (N := NJ) hat (M := ((m1.set NJ (.cells false 36 ((⟨2, 6, 2, 1, false⟩ : Jour).own N))).set q (.cells true 9 [].flatten))) (by ((repeat' first | exact Mem.sub.refl _ | exact nomem_sub _ | refine Mem.set_sub ?_ ?_ | refine Mem.sub_set_new ?_ ?_ | refine Mem.sub_del ?_ ?_) <;> simp [Mem.set_at, Mem.del_at, nomem, *])) (by simp [Mem.set_at, *])
  rw [show roomJ ⟨2, 6, 2, 1, false⟩ = 212 by decide] at f15
  have sh := fun m => text_hi ti_9 rfl m longB .i64 48 (by decide) (by decide)
  have f1 : ¬ fullJ ⟨2, 6, 2, 1, false⟩ [97] := by decide
  have a1 := i0.alive [97] rfl f1
  obtain ⟨i1, x1, s1⟩ := i0.done [97] (by decide) f1 a1
  repeat' first
    | simp -dsimp (disch := omega) only [↓rulesA, rulesB, rulesC, Int.reduceLT, nth, upd, put, storeN, AV.one, Nat.reduceBEq, Nat.reduceBNe, Int.reduceBEq, Int.reduceBNe, Int.reduceLE, Int.reduceEq, Int.reduceMod, Int.reduceNeg, boolBin, strBin, intBin, unA, fillA, ne_eq, reduceCtorEq, Nat.reduceAdd, Nat.reduceSub, Nat.reduceLeDiff, Nat.reduceLT, Nat.reduceEqDiff, Int.reduceToNat, eq_self, rulesT, rulesD, mk_44, *]
    | (refine allK_intro fun n hn => ?_; try simp only [fresh_set] at hn)
    | (refine ifK_intro (fun h => ?_) (fun h => ?_) <;> (try simp only [rulesE] at h) <;> try (exfalso; (try simp only [rulesF] at h); omega))
    | (refine keeps_sub (Mem.sub_set ?_) ?_; focus (simp [Mem.set_at, nomem, *]; done))
    | (refine call_F (f15) (.one hs1) ?_)
    | (refine pure_F (f15) (.one hs1) ?_)
  rw [conv_long (Mem.set_same _ _ _)]
  have c10 := C10 (j := ⟨2, 6, 2, 1, false⟩) (d := newDev 8) ⟨m1, hat, hN, rfl⟩ i0.flat.ok (by decide) (by decide) (by decide) (by decide) (by decide) [97] (by decide)
  rw [x1] at c10
  clear hs1 f15
  repeat' first
    | simp -dsimp (disch := omega) only [↓rulesA, rulesB, rulesC, Int.reduceLT, nth, upd, put, storeN, AV.one, Nat.reduceBEq, Nat.reduceBNe, Int.reduceBEq, Int.reduceBNe, Int.reduceLE, Int.reduceEq, Int.reduceMod, Int.reduceNeg, boolBin, strBin, intBin, unA, fillA, ne_eq, reduceCtorEq, Nat.reduceAdd, Nat.reduceSub, Nat.reduceLeDiff, Nat.reduceLT, Nat.reduceEqDiff, Int.reduceToNat, eq_self, rulesT, rulesD, *]
    | (refine allK_intro fun n hn => ?_; try simp only [fresh_set] at hn)
    | (refine ifK_intro (fun h => ?_) (fun h => ?_) <;> (try simp only [rulesE] at h) <;> try (exfalso; (try simp only [rulesF] at h); omega))
    | (refine keeps_sub (Mem.sub_set ?_) ?_; focus (simp [Mem.set_at, nomem, *]; done))
  refine call_at c10 (by ((repeat' first | exact Mem.sub.refl _ | exact nomem_sub _ | refine Mem.set_sub ?_ ?_ | refine Mem.sub_set_new ?_ ?_ | refine Mem.sub_del ?_ ?_) <;> simp [Mem.set_at, Mem.del_at, nomem, *])) fun r m2 M2 ⟨hr, hj2⟩ s2 _ => ?_
  subst hr
  have w1 : Few (appD ⟨2, 6, 2, 1, false⟩ (newDev 8) [97]) 4096 := app_few (w := 0) ⟨Nat.le_refl _, Nat.le_refl _⟩ _ _ (by decide)
  have e1 : appJ ⟨2, 6, 2, 1, false⟩ (newDev 8) [97] = ⟨2, 6, 3, 2, false⟩ := by
    unfold appJ; rw [if_neg (by decide), if_neg (by decide), a1]; rfl
  rw [e1] at hj2 i1
  generalize appD ⟨2, 6, 2, 1, false⟩ (newDev 8) [97] = d1 at *
  have f2 : ¬ fullJ ⟨2, 6, 3, 2, false⟩ longB := by decide
  have a2 := i1.alive longB s1 f2
  obtain ⟨i2, x2, s2'⟩ := i1.done longB (by decide) f2 a2
  have e2 : appJ ⟨2, 6, 3, 2, false⟩ d1 longB = ⟨2, 6, 5, 3, false⟩ := by
    unfold appJ; rw [if_neg (by rw [i1.flat.live]; decide), if_neg (by decide), a2]; rfl
  have w2 := app_few w1 ⟨2, 6, 3, 2, false⟩ longB (by decide)
  have c10b := C10 hj2 i1.flat.ok (by rw [i1.flat.len]; decide) (by decide) (by decide) (by have := w1.w; omega) (by have := w1.f; omega) longB (by decide)
  rw [x2, e2] at c10b
  rw [e2] at i2
  generalize appD ⟨2, 6, 3, 2, false⟩ d1 longB = d2 at *
  clear c10 hat hN hq
  repeat' first
    | simp -dsimp (disch := omega) only [↓rulesA, rulesB, rulesC, Int.reduceLT, nth, upd, put, storeN, AV.one, Nat.reduceBEq, Nat.reduceBNe, Int.reduceBEq, Int.reduceBNe, Int.reduceLE, Int.reduceEq, Int.reduceMod, Int.reduceNeg, boolBin, strBin, intBin, unA, fillA, ne_eq, reduceCtorEq, Nat.reduceAdd, Nat.reduceSub, Nat.reduceLeDiff, Nat.reduceLT, Nat.reduceEqDiff, Int.reduceToNat, eq_self, rulesT, rulesD, *]
    | (refine allK_intro fun n hn => ?_; try simp only [fresh_set] at hn)
    | (refine ifK_intro (fun h => ?_) (fun h => ?_) <;> (try simp only [rulesE] at h) <;> try (exfalso; (try simp only [rulesF] at h); omega))
    | (refine keeps_sub (Mem.sub_set ?_) ?_; focus (simp [Mem.set_at, nomem, *]; done))
    | (refine keeps_stab ?_ ?_; focus ((repeat' first | exact stabK_nil _ _ | refine stabK_cons ?_ ?_ | (simp (disch := omega) only [quietA, Option.isSome_some, ↓rulesA, rulesB, rulesC, Int.reduceLT, nth, upd, put, storeN, AV.one, Nat.reduceBEq, Nat.reduceBNe, Int.reduceBEq, Int.reduceBNe, Int.reduceLE, Int.reduceEq, Int.reduceMod, Int.reduceNeg, boolBin, strBin, intBin, unA, fillA, ne_eq, reduceCtorEq, Nat.reduceAdd, Nat.reduceSub, Nat.reduceLeDiff, Nat.reduceLT, Nat.reduceEqDiff, Int.reduceToNat, eq_self, rulesT, rulesD, *]; done)); done))
  refine call_at c10b s2 fun r m3 M3 ⟨hr, hj3⟩ s3 _ => ?_
  subst hr
  have f3 : fullJ ⟨2, 6, 5, 3, false⟩ (longB.take 48) := by decide
  obtain ⟨y1, y2, y3⟩ := i2.full (longB.take 48) f3
  have c10c := C10 hj3 i2.flat.ok (by rw [i2.flat.len]; decide) (by decide) (by decide) (by have := w2.w; omega) (by have := w2.f; omega) (longB.take 48) (by decide)
  rw [y1, y2, y3] at c10c
  clear c10b hj2 y1 y2 y3
  repeat' first
    | simp -dsimp (disch := omega) only [↓rulesA, rulesB, rulesC, Int.reduceLT, nth, upd, put, storeN, AV.one, Nat.reduceBEq, Nat.reduceBNe, Int.reduceBEq, Int.reduceBNe, Int.reduceLE, Int.reduceEq, Int.reduceMod, Int.reduceNeg, boolBin, strBin, intBin, unA, fillA, ne_eq, reduceCtorEq, Nat.reduceAdd, Nat.reduceSub, Nat.reduceLeDiff, Nat.reduceLT, Nat.reduceEqDiff, Int.reduceToNat, eq_self, rulesT, rulesD, *]
    | (refine allK_intro fun n hn => ?_; try simp only [fresh_set] at hn)
    | (refine ifK_intro (fun h => ?_) (fun h => ?_) <;> (try simp only [rulesE] at h) <;> try (exfalso; (try simp only [rulesF] at h); omega))
    | (refine keeps_sub (Mem.sub_set ?_) ?_; focus (simp [Mem.set_at, nomem, *]; done))
    | (refine keeps_stab ?_ ?_; focus ((repeat' first | exact stabK_nil _ _ | refine stabK_cons ?_ ?_ | (simp (disch := omega) only [quietA, Option.isSome_some, ↓rulesA, rulesB, rulesC, Int.reduceLT, nth, upd, put, storeN, AV.one, Nat.reduceBEq, Nat.reduceBNe, Int.reduceBEq, Int.reduceBNe, Int.reduceLE, Int.reduceEq, Int.reduceMod, Int.reduceNeg, boolBin, strBin, intBin, unA, fillA, ne_eq, reduceCtorEq, Nat.reduceAdd, Nat.reduceSub, Nat.reduceLeDiff, Nat.reduceLT, Nat.reduceEqDiff, Int.reduceToNat, eq_self, rulesT, rulesD, *]; done)); done))
  refine call_at c10c s3 fun r m4 M4 ⟨hr, hj4⟩ s4 _ => ?_
  subst hr
  obtain ⟨md, hmd, hNJ, hm4⟩ := hj4
  repeat' first
    | simp -dsimp (disch := omega) only [↓rulesA, rulesB, rulesC, Int.reduceLT, nth, upd, put, storeN, AV.one, Nat.reduceBEq, Nat.reduceBNe, Int.reduceBEq, Int.reduceBNe, Int.reduceLE, Int.reduceEq, Int.reduceMod, Int.reduceNeg, boolBin, strBin, intBin, unA, fillA, ne_eq, reduceCtorEq, Nat.reduceAdd, Nat.reduceSub, Nat.reduceLeDiff, Nat.reduceLT, Nat.reduceEqDiff, Int.reduceToNat, eq_self, rulesT, rulesD, *]
    | (refine allK_intro fun n hn => ?_; try simp only [fresh_set] at hn)
    | (refine ifK_intro (fun h => ?_) (fun h => ?_) <;> (try simp only [rulesE] at h) <;> try (exfalso; (try simp only [rulesF] at h); omega))
    | (refine keeps_sub (Mem.sub_set ?_) ?_; focus (simp [Mem.set_at, nomem, *]; done))
    | (refine keeps_stab ?_ ?_; focus ((repeat' first | exact stabK_nil _ _ | refine stabK_cons ?_ ?_ | (simp (disch := omega) only [quietA, Option.isSome_some, ↓rulesA, rulesB, rulesC, Int.reduceLT, nth, upd, put, storeN, AV.one, Nat.reduceBEq, Nat.reduceBNe, Int.reduceBEq, Int.reduceBNe, Int.reduceLE, Int.reduceEq, Int.reduceMod, Int.reduceNeg, boolBin, strBin, intBin, unA, fillA, ne_eq, reduceCtorEq, Nat.reduceAdd, Nat.reduceSub, Nat.reduceLeDiff, Nat.reduceLT, Nat.reduceEqDiff, Int.reduceToNat, eq_self, rulesT, rulesD, *]; done)); done))
  have hst : openT d2 2 4 1 = [⟨[97].toArray⟩, ⟨longB.toArray⟩] := by
    have h : stand 6 d2 6 2 1 = _ := i2.stand
    unfold openT; rw [h]; rfl
  have c9b := C9_ok d2 i2.flat.ok.some i2.flat.ok.most (by rw [i2.flat.list]; decide) hmd 2 4 1 (by decide) (by rw [i2.flat.len]; decide) (by decide) (by decide) i2.flat.live
  rw [hst] at c9b
  clear hst c10c
  subst hm4
  have hsd : md.sub M4 := (Mem.sub_set hNJ).trans s4
  have hM4 : M4 NJ = some (.cells false 36 ((⟨2, 6, 5, 3, false⟩ : Jour).own N)) := s4 _ _ (Mem.set_same _ _ _)
  refine call_at c9b hsd fun r m5 M5 ⟨N5, q5, g1, g2, g3, hr, hm5⟩ s5 l5 => ?_
  subst hr
  obtain ⟨_, hM5⟩ := l5 NJ _ hNJ hM4
  have hq5 : M5 q5 = some (.cells true 9 ([(⟨[97].toArray⟩ : ByteArray), ⟨longB.toArray⟩].map txC).flatten) := s5 _ _ (by rw [hm5]; exact Mem.set_same _ _ _)
  have hsd5 : md.sub M5 := by
    refine Mem.sub.trans ?_ s5
    rw [hm5]
    ((repeat' first | exact Mem.sub.refl _ | exact nomem_sub _ | refine Mem.set_sub ?_ ?_ | refine Mem.sub_set_new ?_ ?_ | refine Mem.sub_del ?_ ?_) <;> simp [Mem.set_at, Mem.del_at, nomem, *])
  have hs5 := jseen (j := ⟨2, 6, 5, 3, false⟩) (N := NJ) hmd hsd5 hM5
  have f15 := F15 ⟨2, 6, 5, 3, false⟩ d2 false false (by decide) (by decide)
  rw [show roomJ ⟨2, 6, 5, 3, false⟩ = 47 by decide] at f15
  have n2 := F29 102 (by decide)
  have n3 := F29 103 (by decide)
  rw [show needN 102 = 2 by decide] at n2
  rw [show needN 103 = 3 by decide] at n3
  clear l5 hm5 hsd5 c9b hM4 hsd s5 hj3
  repeat' first
    | simp -dsimp (disch := omega) only [↓rulesA, rulesB, rulesC, Int.reduceLT, nth, upd, put, storeN, AV.one, Nat.reduceBEq, Nat.reduceBNe, Int.reduceBEq, Int.reduceBNe, Int.reduceLE, Int.reduceEq, Int.reduceMod, Int.reduceNeg, boolBin, strBin, intBin, unA, fillA, ne_eq, reduceCtorEq, Nat.reduceAdd, Nat.reduceSub, Nat.reduceLeDiff, Nat.reduceLT, Nat.reduceEqDiff, Int.reduceToNat, eq_self, rulesT, rulesD, text_inj, fl_0, fl_1, decide_true, beq_self_eq_true, *]
    | (refine allK_intro fun n hn => ?_; try simp only [fresh_set] at hn)
    | (refine ifK_intro (fun h => ?_) (fun h => ?_) <;> (try simp only [rulesE] at h) <;> try (exfalso; (try simp only [rulesF] at h); omega))
    | (refine keeps_sub (Mem.sub_set ?_) ?_; focus (simp [Mem.set_at, nomem, *]; done))
    | (refine call_F (f15) (.one hs5) ?_)
    | (refine pure_F (f15) (.one hs5) ?_)
    | (refine call_F (n2) (Seens.refl _ _) ?_)
    | (refine pure_F (n2) (Seens.refl _ _) ?_)
    | (refine call_F (n3) (Seens.refl _ _) ?_)
    | (refine pure_F (n3) (Seens.refl _ _) ?_)
  exact .val
end Go.Proofs.Ytlkeailgccbmbaa

set_option maxRecDepth 100000
set_option maxHeartbeats 1000000
set_option linter.unusedSimpArgs false
set_option linter.unusedVariables false
namespace Go.Proofs.Ytlkeailgccbmbaa
open Go.Abs
attribute [local irreducible] C X CC Y CV CW binK litK AppK PureC PureCV againK loopV rangeV allK ifK got onB condK V stepsK planK opK firstK seeE keepsK
theorem text_b (l : List UInt8) : textT Try.prog 9 44 (.val (.string ⟨l.toArray⟩)) = some (⟨l.toArray⟩, 5) := by simp only [textT, ti_9, ti_44, ti_5]; rfl
theorem bytesE_flat (l : List UInt8) : (bytesE (⟨l.toArray⟩ : ByteArray)).flatten = (l.map byteC).flatten := by unfold bytesE; simp
theorem new_bytes (l : List UInt8) {m : Mem} {n cap : Nat} {opn : Bool} {t : TypeId} (hm : m n = some (.cells opn t (l.map byteC).flatten)) : New m (.sl n 0 l.length cap) (.vs (l.map byteC) false) := New.row byteC (s := 1) byteC_len (fun _ => rfl) l hm
theorem F55 (d : Dev) (pk : Int) (x y : Bool) (hm : d.laid.length ≤ 4096) (hl : d.list.length ≤ 4096) (k : Int) : F Try.prog 55 [.vp (d.rr pk x y) 0, .val (.int .i64 k)] (.tup [.vs (if readE d k = 0 then (readS d k.toNat).l.map byteC else []) false, .val (.int .i64 (readE d k))]) := by
  have nil : Kept (∀ (M : Mem) (e : Int), readE d k = e → e ≠ 0 → New M (.tup [.val (.slice none 0 0), .val (.int .i64 e)]) (.tup [.vs (if readE d k = 0 then (readS d k.toNat).l.map byteC else []) false, .val (.int .i64 (readE d k))])) := fun M e he h0 => by
    rw [he, if_neg h0]
    exact .two .nil .val
  have hil := imgL_len d.laid
  have h36 := F42 d pk x y hm
  refine F55_of ?_
  unfold k55
  rcases hd : d.dead
  · repeat' first
      | simp -dsimp (disch := omega) only [↓rulesA, rulesB, rulesC, Int.reduceLT, nth, upd, put, storeN, AV.one, Nat.reduceBEq, Nat.reduceBNe, Int.reduceBEq, Int.reduceBNe, Int.reduceLE, Int.reduceEq, Int.reduceMod, Int.reduceNeg, boolBin, strBin, intBin, unA, fillA, ne_eq, reduceCtorEq, Nat.reduceAdd, Nat.reduceSub, Nat.reduceLeDiff, Nat.reduceLT, Nat.reduceEqDiff, Int.reduceToNat, eq_self, rulesT, rulesD, Dev.q0, Dev.q1, Dev.q2, Dev.q3, Dev.q4, Dev.q5, Dev.q6, Dev.q7, *]
      | (refine allK_intro fun n hn => ?_; try simp only [fresh_set] at hn)
      | (refine ifK_intro (fun h => ?_) (fun h => ?_) <;> (try simp only [rulesE] at h) <;> try (exfalso; (try simp only [rulesF] at h); omega))
      | (refine keeps_sub (Mem.sub_set ?_) ?_; focus (simp [Mem.set_at, nomem, *]; done))
      | (refine call_F (h36) (Seens.refl _ _) ?_)
      | (refine pure_F (h36) (Seens.refl _ _) ?_)
    · have e : readE d k = 20 := by unfold readE; rw [if_neg (by rw [hd]; decide), if_pos (by omega)]
      exact (nil : ∀ (M : Mem) (e : Int), _ → _ → _) _ 20 e (by decide)
    · have e : readE d k = 0 := by unfold readE; rw [if_neg (by rw [hd]; decide), if_neg (by omega)]
      have hlt : k < d.laid.length := by omega
      have h0k : 0 ≤ k := by omega
      obtain ⟨q, rfl⟩ : ∃ q : Nat, k = q := ⟨k.toNat, by omega⟩
      rw [e, if_pos rfl]
      clear nil
      refine loop_intro (fun j env m' => ∃ i : Nat, i ≤ findN d.list q ∧ j = d.list.length - i ∧ m' = nomem ∧ env.length = 66 ∧ nth env 0 = .vp (d.rr pk x y) 0 ∧ nth env 1 = .val (.int .i64 q) ∧ nth env 6 = .val (.int .i64 i)) d.list.length _ (Mem.sub.refl _) ⟨0, by omega, by omega, rfl, rfl, rfl, rfl, rfl⟩ ?_
      rintro j env m' ⟨i, hi, rfl, rfl, hlen, e0, e1, e6⟩
      have hfn := findN_le d.list q
      repeat' first
        | simp -dsimp (disch := omega) only [↓rulesA, rulesB, rulesC, Int.reduceLT, nth, upd, put, storeN, AV.one, Nat.reduceBEq, Nat.reduceBNe, Int.reduceBEq, Int.reduceBNe, Int.reduceLE, Int.reduceEq, Int.reduceMod, Int.reduceNeg, boolBin, strBin, intBin, unA, fillA, ne_eq, reduceCtorEq, Nat.reduceAdd, Nat.reduceSub, Nat.reduceLeDiff, Nat.reduceLT, Nat.reduceEqDiff, Int.reduceToNat, eq_self, rulesT, rulesD, Dev.q0, Dev.q1, Dev.q2, Dev.q3, Dev.q4, Dev.q5, Dev.q6, Dev.q7, ix_78, Slot.g0, Slot.g1, *]
        | (refine allK_intro fun n hn => ?_; try simp only [fresh_set] at hn)
        | (refine ifK_intro (fun h => ?_) (fun h => ?_) <;> (try simp only [rulesE] at h) <;> try (exfalso; (try simp only [rulesF] at h); omega))
        | (refine keeps_sub (Mem.sub_set ?_) ?_; focus (simp [Mem.set_at, nomem, *]; done))
      · have hat : ((d.list.getD i default).at_ : Int) = q := eq_of_beq h
        have hf : findN d.list q = i := findN_end hi (by omega) (by omega)
        have e3 : readS d q = (d.list.getD i default).s := by unfold readS; rw [if_pos (by omega), hf]
        refine conv_fresh (text_b _) fun n hn => ?_
        rw [bytesE_flat]
        repeat' first
          | simp -dsimp (disch := omega) only [↓rulesA, rulesB, rulesC, Int.reduceLT, nth, upd, put, storeN, AV.one, Nat.reduceBEq, Nat.reduceBNe, Int.reduceBEq, Int.reduceBNe, Int.reduceLE, Int.reduceEq, Int.reduceMod, Int.reduceNeg, boolBin, strBin, intBin, unA, fillA, ne_eq, reduceCtorEq, Nat.reduceAdd, Nat.reduceSub, Nat.reduceLeDiff, Nat.reduceLT, Nat.reduceEqDiff, Int.reduceToNat, eq_self, rulesT, rulesD, *]
          | (refine allK_intro fun n hn => ?_; try simp only [fresh_set] at hn)
          | (refine ifK_intro (fun h => ?_) (fun h => ?_) <;> (try simp only [rulesE] at h) <;> try (exfalso; (try simp only [rulesF] at h); omega))
          | (refine keeps_sub (Mem.sub_set ?_) ?_; focus (simp [Mem.set_at, nomem, *]; done))
        exact .two (new_bytes _ (Mem.set_same _ _ _)) .val
      · have hat : ((d.list.getD i default).at_ : Int) ≠ q := ne_of_beq_false h
        refine again_intro (d.list.length - (i + 1)) (by omega) _ (Mem.sub.refl _) ⟨i + 1, ?_, rfl, rfl, ?_, ?_, ?_, ?_⟩
        · have : findN d.list q ≠ i := fun e => by
            have h2 := findN_is (l := d.list) (k := q) (by omega)
            rw [e] at h2
            exact hat (by omega)
          omega
        all_goals try (simp (disch := omega) only [nth_upd, pickB_true, pickB_false, inB_lt, upd_len, cast_succ, Int.cast_ofNat_Int, Nat.reduceBEq, beq_self_eq_true, reduceCtorEq, *]; done)
      · have hf : ¬ findN d.list q < d.list.length := by omega
        have e3 : readS d q = d.laid.getD q default := by unfold readS; rw [if_neg hf]
        have k1 : (q : Int) * 64 = ((q * 64 : Nat) : Int) := by omega
        have k2 : ((q : Int) + 1) * 64 = ((q * 64 + 64 : Nat) : Int) := by omega
        have k3 : q * 64 + 64 - q * 64 = 64 := by omega
        have hp : List.take 64 (List.drop (q * 64) (imgL d.laid)) = (d.laid.getD q default).l := img_part d.laid q (by omega)
        have s1 := fun m => rlohi_44 m (imgL d.laid) x .i64 .i64 (q * 64 : Nat) (q * 64 + 64 : Nat) (by omega) (by omega) (by omega)
        simp only [Int.toNat_natCast, k3, hp] at s1
        have hcv := fun m b => conv_img m (d.laid.getD q default).l b
        repeat' first
          | simp -dsimp (disch := omega) only [↓rulesA, rulesB, rulesC, Int.reduceLT, nth, upd, put, storeN, AV.one, Nat.reduceBEq, Nat.reduceBNe, Int.reduceBEq, Int.reduceBNe, Int.reduceLE, Int.reduceEq, Int.reduceMod, Int.reduceNeg, boolBin, strBin, intBin, unA, fillA, ne_eq, reduceCtorEq, Nat.reduceAdd, Nat.reduceSub, Nat.reduceLeDiff, Nat.reduceLT, Nat.reduceEqDiff, Int.reduceToNat, eq_self, rulesT, rulesD, Dev.q0, Dev.q1, Dev.q2, Dev.q3, Dev.q4, Dev.q5, Dev.q6, Dev.q7, *]
          | (refine allK_intro fun n hn => ?_; try simp only [fresh_set] at hn)
          | (refine ifK_intro (fun h => ?_) (fun h => ?_) <;> (try simp only [rulesE] at h) <;> try (exfalso; (try simp only [rulesF] at h); omega))
          | (refine keeps_sub (Mem.sub_set ?_) ?_; focus (simp [Mem.set_at, nomem, *]; done))
        refine conv_fresh (text_b _) fun n hn => ?_
        rw [bytesE_flat]
        repeat' first
          | simp -dsimp (disch := omega) only [↓rulesA, rulesB, rulesC, Int.reduceLT, nth, upd, put, storeN, AV.one, Nat.reduceBEq, Nat.reduceBNe, Int.reduceBEq, Int.reduceBNe, Int.reduceLE, Int.reduceEq, Int.reduceMod, Int.reduceNeg, boolBin, strBin, intBin, unA, fillA, ne_eq, reduceCtorEq, Nat.reduceAdd, Nat.reduceSub, Nat.reduceLeDiff, Nat.reduceLT, Nat.reduceEqDiff, Int.reduceToNat, eq_self, rulesT, rulesD, *]
          | (refine allK_intro fun n hn => ?_; try simp only [fresh_set] at hn)
          | (refine ifK_intro (fun h => ?_) (fun h => ?_) <;> (try simp only [rulesE] at h) <;> try (exfalso; (try simp only [rulesF] at h); omega))
          | (refine keeps_sub (Mem.sub_set ?_) ?_; focus (simp [Mem.set_at, nomem, *]; done))
        exact .two (new_bytes _ (Mem.set_same _ _ _)) .val
    · have e : readE d k = 20 := by unfold readE; rw [if_neg (by rw [hd]; decide), if_pos (by omega)]
      exact (nil : ∀ (M : Mem) (e : Int), _ → _ → _) _ 20 e (by decide)
  · repeat' first
      | simp -dsimp (disch := omega) only [↓rulesA, rulesB, rulesC, Int.reduceLT, nth, upd, put, storeN, AV.one, Nat.reduceBEq, Nat.reduceBNe, Int.reduceBEq, Int.reduceBNe, Int.reduceLE, Int.reduceEq, Int.reduceMod, Int.reduceNeg, boolBin, strBin, intBin, unA, fillA, ne_eq, reduceCtorEq, Nat.reduceAdd, Nat.reduceSub, Nat.reduceLeDiff, Nat.reduceLT, Nat.reduceEqDiff, Int.reduceToNat, eq_self, rulesT, rulesD, Dev.q0, Dev.q1, Dev.q2, Dev.q3, Dev.q4, Dev.q5, Dev.q6, Dev.q7, *]
      | (refine allK_intro fun n hn => ?_; try simp only [fresh_set] at hn)
      | (refine ifK_intro (fun h => ?_) (fun h => ?_) <;> (try simp only [rulesE] at h) <;> try (exfalso; (try simp only [rulesF] at h); omega))
      | (refine keeps_sub (Mem.sub_set ?_) ?_; focus (simp [Mem.set_at, nomem, *]; done))
    have e : readE d k = 22 := by unfold readE; rw [if_pos hd]
    exact (nil : ∀ (M : Mem) (e : Int), _ → _ → _) _ 22 e (by decide)
end Go.Proofs.Ytlkeailgccbmbaa

set_option maxRecDepth 100000
set_option maxHeartbeats 1000000
set_option linter.unusedSimpArgs false
set_option linter.unusedVariables false
namespace Go.Proofs.Ytlkeailgccbmbaa
open Go.Abs
attribute [local irreducible] C X CC Y CV CW binK litK AppK PureC PureCV againK loopV rangeV allK ifK got onB condK V stepsK planK opK firstK seeE keepsK
theorem need_q (n : Nat) (h : 47 < n) : needN n = if (n - 47) % 55 = 0 then 1 + (n - 47) / 55 else 1 + ((n - 47) / 55 + 1) := by
  unfold needN; rw [if_neg (by omega)]; split <;> omega
theorem F30 (n : Nat) (h : n < 4611686018427387904) : F Try.prog 30 [.val (.int .i64 n)] (.val (.int .i64 (needN n))) := by
  refine F30_of ?_
  unfold k30
  by_cases h47 : n ≤ 47
  · have e : needN n = 1 := if_pos h47
    repeat' first
      | simp -dsimp (disch := omega) only [↓rulesA, rulesB, rulesC, Int.reduceLT, nth, upd, put, storeN, AV.one, Nat.reduceBEq, Nat.reduceBNe, Int.reduceBEq, Int.reduceBNe, Int.reduceLE, Int.reduceEq, Int.reduceMod, Int.reduceNeg, boolBin, strBin, intBin, unA, fillA, ne_eq, reduceCtorEq, Nat.reduceAdd, Nat.reduceSub, Nat.reduceLeDiff, Nat.reduceLT, Nat.reduceEqDiff, Int.reduceToNat, eq_self, rulesT, rulesD, *]
      | (refine allK_intro fun n hn => ?_; try simp only [fresh_set] at hn)
      | (refine ifK_intro (fun h => ?_) (fun h => ?_) <;> (try simp only [rulesE] at h) <;> try (exfalso; (try simp only [rulesF] at h); omega))
      | (refine keeps_sub (Mem.sub_set ?_) ?_; focus (simp [Mem.set_at, nomem, *]; done))
    exact .val
  · have e := need_q n (by omega)
    obtain ⟨p, hp⟩ : ∃ p : Nat, p = n - 47 := ⟨_, rfl⟩
    rw [← hp] at e
    have ep : (n : Int) - 47 = (p : Int) := by omega
    have q : ((p : Int)).tdiv 55 = ((p / 55 : Nat) : Int) := rfl
    have q2 : ((p : Int)).tmod 55 = ((p % 55 : Nat) : Int) := rfl
    have hpl : p < 4611686018427387904 := by omega
    rw [e]
    clear e hp
    by_cases hm : p % 55 = 0
    · rw [if_pos hm]
      have hn : ¬ ((p % 55 : Nat) : Int) > 0 := by omega
      repeat' first
        | simp -dsimp (disch := omega) only [↓rulesA, rulesB, rulesC, Int.reduceLT, nth, upd, put, storeN, AV.one, Nat.reduceBEq, Nat.reduceBNe, Int.reduceBEq, Int.reduceBNe, Int.reduceLE, Int.reduceEq, Int.reduceMod, Int.reduceNeg, boolBin, strBin, intBin, unA, fillA, ne_eq, reduceCtorEq, Nat.reduceAdd, Nat.reduceSub, Nat.reduceLeDiff, Nat.reduceLT, Nat.reduceEqDiff, Int.reduceToNat, eq_self, rulesT, rulesD, q, q2, ep, *]
        | (refine allK_intro fun n hn => ?_; try simp only [fresh_set] at hn)
        | (refine ifK_intro (fun h => ?_) (fun h => ?_) <;> (try simp only [rulesE] at h) <;> try (exfalso; (try simp only [rulesF] at h); omega))
        | (refine keeps_sub (Mem.sub_set ?_) ?_; focus (simp [Mem.set_at, nomem, *]; done))
      exact New.eq (by rw [Int.natCast_add]; rfl) rfl
    · rw [if_neg hm]
      have hn : ((p % 55 : Nat) : Int) > 0 := by omega
      repeat' first
        | simp -dsimp (disch := omega) only [↓rulesA, rulesB, rulesC, Int.reduceLT, nth, upd, put, storeN, AV.one, Nat.reduceBEq, Nat.reduceBNe, Int.reduceBEq, Int.reduceBNe, Int.reduceLE, Int.reduceEq, Int.reduceMod, Int.reduceNeg, boolBin, strBin, intBin, unA, fillA, ne_eq, reduceCtorEq, Nat.reduceAdd, Nat.reduceSub, Nat.reduceLeDiff, Nat.reduceLT, Nat.reduceEqDiff, Int.reduceToNat, eq_self, rulesT, rulesD, q, q2, ep, *]
        | (refine allK_intro fun n hn => ?_; try simp only [fresh_set] at hn)
        | (refine ifK_intro (fun h => ?_) (fun h => ?_) <;> (try simp only [rulesE] at h) <;> try (exfalso; (try simp only [rulesF] at h); omega))
        | (refine keeps_sub (Mem.sub_set ?_) ?_; focus (simp [Mem.set_at, nomem, *]; done))
      exact New.eq (by rw [Int.natCast_add, Int.natCast_add]; rfl) rfl
theorem getTo_div (l : List UInt8) (n i : Nat) (h : i < n) : getTo l n / 2 ^ (8 * i) = getTo l n / 2 ^ (8 * (i + 1)) * 256 + (l.getD i default).toNat := by
  have key : ∀ m, getTo l (i + 1 + m) / 2 ^ (8 * i) % 256 = (l.getD i default).toNat := by
    intro m
    induction m with
    | zero =>
      have h1 := getTo_lt l i
      have hb : (l.getD i default).toNat < 256 := UInt8.toNat_lt _
      show (getTo l i + (l.getD i default).toNat * 2 ^ (8 * i)) / 2 ^ (8 * i) % 256 = _
      rw [Nat.add_mul_div_right _ _ (Nat.pow_pos (by decide)), Nat.div_eq_of_lt h1, Nat.zero_add, Nat.mod_eq_of_lt hb]
    | succ m ih =>
      show (getTo l (i + 1 + m) + (l.getD (i + 1 + m) default).toNat * 2 ^ (8 * (i + 1 + m))) / 2 ^ (8 * i) % 256 = _
      have e : (2 : Nat) ^ (8 * (i + 1 + m)) = (256 * 2 ^ (8 * m)) * 2 ^ (8 * i) := by
        rw [show 8 * (i + 1 + m) = 8 + 8 * m + 8 * i by omega, Nat.pow_add, Nat.pow_add]
      rw [e, ← Nat.mul_assoc, Nat.add_mul_div_right _ _ (Nat.pow_pos (by decide)), ← Nat.mul_assoc, Nat.mul_comm _ 256, Nat.mul_assoc, Nat.add_mul_mod_self_left, ih]
  have hk := key (n - (i + 1))
  rw [show i + 1 + (n - (i + 1)) = n by omega] at hk
  have e : (2 : Nat) ^ (8 * (i + 1)) = 2 ^ (8 * i) * 256 := by rw [show 8 * (i + 1) = 8 * i + 8 by omega, Nat.pow_add]
  rw [e, ← Nat.div_div_eq_div_mul, ← hk]
  omega
theorem shl8 (a : Nat) (hb : a * 256 < 18446744073709551616) : IntKind.u64.wrap ((a : Int) * 2 ^ min 8 IntKind.u64.bits) = ((a * 256 : Nat) : Int) := shl64 a 8 (by decide) hb
theorem or8 (a b : Nat) (ha : a * 256 < 18446744073709551616) (hb : b < 256) : bits .or .u64 ((a * 256 : Nat) : Int) (b : Int) = ((a * 256 + b : Nat) : Int) := by
  rw [u64_or_nat _ _ ha (by omega), nat_join 8 _ _ (by show a * 256 % 256 = 0; omega) hb]
theorem F56 (l : List UInt8) (x : Bool) (hl : l.length ≤ 8) : F Try.prog 56 [.vs (l.map byteC) x] (.val (.int .u64 (getTo l l.length))) := by
  refine F56_of ?_
  unfold k56
  repeat' first
    | simp -dsimp (disch := omega) only [↓rulesA, rulesB, rulesC, Int.reduceLT, nth, upd, put, storeN, AV.one, Nat.reduceBEq, Nat.reduceBNe, Int.reduceBEq, Int.reduceBNe, Int.reduceLE, Int.reduceEq, Int.reduceMod, Int.reduceNeg, boolBin, strBin, intBin, unA, fillA, ne_eq, reduceCtorEq, Nat.reduceAdd, Nat.reduceSub, Nat.reduceLeDiff, Nat.reduceLT, Nat.reduceEqDiff, Int.reduceToNat, eq_self, rulesT, rulesD, *]
    | (refine allK_intro fun n hn => ?_; try simp only [fresh_set] at hn)
    | (refine ifK_intro (fun h => ?_) (fun h => ?_) <;> (try simp only [rulesE] at h) <;> try (exfalso; (try simp only [rulesF] at h); omega))
    | (refine keeps_sub (Mem.sub_set ?_) ?_; focus (simp [Mem.set_at, nomem, *]; done))
  have hz : getTo l l.length / 2 ^ (8 * l.length) = 0 := Nat.div_eq_of_lt (getTo_lt l _)
  refine loop_intro (fun j env m => ∃ i : Nat, i ≤ l.length ∧ j = i ∧ m = nomem ∧ env.length = 21 ∧ nth env 3 = .val (.int .u64 ((getTo l l.length / 2 ^ (8 * i) : Nat) : Int)) ∧ nth env 0 = .vs (l.map byteC) x ∧ nth env 4 = .val (.int .i64 ((i : Int) - 1))) l.length _ (Mem.sub.refl _) ⟨l.length, Nat.le_refl _, rfl, rfl, rfl, by rw [hz]; rfl, rfl, rfl⟩ ?_
  clear hz
  rintro i env m ⟨_, hi, rfl, rfl, hlen, e3, e0, e4⟩
  by_cases h0 : i = 0
  · subst h0
    have e : getTo l l.length / 2 ^ (8 * 0) = getTo l l.length := by simp
    rw [e] at e3
    repeat' first
      | simp -dsimp (disch := omega) only [↓rulesA, rulesB, rulesC, Int.reduceLT, nth, upd, put, storeN, AV.one, Nat.reduceBEq, Nat.reduceBNe, Int.reduceBEq, Int.reduceBNe, Int.reduceLE, Int.reduceEq, Int.reduceMod, Int.reduceNeg, boolBin, strBin, intBin, unA, fillA, ne_eq, reduceCtorEq, Nat.reduceAdd, Nat.reduceSub, Nat.reduceLeDiff, Nat.reduceLT, Nat.reduceEqDiff, Int.reduceToNat, eq_self, rulesT, rulesD, *]
      | (refine allK_intro fun n hn => ?_; try simp only [fresh_set] at hn)
      | (refine ifK_intro (fun h => ?_) (fun h => ?_) <;> (try simp only [rulesE] at h) <;> try (exfalso; (try simp only [rulesF] at h); omega))
      | (refine keeps_sub (Mem.sub_set ?_) ?_; focus (simp [Mem.set_at, nomem, *]; done))
    exact .val
  · obtain ⟨k, rfl⟩ : ∃ k, i = k + 1 := ⟨i - 1, by omega⟩
    have hb : (l.getD k default).toNat < 256 := UInt8.toNat_lt _
    have hd := getTo_div l l.length k (by omega)
    have hlt : getTo l l.length / 2 ^ (8 * (k + 1)) * 256 < 18446744073709551616 := by
      have h1 := getTo_lt l l.length
      have h3 : 2 ^ (8 * l.length) ≤ 2 ^ 64 := Nat.pow_le_pow_right (by decide) (by omega)
      have h5 : (2 : Nat) ^ 64 = 18446744073709551616 := rfl
      have h6 : getTo l l.length / 2 ^ (8 * k) ≤ getTo l l.length := Nat.div_le_self _ _
      omega
    have ek : ((k + 1 : Nat) : Int) - 1 = k := by omega
    rw [ek] at e4
    have e5 : Kept (getTo l l.length / 2 ^ (8 * k) = getTo l l.length / 2 ^ (8 * (k + 1)) * 256 + (l.getD k default).toNat) := hd
    clear hd ek
    generalize getTo l l.length / 2 ^ (8 * (k + 1)) = a at *
    have c1 := conv64 (l.getD k default).toNat (by omega)
    have c2 := shl8 a hlt
    have c3 := or8 a _ hlt hb
    repeat' first
      | simp -dsimp (disch := omega) only [↓rulesA, rulesB, rulesC, Int.reduceLT, nth, upd, put, storeN, AV.one, Nat.reduceBEq, Nat.reduceBNe, Int.reduceBEq, Int.reduceBNe, Int.reduceLE, Int.reduceEq, Int.reduceMod, Int.reduceNeg, boolBin, strBin, intBin, unA, fillA, ne_eq, reduceCtorEq, Nat.reduceAdd, Nat.reduceSub, Nat.reduceLeDiff, Nat.reduceLT, Nat.reduceEqDiff, Int.reduceToNat, eq_self, rulesT, rulesD, ix_44, byte_g0, *]
      | (refine allK_intro fun n hn => ?_; try simp only [fresh_set] at hn)
      | (refine ifK_intro (fun h => ?_) (fun h => ?_) <;> (try simp only [rulesE] at h) <;> try (exfalso; (try simp only [rulesF] at h); omega))
      | (refine keeps_sub (Mem.sub_set ?_) ?_; focus (simp [Mem.set_at, nomem, *]; done))
    refine again_intro k (by omega) _ (Mem.sub.refl _) ⟨k, by omega, rfl, rfl, ?_, ?_, ?_, ?_⟩
    rotate_left 1
    · rw [(e5 : _ = _)]
      all_goals try (simp (disch := omega) only [nth_upd, pickB_true, pickB_false, inB_lt, upd_len, cast_succ, Int.cast_ofNat_Int, Nat.reduceBEq, beq_self_eq_true, reduceCtorEq, *]; done)
    all_goals all_goals try (simp (disch := omega) only [nth_upd, pickB_true, pickB_false, inB_lt, upd_len, cast_succ, Int.cast_ofNat_Int, Nat.reduceBEq, beq_self_eq_true, reduceCtorEq, *]; done)
theorem F61 (c : Nat) (hc : c < 4294967296) : F Try.prog 61 [.val (.int .u32 c)] (.val (.int .u32 (bitsTo c 8))) := by
  refine F61_of ?_
  unfold k61
  repeat' first
    | simp -dsimp (disch := omega) only [↓rulesA, rulesB, rulesC, Int.reduceLT, nth, upd, put, storeN, AV.one, Nat.reduceBEq, Nat.reduceBNe, Int.reduceBEq, Int.reduceBNe, Int.reduceLE, Int.reduceEq, Int.reduceMod, Int.reduceNeg, boolBin, strBin, intBin, unA, fillA, ne_eq, reduceCtorEq, Nat.reduceAdd, Nat.reduceSub, Nat.reduceLeDiff, Nat.reduceLT, Nat.reduceEqDiff, Int.reduceToNat, eq_self, rulesT, rulesD, *]
    | (refine allK_intro fun n hn => ?_; try simp only [fresh_set] at hn)
    | (refine ifK_intro (fun h => ?_) (fun h => ?_) <;> (try simp only [rulesE] at h) <;> try (exfalso; (try simp only [rulesF] at h); omega))
    | (refine keeps_sub (Mem.sub_set ?_) ?_; focus (simp [Mem.set_at, nomem, *]; done))
  refine loop_intro (fun j env m => ∃ k : Nat, k ≤ 8 ∧ j = 8 - k ∧ m = nomem ∧ env.length = 17 ∧ nth env 0 = .val (.int .u32 (bitsTo c k)) ∧ nth env 3 = .val (.int .i64 k)) 8 _ (Mem.sub.refl _) ⟨0, by omega, rfl, rfl, rfl, rfl, rfl⟩ ?_
  rintro j env m ⟨k, hk, rfl, rfl, hlen, e0, e3⟩
  by_cases hk8 : k < 8
  · obtain ⟨a, ea⟩ : ∃ a, a = bitsTo c k := ⟨_, rfl⟩
    have hal : a < 4294967296 := by rw [ea]; exact bitsTo_lt hc k
    have hn : bitsTo c (k + 1) = a / 2 ^^^ pN a := by rw [ea]; rfl
    rw [← ea] at e0
    clear ea
    by_cases h1 : a % 2 = 1
    · have hp : pN a = 2197175160 := if_pos h1
      rw [hp] at hn
      replace hn : Kept _ := hn
      have x1 : bits .xor .u32 ((a / 2 : Nat) : Int) 2197175160 = ((a / 2 ^^^ 2197175160 : Nat) : Int) := xor32 (a / 2) 2197175160 (by omega) (by decide)
      repeat' first
        | simp -dsimp (disch := omega) only [↓rulesA, rulesB, rulesC, Int.reduceLT, nth, upd, put, storeN, AV.one, Nat.reduceBEq, Nat.reduceBNe, Int.reduceBEq, Int.reduceBNe, Int.reduceLE, Int.reduceEq, Int.reduceMod, Int.reduceNeg, boolBin, strBin, intBin, unA, fillA, ne_eq, reduceCtorEq, Nat.reduceAdd, Nat.reduceSub, Nat.reduceLeDiff, Nat.reduceLT, Nat.reduceEqDiff, Int.reduceToNat, eq_self, rulesT, rulesD, shr32, and1, Nat.pow_one, h1, x1, *]
        | (refine allK_intro fun n hn => ?_; try simp only [fresh_set] at hn)
        | (refine ifK_intro (fun h => ?_) (fun h => ?_) <;> (try simp only [rulesE] at h) <;> try (exfalso; (try simp only [rulesF] at h); omega))
        | (refine keeps_sub (Mem.sub_set ?_) ?_; focus (simp [Mem.set_at, nomem, *]; done))
      refine again_intro (8 - (k + 1)) (by omega) _ (Mem.sub.refl _) ⟨k + 1, by omega, rfl, rfl, ?_, ?_, ?_⟩
      rotate_left 1
      · rw [(hn : _ = _)]
        all_goals try (simp (disch := omega) only [nth_upd, pickB_true, pickB_false, inB_lt, upd_len, cast_succ, Int.cast_ofNat_Int, Nat.reduceBEq, beq_self_eq_true, reduceCtorEq, *]; done)
      all_goals all_goals try (simp (disch := omega) only [nth_upd, pickB_true, pickB_false, inB_lt, upd_len, cast_succ, Int.cast_ofNat_Int, Nat.reduceBEq, beq_self_eq_true, reduceCtorEq, *]; done)
    · have hp : pN a = 0 := if_neg h1
      have h0 : a % 2 = 0 := by omega
      rw [hp, Nat.xor_zero] at hn
      replace hn : Kept _ := hn
      repeat' first
        | simp -dsimp (disch := omega) only [↓rulesA, rulesB, rulesC, Int.reduceLT, nth, upd, put, storeN, AV.one, Nat.reduceBEq, Nat.reduceBNe, Int.reduceBEq, Int.reduceBNe, Int.reduceLE, Int.reduceEq, Int.reduceMod, Int.reduceNeg, boolBin, strBin, intBin, unA, fillA, ne_eq, reduceCtorEq, Nat.reduceAdd, Nat.reduceSub, Nat.reduceLeDiff, Nat.reduceLT, Nat.reduceEqDiff, Int.reduceToNat, eq_self, rulesT, rulesD, shr32, and1, Nat.pow_one, h0, *]
        | (refine allK_intro fun n hn => ?_; try simp only [fresh_set] at hn)
        | (refine ifK_intro (fun h => ?_) (fun h => ?_) <;> (try simp only [rulesE] at h) <;> try (exfalso; (try simp only [rulesF] at h); omega))
        | (refine keeps_sub (Mem.sub_set ?_) ?_; focus (simp [Mem.set_at, nomem, *]; done))
      refine again_intro (8 - (k + 1)) (by omega) _ (Mem.sub.refl _) ⟨k + 1, by omega, rfl, rfl, ?_, ?_, ?_⟩
      rotate_left 1
      · rw [(hn : _ = _)]
        all_goals try (simp (disch := omega) only [nth_upd, pickB_true, pickB_false, inB_lt, upd_len, cast_succ, Int.cast_ofNat_Int, Nat.reduceBEq, beq_self_eq_true, reduceCtorEq, *]; done)
      all_goals all_goals try (simp (disch := omega) only [nth_upd, pickB_true, pickB_false, inB_lt, upd_len, cast_succ, Int.cast_ofNat_Int, Nat.reduceBEq, beq_self_eq_true, reduceCtorEq, *]; done)
  · have : k = 8 := by omega
    subst this
    repeat' first
      | simp -dsimp (disch := omega) only [↓rulesA, rulesB, rulesC, Int.reduceLT, nth, upd, put, storeN, AV.one, Nat.reduceBEq, Nat.reduceBNe, Int.reduceBEq, Int.reduceBNe, Int.reduceLE, Int.reduceEq, Int.reduceMod, Int.reduceNeg, boolBin, strBin, intBin, unA, fillA, ne_eq, reduceCtorEq, Nat.reduceAdd, Nat.reduceSub, Nat.reduceLeDiff, Nat.reduceLT, Nat.reduceEqDiff, Int.reduceToNat, eq_self, rulesT, rulesD, *]
      | (refine allK_intro fun n hn => ?_; try simp only [fresh_set] at hn)
      | (refine ifK_intro (fun h => ?_) (fun h => ?_) <;> (try simp only [rulesE] at h) <;> try (exfalso; (try simp only [rulesF] at h); omega))
      | (refine keeps_sub (Mem.sub_set ?_) ?_; focus (simp [Mem.set_at, nomem, *]; done))
    exact .val
theorem F57 (l : List UInt8) (x : Bool) (hl : l.length ≤ 140737488355328) : F Try.prog 57 [.vs (l.map byteC) x] (.val (.int .u32 (crcN l))) := by
  refine F57_of ?_
  unfold k57
  repeat' first
    | simp -dsimp (disch := omega) only [↓rulesA, rulesB, rulesC, Int.reduceLT, nth, upd, put, storeN, AV.one, Nat.reduceBEq, Nat.reduceBNe, Int.reduceBEq, Int.reduceBNe, Int.reduceLE, Int.reduceEq, Int.reduceMod, Int.reduceNeg, boolBin, strBin, intBin, unA, fillA, ne_eq, reduceCtorEq, Nat.reduceAdd, Nat.reduceSub, Nat.reduceLeDiff, Nat.reduceLT, Nat.reduceEqDiff, Int.reduceToNat, eq_self, rulesT, rulesD, *]
    | (refine allK_intro fun n hn => ?_; try simp only [fresh_set] at hn)
    | (refine ifK_intro (fun h => ?_) (fun h => ?_) <;> (try simp only [rulesE] at h) <;> try (exfalso; (try simp only [rulesF] at h); omega))
    | (refine keeps_sub (Mem.sub_set ?_) ?_; focus (simp [Mem.set_at, nomem, *]; done))
  refine loop_intro (fun j env m => ∃ i : Nat, i ≤ l.length ∧ j = l.length - i ∧ m = nomem ∧ env.length = 21 ∧ nth env 3 = .val (.int .u32 (crcTo l i)) ∧ nth env 0 = .vs (l.map byteC) x ∧ nth env 4 = .val (.int .i64 i)) l.length _ (Mem.sub.refl _) ⟨0, by omega, rfl, rfl, rfl, rfl, rfl, rfl⟩ ?_
  rintro j env m ⟨i, hi, rfl, rfl, hlen, e3, e0, e4⟩
  by_cases hil : i < l.length
  · have hb : (l.getD i default).toNat < 256 := UInt8.toNat_lt _
    have hc := crcTo_lt l i
    have hx := xor_lt hc (show (l.getD i default).toNat < 4294967296 by omega)
    have h61 := F61 _ hx
    have hn : Kept (crcTo l (i + 1) = bitsTo (crcTo l i ^^^ (l.getD i default).toNat) 8) := rfl
    repeat' first
      | simp -dsimp (disch := omega) only [↓rulesA, rulesB, rulesC, Int.reduceLT, nth, upd, put, storeN, AV.one, Nat.reduceBEq, Nat.reduceBNe, Int.reduceBEq, Int.reduceBNe, Int.reduceLE, Int.reduceEq, Int.reduceMod, Int.reduceNeg, boolBin, strBin, intBin, unA, fillA, ne_eq, reduceCtorEq, Nat.reduceAdd, Nat.reduceSub, Nat.reduceLeDiff, Nat.reduceLT, Nat.reduceEqDiff, Int.reduceToNat, eq_self, rulesT, rulesD, ix_44, byte_g0, wrap32_u8, xor32, *]
      | (refine allK_intro fun n hn => ?_; try simp only [fresh_set] at hn)
      | (refine ifK_intro (fun h => ?_) (fun h => ?_) <;> (try simp only [rulesE] at h) <;> try (exfalso; (try simp only [rulesF] at h); omega))
      | (refine keeps_sub (Mem.sub_set ?_) ?_; focus (simp [Mem.set_at, nomem, *]; done))
      | (refine call_F (h61) (Seens.refl _ _) ?_)
      | (refine pure_F (h61) (Seens.refl _ _) ?_)
    refine again_intro (l.length - (i + 1)) (by omega) _ (Mem.sub.refl _) ⟨i + 1, by omega, rfl, rfl, ?_, ?_, ?_, ?_⟩
    rotate_left 1
    · rw [(hn : _ = _)]
      all_goals try (simp (disch := omega) only [nth_upd, pickB_true, pickB_false, inB_lt, upd_len, cast_succ, Int.cast_ofNat_Int, Nat.reduceBEq, beq_self_eq_true, reduceCtorEq, *]; done)
    all_goals all_goals try (simp (disch := omega) only [nth_upd, pickB_true, pickB_false, inB_lt, upd_len, cast_succ, Int.cast_ofNat_Int, Nat.reduceBEq, beq_self_eq_true, reduceCtorEq, *]; done)
  · have : i = l.length := by omega
    subst this
    have hc := crcTo_lt l l.length
    repeat' first
      | simp -dsimp (disch := omega) only [↓rulesA, rulesB, rulesC, Int.reduceLT, nth, upd, put, storeN, AV.one, Nat.reduceBEq, Nat.reduceBNe, Int.reduceBEq, Int.reduceBNe, Int.reduceLE, Int.reduceEq, Int.reduceMod, Int.reduceNeg, boolBin, strBin, intBin, unA, fillA, ne_eq, reduceCtorEq, Nat.reduceAdd, Nat.reduceSub, Nat.reduceLeDiff, Nat.reduceLT, Nat.reduceEqDiff, Int.reduceToNat, eq_self, rulesT, rulesD, *]
      | (refine allK_intro fun n hn => ?_; try simp only [fresh_set] at hn)
      | (refine ifK_intro (fun h => ?_) (fun h => ?_) <;> (try simp only [rulesE] at h) <;> try (exfalso; (try simp only [rulesF] at h); omega))
      | (refine keeps_sub (Mem.sub_set ?_) ?_; focus (simp [Mem.set_at, nomem, *]; done))
    refine New.eq ?_ rfl
    rw [ones32, xor32 _ _ (by decide) hc]; rfl
end Go.Proofs.Ytlkeailgccbmbaa

set_option maxRecDepth 100000
set_option maxHeartbeats 1000000
set_option linter.unusedSimpArgs false
set_option linter.unusedVariables false
namespace Go.Proofs.Ytlkeailgccbmbaa
open Go.Abs
attribute [local irreducible] C X CC Y CV CW binK litK AppK PureC PureCV againK loopV rangeV allK ifK got onB condK V stepsK planK opK firstK seeE keepsK
structure RJ where
  f : Nat
  c : Nat
  a : Nat
  n : Nat
  b : Bool
def RJ.j (r : RJ) : Jour := ⟨r.f, r.f + r.c, r.f + r.a, r.n, r.b⟩
def RJ.rc (r : RJ) (d : Dev) (pk : Int) (x y : Bool) : List AV := [.vp (d.rr pk x y) 0, .val (.int .i64 r.f), .val (.int .i64 r.c), .val (.int .i64 r.a), .val (.int .i64 r.n), .val (.bool r.b)]
section
variable (r : RJ) (d : Dev) (pk : Int) (x y : Bool)
theorem RJ.r0 : (r.rc d pk x y)[0]? = some (.vp (d.rr pk x y) 0) := rfl
theorem RJ.r1 : (r.rc d pk x y)[1]? = some (.val (.int .i64 r.f)) := rfl
theorem RJ.r2 : (r.rc d pk x y)[2]? = some (.val (.int .i64 r.c)) := rfl
theorem RJ.r3 : (r.rc d pk x y)[3]? = some (.val (.int .i64 r.a)) := rfl
theorem RJ.r4 : (r.rc d pk x y)[4]? = some (.val (.int .i64 r.n)) := rfl
theorem RJ.r5 : (r.rc d pk x y)[5]? = some (.val (.bool r.b)) := rfl
end
def RJ.own (r : RJ) (N : Nat) : List AV := [.ptr N 0, .val (.int .i64 r.f), .val (.int .i64 r.c), .val (.int .i64 r.a), .val (.int .i64 r.n), .val (.bool r.b)]
section
variable (r : RJ) (N : Nat)
theorem RJ.o0 : (r.own N)[0]? = some (.ptr N 0) := rfl
theorem RJ.o1 : (r.own N)[1]? = some (.val (.int .i64 r.f)) := rfl
theorem RJ.o2 : (r.own N)[2]? = some (.val (.int .i64 r.c)) := rfl
theorem RJ.o3 : (r.own N)[3]? = some (.val (.int .i64 r.a)) := rfl
theorem RJ.o4 : (r.own N)[4]? = some (.val (.int .i64 r.n)) := rfl
theorem RJ.o5 : (r.own N)[5]? = some (.val (.bool r.b)) := rfl
theorem RJ.olen : (r.own N).length = 6 := rfl
theorem RJ.s3 (a : Nat) : setRange (r.own N) 3 [.val (.int .i64 a)] = ({ r with a := a } : RJ).own N := rfl
theorem RJ.s4 (a : Nat) : setRange (r.own N) 4 [.val (.int .i64 a)] = ({ r with n := a } : RJ).own N := rfl
theorem RJ.s5 (a : Bool) : setRange (r.own N) 5 [.val (.bool a)] = ({ r with b := a } : RJ).own N := rfl
end
theorem F27 (r : RJ) (d : Dev) (pk : Int) (x y : Bool) : F Try.prog 27 [.vp (r.rc d pk x y) 0] (.val (.int .i64 r.n)) := by
  refine F27_of ?_
  unfold k27
  repeat' first
    | simp -dsimp (disch := omega) only [↓rulesA, rulesB, rulesC, Int.reduceLT, nth, upd, put, storeN, AV.one, Nat.reduceBEq, Nat.reduceBNe, Int.reduceBEq, Int.reduceBNe, Int.reduceLE, Int.reduceEq, Int.reduceMod, Int.reduceNeg, boolBin, strBin, intBin, unA, fillA, ne_eq, reduceCtorEq, Nat.reduceAdd, Nat.reduceSub, Nat.reduceLeDiff, Nat.reduceLT, Nat.reduceEqDiff, Int.reduceToNat, eq_self, rulesT, rulesD, RJ.r4, *]
    | (refine allK_intro fun n hn => ?_; try simp only [fresh_set] at hn)
    | (refine ifK_intro (fun h => ?_) (fun h => ?_) <;> (try simp only [rulesE] at h) <;> try (exfalso; (try simp only [rulesF] at h); omega))
    | (refine keeps_sub (Mem.sub_set ?_) ?_; focus (simp [Mem.set_at, nomem, *]; done))
  exact .val
theorem F28 (r : RJ) (d : Dev) (pk : Int) (x y : Bool) (hc : r.c ≤ 4096) (ha : r.a ≤ 8192) : F Try.prog 28 [.vp (r.rc d pk x y) 0] (.val (.int .i64 (roomJ r.j))) := by
  refine F28_of ?_
  unfold k28
  repeat' first
    | simp -dsimp (disch := omega) only [↓rulesA, rulesB, rulesC, Int.reduceLT, nth, upd, put, storeN, AV.one, Nat.reduceBEq, Nat.reduceBNe, Int.reduceBEq, Int.reduceBNe, Int.reduceLE, Int.reduceEq, Int.reduceMod, Int.reduceNeg, boolBin, strBin, intBin, unA, fillA, ne_eq, reduceCtorEq, Nat.reduceAdd, Nat.reduceSub, Nat.reduceLeDiff, Nat.reduceLT, Nat.reduceEqDiff, Int.reduceToNat, eq_self, rulesT, rulesD, RJ.r0, RJ.r2, RJ.r3, RJ.r4, *]
    | (refine allK_intro fun n hn => ?_; try simp only [fresh_set] at hn)
    | (refine ifK_intro (fun h => ?_) (fun h => ?_) <;> (try simp only [rulesE] at h) <;> try (exfalso; (try simp only [rulesF] at h); omega))
    | (refine keeps_sub (Mem.sub_set ?_) ?_; focus (simp [Mem.set_at, nomem, *]; done))
  all_goals
    refine New.eq ?_ rfl
    unfold roomJ RJ.j
    dsimp only
    refine congrArg (fun z => AV.val (.int .i64 z)) ?_
    (repeat' split) <;> omega
theorem F44 (r : RJ) (d : Dev) (pk : Int) (x y : Bool) (hm : d.laid.length ≤ 4096) (hl : d.list.length ≤ 4096) (hf : r.f ≤ 4096) (k : Nat) (hk : k ≤ 8192) : F Try.prog 44 [.vp (r.rc d pk x y) 0, .val (.int .i64 k)] (.val (.int .i64 (numAt d (r.f + k)))) := by
  have hr := F55 d pk x y hm hl ((r.f + k : Nat) : Int)
  rw [Int.toNat_natCast] at hr
  have ek : (r.f : Int) + (k : Int) = ((r.f + k : Nat) : Int) := by omega
  refine F44_of ?_
  unfold k44
  by_cases hE : readE d ((r.f + k : Nat) : Int) = 0
  · rw [if_pos hE, hE] at hr
    have en : numAt d (r.f + k) = numS (readS d (r.f + k)) := if_pos hE
    rw [en]
    clear en hE
    generalize readS d (r.f + k) = s at hr
    have hs := s.h
    obtain ⟨q, hq⟩ : ∃ q, q = (s.l.drop 1).take 8 := ⟨_, rfl⟩
    have hq8 : q.length = 8 := by rw [hq, List.length_take, List.length_drop, hs]; rfl
    have s1 := fun m => rlohi_44 m s.l false .i64 .i64 1 9 (by decide) (by decide) (by rw [hs]; decide)
    simp only [Int.reduceToNat, Nat.reduceSub, ← hq] at s1
    have e0 : (s.l.getD 0 default).toNat = kindS s := rfl
    have hb := F56 q
    rw [hq8] at hb
    have hg := getTo_lt q 8
    have en : Kept (numS s = if kindS s ≠ 1 ∧ kindS s ≠ 2 then 0 else if getTo q 8 ≤ 4611686018427387904 then getTo q 8 else 0) := by rw [hq]; exact rfl
    clear hq
    repeat' first
      | simp -dsimp (disch := omega) only [↓rulesA, rulesB, rulesC, Int.reduceLT, nth, upd, put, storeN, AV.one, Nat.reduceBEq, Nat.reduceBNe, Int.reduceBEq, Int.reduceBNe, Int.reduceLE, Int.reduceEq, Int.reduceMod, Int.reduceNeg, boolBin, strBin, intBin, unA, fillA, ne_eq, reduceCtorEq, Nat.reduceAdd, Nat.reduceSub, Nat.reduceLeDiff, Nat.reduceLT, Nat.reduceEqDiff, Int.reduceToNat, eq_self, rulesT, rulesD, RJ.r0, RJ.r1, ix_44, byte_g0, e0, *]
      | (refine allK_intro fun n hn => ?_; try simp only [fresh_set] at hn)
      | (refine ifK_intro (fun h => ?_) (fun h => ?_) <;> (try simp only [rulesE] at h) <;> try (exfalso; (try simp only [rulesF] at h); omega))
      | (refine keeps_sub (Mem.sub_set ?_) ?_; focus (simp [Mem.set_at, nomem, *]; done))
      | (refine call_F (hr) (Seens.refl _ _) ?_)
      | (refine pure_F (hr) (Seens.refl _ _) ?_)
      | (refine call_F (hb _ (Nat.le_refl _)) (Seens.refl _ _) ?_)
      | (refine pure_F (hb _ (Nat.le_refl _)) (Seens.refl _ _) ?_)
    all_goals
      clear s1 hr hb
      have en' : numS s = _ := en
      refine New.eq ?_ rfl
      rw [en']
      clear en en'
      refine congrArg (fun z => AV.val (.int .i64 z)) ?_
      simp only [bne_iff_ne, bne_eq_false_iff_eq, ne_eq] at *
      (repeat' split) <;> omega
  · have en : numAt d (r.f + k) = 0 := if_neg hE
    rw [en]
    rw [if_neg hE] at hr
    have hne : (readE d ((r.f + k : Nat) : Int) != 0) = true := by simpa using hE
    repeat' first
      | simp -dsimp (disch := omega) only [↓rulesA, rulesB, rulesC, Int.reduceLT, nth, upd, put, storeN, AV.one, Nat.reduceBEq, Nat.reduceBNe, Int.reduceBEq, Int.reduceBNe, Int.reduceLE, Int.reduceEq, Int.reduceMod, Int.reduceNeg, boolBin, strBin, intBin, unA, fillA, ne_eq, reduceCtorEq, Nat.reduceAdd, Nat.reduceSub, Nat.reduceLeDiff, Nat.reduceLT, Nat.reduceEqDiff, Int.reduceToNat, eq_self, rulesT, rulesD, RJ.r0, RJ.r1, *]
      | (refine allK_intro fun n hn => ?_; try simp only [fresh_set] at hn)
      | (refine ifK_intro (fun h => ?_) (fun h => ?_) <;> (try simp only [rulesE] at h) <;> try (exfalso; (try simp only [rulesF] at h); omega))
      | (refine keeps_sub (Mem.sub_set ?_) ?_; focus (simp [Mem.set_at, nomem, *]; done))
      | (refine call_F (hr) (Seens.refl _ _) ?_)
      | (refine pure_F (hr) (Seens.refl _ _) ?_)
    exact .val
end Go.Proofs.Ytlkeailgccbmbaa

set_option maxRecDepth 100000
set_option maxHeartbeats 1000000
set_option linter.unusedSimpArgs false
set_option linter.unusedVariables false
namespace Go.Proofs.Ytlkeailgccbmbaa
open Go.Abs
attribute [local irreducible] C X CC Y CV CW binK litK AppK PureC PureCV againK loopV rangeV allK ifK got onB condK V stepsK planK opK firstK seeE keepsK
def readK (e : Nat) (d : Dev) (a : Nat) : List UInt8 × Bool :=
  if readE d a = 0 ∧ kindS (readS d a) = 1 ∧ a + needN (lenS (readS d a)) ≤ e ∧ allGo d a (numAt d a) (needN (lenS (readS d a)) - 1) = true then
    ((recTo d a (needN (lenS (readS d a)) - 1)).take (lenS (readS d a)), crcN (((readS d a).l.drop 1).take 12 ++ (recTo d a (needN (lenS (readS d a)) - 1)).take (lenS (readS d a))) == wantS (readS d a))
  else ([], false)
def readKC (r : List UInt8 × Bool) : AV := .tup [.val (.string ⟨r.1.toArray⟩), .val (.bool r.2)]
def twoO (a b : Option AV) : Option AV := match a, b with
  | some a, some b => some (.tup [a, b])
  | _, _ => none
theorem twoO_some (a b : AV) : twoO (some a) (some b) = some (.tup [a, b]) := Eq.trans rfl rfl
theorem resL_twoO (P : Program) (m : Mem) (env : List AV) (x y : ResultVar) : resL P m env [x, y] = twoO (resOne P m env x) (resOne P m env y) := by
  simp only [resL, List.mapM_cons, List.mapM_nil, twoO]
  cases resOne P m env x <;> cases resOne P m env y <;> rfl
theorem byte_srcN (l : List UInt8) {m : Mem} {n cap q : Nat} {opn : Bool} {t : TypeId} (hm : m n = some (.cells opn t (l.map byteC).flatten)) (hq : q ≤ l.length) : srcA Try.prog m 44 1 (.sl n 0 q cap) = some ((l.take q).length, ((l.take q).map byteC).flatten) := by
  have h := src_own (xt := 44) ti_44 rfl (s := 1) (k := 0) (q := q) (cap := cap) hm (fun e he => by obtain ⟨a, _, rfl⟩ := List.mem_map.1 he; rfl) (by simp; exact hq) (fun x hx => by
    rw [List.drop_zero, ← List.map_take] at hx
    exact List.all_eq_true.1 (bytes_all _) x hx)
  rw [List.drop_zero, ← List.map_take, Nat.zero_mul] at h
  rw [h, List.length_take, Nat.min_eq_left hq]
theorem F43 (r : RJ) (d : Dev) (pk : Int) (x y : Bool) (hm : d.laid.length ≤ 4096) (hl : d.list.length ≤ 4096) (hf : r.f ≤ 4096) (hc : r.f + r.c ≤ 4096) (k : Nat) (hk : k ≤ 4096) : F Try.prog 43 [.vp (r.rc d pk x y) 0, .val (.int .i64 k)] (readKC (readK (r.f + r.c) d (r.f + k))) := by
  obtain ⟨a, ha⟩ : ∃ a, a = r.f + k := ⟨_, rfl⟩
  have hr := F55 d pk x y hm hl (a : Int)
  rw [Int.toNat_natCast] at hr
  have h44 := F44 r d pk x y hm hl hf
  have h44a := h44 k (by omega)
  rw [← ha] at h44a ⊢
  have ea : (r.f : Int) + (k : Int) = (a : Int) := by omega
  refine F43_of ?_
  unfold k43
  by_cases hE : readE d a = 0
  · by_cases hk : kindS (readS d a) = 1
    · rw [if_pos hE, hE] at hr
      obtain ⟨s, es⟩ : ∃ s, s = readS d a := ⟨_, rfl⟩
      rw [← es] at hr hk
      have hs := s.h
      obtain ⟨q1, hq1⟩ : ∃ q, q = (s.l.drop 9).take 4 := ⟨_, rfl⟩
      obtain ⟨q2, hq2⟩ : ∃ q, q = (s.l.drop 13).take 4 := ⟨_, rfl⟩
      obtain ⟨q3, hq3⟩ : ∃ q, q = (s.l.drop 1).take 12 := ⟨_, rfl⟩
      have hl1 : q1.length = 4 := by rw [hq1, List.length_take, List.length_drop, hs]; rfl
      have hl2 : q2.length = 4 := by rw [hq2, List.length_take, List.length_drop, hs]; rfl
      have hl3 : q3.length = 12 := by rw [hq3, List.length_take, List.length_drop, hs]; rfl
      have s1 := fun m => rlohi_44 m s.l false .i64 .i64 9 13 (by decide) (by decide) (by rw [hs]; decide)
      have s2 := fun m => rlohi_44 m s.l false .i64 .i64 13 17 (by decide) (by decide) (by rw [hs]; decide)
      have s3 := fun m => rlo_44 m s.l false .i64 17 (by decide) (by rw [hs]; decide)
      have s4 := fun m => rlohi_44 m s.l false .i64 .i64 1 13 (by decide) (by decide) (by rw [hs]; decide)
      simp only [Int.reduceToNat, Nat.reduceSub, ← hq1] at s1
      simp only [Int.reduceToNat, Nat.reduceSub, ← hq2] at s2
      simp only [Int.reduceToNat] at s3
      simp only [Int.reduceToNat, Nat.reduceSub, ← hq3] at s4
      have g1 : ∀ x, F Try.prog 56 [.vs (q1.map byteC) x] (.val (.int .u64 (lenS s))) := fun x => by
        have := F56 q1 x (by omega); rw [hl1, hq1] at this; rw [hq1]; exact this
      have g2 : ∀ x, F Try.prog 56 [.vs (q2.map byteC) x] (.val (.int .u64 (wantS s))) := fun x => by
        have := F56 q2 x (by omega); rw [hl2, hq2] at this; rw [hq2]; exact this
      have hn := lenS_lt s
      have hw := wantS_lt s
      have e0 : (s.l.getD 0 default).toNat = kindS s := rfl
      have hne : ((kindS s : Int) != 1) = false := by rw [hk]; rfl
      have hnp := needN_pos (lenS s)
      have hnl : needN (lenS s) < 4294967296 := by unfold needN; split <;> omega
      have h30 := F30 (lenS s) (by omega)
      by_cases hroom : a + needN (lenS s) ≤ r.f + r.c
      · obtain ⟨p, hp⟩ : ∃ p, needN (lenS s) = p + 1 := ⟨needN (lenS s) - 1, by omega⟩
        have hpm : p < 4096 := by omega
        have hroomk := need_room hp
        have hng : ¬ ((k : Int) + ((p + 1 : Nat) : Int)) > (r.c : Int) := by omega
        rw [hp] at h30
        have hfail : ∀ i, i < p → goOk d a (numAt d a) (i + 1) = false → readK (r.f + r.c) d a = ([], false) := fun i hi hg => if_neg (fun h => by
          have h4 := h.2.2.2
          rw [← es, hp, Nat.add_sub_cancel, allGo_not hg p hi] at h4
          cases h4)
        have hdone : allGo d a (numAt d a) p = true → readK (r.f + r.c) d a = ((recTo d a p).take (lenS s), crcN (q3 ++ (recTo d a p).take (lenS s)) == wantS s) := fun hg => by
          unfold readK
          rw [← es, hp, Nat.add_sub_cancel, if_pos ⟨hE, hk, by omega, hg⟩, hq3]
        have er0 : recTo d a 0 = s.l.drop 17 := by rw [es]; rfl
        clear hq1 hq2 hq3
        replace ha : Kept _ := ha
        replace es : Kept _ := es
        replace hfail : Kept _ := hfail
        replace hdone : Kept _ := hdone
        repeat' first
          | simp -dsimp (disch := omega) only [↓rulesA, rulesB, rulesC, Int.reduceLT, nth, upd, put, storeN, AV.one, Nat.reduceBEq, Nat.reduceBNe, Int.reduceBEq, Int.reduceBNe, Int.reduceLE, Int.reduceEq, Int.reduceMod, Int.reduceNeg, boolBin, strBin, intBin, unA, fillA, ne_eq, reduceCtorEq, Nat.reduceAdd, Nat.reduceSub, Nat.reduceLeDiff, Nat.reduceLT, Nat.reduceEqDiff, Int.reduceToNat, eq_self, rulesT, rulesD, RJ.r0, RJ.r1, RJ.r2, ix_44, byte_g0, e0, *]
          | (refine allK_intro fun n hn => ?_; try simp only [fresh_set] at hn)
          | (refine ifK_intro (fun h => ?_) (fun h => ?_) <;> (try simp only [rulesE] at h) <;> try (exfalso; (try simp only [rulesF] at h); omega))
          | (refine keeps_sub (Mem.sub_set ?_) ?_; focus (simp [Mem.set_at, nomem, *]; done))
          | (refine call_F (h44a) (Seens.refl _ _) ?_)
          | (refine pure_F (h44a) (Seens.refl _ _) ?_)
          | (refine call_F (hr) (Seens.refl _ _) ?_)
          | (refine pure_F (hr) (Seens.refl _ _) ?_)
          | (refine call_F (g1 _) (Seens.refl _ _) ?_)
          | (refine pure_F (g1 _) (Seens.refl _ _) ?_)
          | (refine call_F (h30) (Seens.refl _ _) ?_)
          | (refine pure_F (h30) (Seens.refl _ _) ?_)
        refine append_nil app_44 (src_44' _ (s.l.drop 17) _) (by show (s.l.drop 17).length * 1 ≤ _; rw [List.length_drop, hs]; decide) fun N hN => ?_
        repeat' first
          | simp -dsimp (disch := omega) only [↓rulesA, rulesB, rulesC, Int.reduceLT, nth, upd, put, storeN, AV.one, Nat.reduceBEq, Nat.reduceBNe, Int.reduceBEq, Int.reduceBNe, Int.reduceLE, Int.reduceEq, Int.reduceMod, Int.reduceNeg, boolBin, strBin, intBin, unA, fillA, ne_eq, reduceCtorEq, Nat.reduceAdd, Nat.reduceSub, Nat.reduceLeDiff, Nat.reduceLT, Nat.reduceEqDiff, Int.reduceToNat, eq_self, rulesT, rulesD, *]
          | (refine allK_intro fun n hn => ?_; try simp only [fresh_set] at hn)
          | (refine ifK_intro (fun h => ?_) (fun h => ?_) <;> (try simp only [rulesE] at h) <;> try (exfalso; (try simp only [rulesF] at h); omega))
          | (refine keeps_sub (Mem.sub_set ?_) ?_; focus (simp [Mem.set_at, nomem, *]; done))
        clear g1 s1 s3 hroom
        refine loop_intro (fun jj env m => ∃ (i : Nat), i ≤ p ∧ jj = p - i ∧ Own (recTo d a i) (nth env 9) m ∧ allGo d a (numAt d a) i = true ∧ env.length = 118 ∧ nth env 0 = .vp (r.rc d pk x y) 0 ∧ nth env 1 = .val (.int .i64 k) ∧ nth env 6 = .vs (s.l.map byteC) false ∧ nth env 8 = .val (.int .i64 (lenS s)) ∧ nth env 10 = .val (.int .i64 ((i : Int) + 1))) p _ (Mem.sub.refl _) ⟨0, by omega, by omega, ?_, rfl, ?_, ?_, ?_, ?_, ?_, ?_⟩ ?_
        · rw [er0]
          exact ⟨N, rfl, rfl⟩
        rotate_left 6
        · clear hr er0
          rintro jj env m ⟨i, hi, rfl, ⟨N', rfl, er⟩, hgo, hlen, e0', e1, e6, e8, e10⟩
          by_cases hik : i < p
          · have ea2 : (a : Int) + ((i : Int) + 1) = ((a + (i + 1) : Nat) : Int) := by omega
            have ek2 : (k : Int) + ((i : Int) + 1) = ((k + (i + 1) : Nat) : Int) := by omega
            have hr' := F55 d pk x y hm hl ((a + (i + 1) : Nat) : Int)
            rw [Int.toNat_natCast] at hr'
            have h44' := h44 (k + (i + 1)) (by omega)
            rw [show r.f + (k + (i + 1)) = a + (i + 1) by rw [(ha : _ = _)]; omega] at h44'
            cases hg : goOk d a (numAt d a) (i + 1) with
            | true =>
              have hg' := hg
              unfold goOk at hg'
              obtain ⟨b1, b2, b3⟩ := of_decide_eq_true hg'
              rw [if_pos b1, b1] at hr'
              rw [b3] at h44'
              have hgo2 : Kept (allGo d a (numAt d a) (i + 1) = true) := by show allGo d a (numAt d a) (i + 1) = true; unfold allGo; rw [hgo, hg]; rfl
              have hrec : recTo d a (i + 1) = recTo d a i ++ (readS d (a + (i + 1))).l.drop 9 := rfl
              obtain ⟨t, et⟩ : ∃ t, t = readS d (a + (i + 1)) := ⟨_, rfl⟩
              rw [← et] at hr' hrec b2
              have ht := t.h
              have e0t : (t.l.getD 0 default).toNat = kindS t := rfl
              have hk2 : ((kindS t : Int) != 2) = false := by rw [b2]; rfl
              have s5 := fun m => rlo_44 m t.l false .i64 9 (by decide) (by rw [ht]; decide)
              simp only [Int.reduceToNat] at s5
              have hlr : Kept _ := recTo_len d a i
              clear et b1 b2 b3 hg hg' hgo
              replace hrec : Kept _ := hrec
              repeat' first
                | simp -dsimp (disch := omega) only [↓rulesA, rulesB, rulesC, Int.reduceLT, nth, upd, put, storeN, AV.one, Nat.reduceBEq, Nat.reduceBNe, Int.reduceBEq, Int.reduceBNe, Int.reduceLE, Int.reduceEq, Int.reduceMod, Int.reduceNeg, boolBin, strBin, intBin, unA, fillA, ne_eq, reduceCtorEq, Nat.reduceAdd, Nat.reduceSub, Nat.reduceLeDiff, Nat.reduceLT, Nat.reduceEqDiff, Int.reduceToNat, eq_self, rulesT, rulesD, RJ.r0, RJ.r1, ix_44, byte_g0, e0t, *]
                | (refine allK_intro fun n hn => ?_; try simp only [fresh_set] at hn)
                | (refine ifK_intro (fun h => ?_) (fun h => ?_) <;> (try simp only [rulesE] at h) <;> try (exfalso; (try simp only [rulesF] at h); omega))
                | (refine keeps_sub (Mem.sub_set ?_) ?_; focus (simp [Mem.set_at, nomem, *]; done))
                | (refine call_F (hr') (Seens.refl _ _) ?_)
                | (refine pure_F (hr') (Seens.refl _ _) ?_)
                | (refine call_F (h44') (Seens.refl _ _) ?_)
                | (refine pure_F (h44') (Seens.refl _ _) ?_)
                | (refine call_F (h44a) (Seens.refl _ _) ?_)
                | (refine pure_F (h44a) (Seens.refl _ _) ?_)
                | (refine call_F (h30) (Seens.refl _ _) ?_)
                | (refine pure_F (h30) (Seens.refl _ _) ?_)
              refine Own.app (l := recTo d a i) ⟨N', rfl, rfl⟩ (t.l.drop 9) (by rw [List.length_drop, ht, (hlr : _ = _)]; omega) app_44 (src_44' _ (t.l.drop 9) _) fun r' m' hO => ?_
              rw [← (hrec : _ = _)] at hO
              have e : Kept (∀ w, w = r' → Own (recTo d a (i + 1)) w m') := fun w hw => by rw [hw]; exact hO
              clear hO hrec
              repeat' first
                | simp -dsimp (disch := omega) only [↓rulesA, rulesB, rulesC, Int.reduceLT, nth, upd, put, storeN, AV.one, Nat.reduceBEq, Nat.reduceBNe, Int.reduceBEq, Int.reduceBNe, Int.reduceLE, Int.reduceEq, Int.reduceMod, Int.reduceNeg, boolBin, strBin, intBin, unA, fillA, ne_eq, reduceCtorEq, Nat.reduceAdd, Nat.reduceSub, Nat.reduceLeDiff, Nat.reduceLT, Nat.reduceEqDiff, Int.reduceToNat, eq_self, rulesT, rulesD, *]
                | (refine allK_intro fun n hn => ?_; try simp only [fresh_set] at hn)
                | (refine ifK_intro (fun h => ?_) (fun h => ?_) <;> (try simp only [rulesE] at h) <;> try (exfalso; (try simp only [rulesF] at h); omega))
                | (refine keeps_sub (Mem.sub_set ?_) ?_; focus (simp [Mem.set_at, nomem, *]; done))
              refine again_intro (p - (i + 1)) (by omega) _ (Mem.sub.refl _) ⟨i + 1, by omega, rfl, (e : ∀ _, _) _ ?_, hgo2, ?_, ?_, ?_, ?_, ?_, ?_⟩
              all_goals try (simp (disch := omega) only [nth_upd, pickB_true, pickB_false, inB_lt, upd_len, cast_succ, Int.cast_ofNat_Int, Nat.reduceBEq, beq_self_eq_true, reduceCtorEq, *]; done)
            | false =>
              have e := (hfail : ∀ _, _) i hik hg
              rw [e]
              by_cases b1 : readE d ((a + (i + 1) : Nat) : Int) = 0
              · rw [if_pos b1, b1] at hr'
                obtain ⟨t, et⟩ : ∃ t, t = readS d (a + (i + 1)) := ⟨_, rfl⟩
                rw [← et] at hr'
                have ht := t.h
                have e0t : (t.l.getD 0 default).toNat = kindS t := rfl
                by_cases b2 : kindS t = 2
                · have hk2 : ((kindS t : Int) != 2) = false := by rw [b2]; rfl
                  have b3 : ¬ numAt d (a + (i + 1)) = numAt d a := fun b3 => by
                    rw [show goOk d a (numAt d a) (i + 1) = true from decide_eq_true ⟨b1, by rw [← et]; exact b2, b3⟩] at hg
                    cases hg
                  have hn3 : ((numAt d (a + (i + 1)) : Int) != (numAt d a : Int)) = true := by simp; omega
                  clear et b1 b2 b3 hg hgo
                  repeat' first
                    | simp -dsimp (disch := omega) only [↓rulesA, rulesB, rulesC, Int.reduceLT, nth, upd, put, storeN, AV.one, Nat.reduceBEq, Nat.reduceBNe, Int.reduceBEq, Int.reduceBNe, Int.reduceLE, Int.reduceEq, Int.reduceMod, Int.reduceNeg, boolBin, strBin, intBin, unA, fillA, ne_eq, reduceCtorEq, Nat.reduceAdd, Nat.reduceSub, Nat.reduceLeDiff, Nat.reduceLT, Nat.reduceEqDiff, Int.reduceToNat, eq_self, rulesT, rulesD, RJ.r0, RJ.r1, ix_44, byte_g0, e0t, resL_twoO, twoO_some, *]
                    | (refine allK_intro fun n hn => ?_; try simp only [fresh_set] at hn)
                    | (refine ifK_intro (fun h => ?_) (fun h => ?_) <;> (try simp only [rulesE] at h) <;> try (exfalso; (try simp only [rulesF] at h); omega))
                    | (refine keeps_sub (Mem.sub_set ?_) ?_; focus (simp [Mem.set_at, nomem, *]; done))
                    | (refine call_F (hr') (Seens.refl _ _) ?_)
                    | (refine pure_F (hr') (Seens.refl _ _) ?_)
                    | (refine call_F (h44') (Seens.refl _ _) ?_)
                    | (refine pure_F (h44') (Seens.refl _ _) ?_)
                    | (refine call_F (h44a) (Seens.refl _ _) ?_)
                    | (refine pure_F (h44a) (Seens.refl _ _) ?_)
                    | (refine call_F (h30) (Seens.refl _ _) ?_)
                    | (refine pure_F (h30) (Seens.refl _ _) ?_)
                  exact .two .val .val
                · have hk2 : ((kindS t : Int) != 2) = true := by simp; omega
                  clear et b1 b2 hg hgo
                  repeat' first
                    | simp -dsimp (disch := omega) only [↓rulesA, rulesB, rulesC, Int.reduceLT, nth, upd, put, storeN, AV.one, Nat.reduceBEq, Nat.reduceBNe, Int.reduceBEq, Int.reduceBNe, Int.reduceLE, Int.reduceEq, Int.reduceMod, Int.reduceNeg, boolBin, strBin, intBin, unA, fillA, ne_eq, reduceCtorEq, Nat.reduceAdd, Nat.reduceSub, Nat.reduceLeDiff, Nat.reduceLT, Nat.reduceEqDiff, Int.reduceToNat, eq_self, rulesT, rulesD, RJ.r0, RJ.r1, ix_44, byte_g0, e0t, resL_twoO, twoO_some, *]
                    | (refine allK_intro fun n hn => ?_; try simp only [fresh_set] at hn)
                    | (refine ifK_intro (fun h => ?_) (fun h => ?_) <;> (try simp only [rulesE] at h) <;> try (exfalso; (try simp only [rulesF] at h); omega))
                    | (refine keeps_sub (Mem.sub_set ?_) ?_; focus (simp [Mem.set_at, nomem, *]; done))
                    | (refine call_F (hr') (Seens.refl _ _) ?_)
                    | (refine pure_F (hr') (Seens.refl _ _) ?_)
                    | (refine call_F (h30) (Seens.refl _ _) ?_)
                    | (refine pure_F (h30) (Seens.refl _ _) ?_)
                  exact .two .val .val
              · rw [if_neg b1] at hr'
                have hne' : (readE d ((a + (i + 1) : Nat) : Int) != 0) = true := by simpa using b1
                clear b1 hg hgo
                repeat' first
                  | simp -dsimp (disch := omega) only [↓rulesA, rulesB, rulesC, Int.reduceLT, nth, upd, put, storeN, AV.one, Nat.reduceBEq, Nat.reduceBNe, Int.reduceBEq, Int.reduceBNe, Int.reduceLE, Int.reduceEq, Int.reduceMod, Int.reduceNeg, boolBin, strBin, intBin, unA, fillA, ne_eq, reduceCtorEq, Nat.reduceAdd, Nat.reduceSub, Nat.reduceLeDiff, Nat.reduceLT, Nat.reduceEqDiff, Int.reduceToNat, eq_self, rulesT, rulesD, RJ.r0, RJ.r1, ix_44, byte_g0, resL_twoO, twoO_some, *]
                  | (refine allK_intro fun n hn => ?_; try simp only [fresh_set] at hn)
                  | (refine ifK_intro (fun h => ?_) (fun h => ?_) <;> (try simp only [rulesE] at h) <;> try (exfalso; (try simp only [rulesF] at h); omega))
                  | (refine keeps_sub (Mem.sub_set ?_) ?_; focus (simp [Mem.set_at, nomem, *]; done))
                  | (refine call_F (hr') (Seens.refl _ _) ?_)
                  | (refine pure_F (hr') (Seens.refl _ _) ?_)
                  | (refine call_F (h30) (Seens.refl _ _) ?_)
                  | (refine pure_F (h30) (Seens.refl _ _) ?_)
                exact .two .val .val
          · have : i = p := by omega
            subst this
            have e := (hdone : _ → _) hgo
            rw [e]
            have hlr := recTo_len d a i
            clear hfail hdone hgo
            obtain ⟨L, eL⟩ : ∃ L, L = recTo d a i := ⟨_, rfl⟩
            rw [← eL] at er hlr ⊢
            have hq : (L.take (lenS s)).length ≤ 1000000 := Nat.le_trans (List.length_take_le _ _) (Nat.le_trans hroomk (small_rec hpm))
            have hle : lenS s ≤ L.length := by rw [hlr]; exact hroomk
            clear eL
            repeat' first
              | simp -dsimp (disch := omega) only [↓rulesA, rulesB, rulesC, Int.reduceLT, nth, upd, put, storeN, AV.one, Nat.reduceBEq, Nat.reduceBNe, Int.reduceBEq, Int.reduceBNe, Int.reduceLE, Int.reduceEq, Int.reduceMod, Int.reduceNeg, boolBin, strBin, intBin, unA, fillA, ne_eq, reduceCtorEq, Nat.reduceAdd, Nat.reduceSub, Nat.reduceLeDiff, Nat.reduceLT, Nat.reduceEqDiff, Int.reduceToNat, eq_self, rulesT, rulesD, cs_5, *]
              | (refine allK_intro fun n hn => ?_; try simp only [fresh_set] at hn)
              | (refine ifK_intro (fun h => ?_) (fun h => ?_) <;> (try simp only [rulesE] at h) <;> try (exfalso; (try simp only [rulesF] at h); omega))
              | (refine keeps_sub (Mem.sub_set ?_) ?_; focus (simp [Mem.set_at, nomem, *]; done))
              | (refine call_F (h30) (Seens.refl _ _) ?_)
              | (refine pure_F (h30) (Seens.refl _ _) ?_)
            refine append_nil app_44 (src_44' _ q3 _) (by show q3.length * 1 ≤ _; rw [hl3]; decide) fun N2 hN2 => ?_
            simp only [fresh_set] at hN2
            have hN2' := hN2.1
            have hN2'' := hN2.2.1
            repeat' first
              | simp -dsimp (disch := omega) only [↓rulesA, rulesB, rulesC, Int.reduceLT, nth, upd, put, storeN, AV.one, Nat.reduceBEq, Nat.reduceBNe, Int.reduceBEq, Int.reduceBNe, Int.reduceLE, Int.reduceEq, Int.reduceMod, Int.reduceNeg, boolBin, strBin, intBin, unA, fillA, ne_eq, reduceCtorEq, Nat.reduceAdd, Nat.reduceSub, Nat.reduceLeDiff, Nat.reduceLT, Nat.reduceEqDiff, Int.reduceToNat, eq_self, rulesT, rulesD, cs_5, *]
              | (refine allK_intro fun n hn => ?_; try simp only [fresh_set] at hn)
              | (refine ifK_intro (fun h => ?_) (fun h => ?_) <;> (try simp only [rulesE] at h) <;> try (exfalso; (try simp only [rulesF] at h); omega))
              | (refine keeps_sub (Mem.sub_set ?_) ?_; focus (simp [Mem.set_at, nomem, *]; done))
            rw [← hl3]
            refine app_own (l' := q3 ++ L.take (lenS s)) (by simp [Mem.set_at, *]) app_44 (by rw [hl3]; omega) (srcB_of (byte_srcN (opn := true) (t := 5) L (by simp [Mem.set_at, *]) hle)) rfl fun N3 hN3 => ?_
            simp only [fresh_set] at hN3
            have hcv : ∀ cap, convA Try.prog ((nomem.set N' (.cells true 5 (L.map byteC).flatten)).set N3 (.cells true 5 ((q3 ++ L.take (lenS s)).map byteC).flatten)) 44 9 (.sl N' 0 (lenS s) cap) = some (.val (.string ⟨(L.take (lenS s)).toArray⟩)) := fun cap =>
              conv_own ti_44 rfl ti_9 rfl ti_5 rfl (opn := true) (t := 5) (cs := (L.map byteC).flatten) (by simp [Mem.set_at, *]) _ (by rw [flat_bytes, flat_bytes, ← List.map_drop, ← List.map_take, List.drop_zero]) (by rw [flatten_one]; omega)
            have f57 := F57 (q3 ++ L.take (lenS s)) false (by rw [List.length_append]; omega)
            have hcl := crcN_lt (q3 ++ L.take (lenS s))
            have c1 := conv64 (crcN (q3 ++ L.take (lenS s))) (by omega)
            replace e : Kept _ := e
            repeat' first
              | simp -dsimp (disch := omega) only [↓rulesA, rulesB, rulesC, Int.reduceLT, nth, upd, put, storeN, AV.one, Nat.reduceBEq, Nat.reduceBNe, Int.reduceBEq, Int.reduceBNe, Int.reduceLE, Int.reduceEq, Int.reduceMod, Int.reduceNeg, boolBin, strBin, intBin, unA, fillA, ne_eq, reduceCtorEq, Nat.reduceAdd, Nat.reduceSub, Nat.reduceLeDiff, Nat.reduceLT, Nat.reduceEqDiff, Int.reduceToNat, eq_self, rulesT, rulesD, cs_5, resL_twoO, twoO_some, beq_cast, hcv, *]
              | (refine allK_intro fun n hn => ?_; try simp only [fresh_set] at hn)
              | (refine ifK_intro (fun h => ?_) (fun h => ?_) <;> (try simp only [rulesE] at h) <;> try (exfalso; (try simp only [rulesF] at h); omega))
              | (refine keeps_sub (Mem.sub_set ?_) ?_; focus (simp [Mem.set_at, nomem, *]; done))
              | (refine call_F (f57) (.one (byte_seen _ (Mem.set_same _ _ _))) ?_)
              | (refine pure_F (f57) (.one (byte_seen _ (Mem.set_same _ _ _))) ?_)
              | (refine call_F (g2 _) (Seens.refl _ _) ?_)
              | (refine pure_F (g2 _) (Seens.refl _ _) ?_)
            exact .two .val .val
        all_goals first | rfl | skip
      · have e : readK (r.f + r.c) d a = ([], false) := if_neg (fun h => hroom (by rw [es]; exact h.2.2.1))
        rw [e]
        have hgt : ((k : Int) + (needN (lenS s) : Int)) > (r.c : Int) := by omega
        clear hq1 hq2 hq3
        replace ha : Kept _ := ha
        replace es : Kept _ := es
        repeat' first
          | simp -dsimp (disch := omega) only [↓rulesA, rulesB, rulesC, Int.reduceLT, nth, upd, put, storeN, AV.one, Nat.reduceBEq, Nat.reduceBNe, Int.reduceBEq, Int.reduceBNe, Int.reduceLE, Int.reduceEq, Int.reduceMod, Int.reduceNeg, boolBin, strBin, intBin, unA, fillA, ne_eq, reduceCtorEq, Nat.reduceAdd, Nat.reduceSub, Nat.reduceLeDiff, Nat.reduceLT, Nat.reduceEqDiff, Int.reduceToNat, eq_self, rulesT, rulesD, RJ.r0, RJ.r1, RJ.r2, ix_44, byte_g0, e0, resL_twoO, twoO_some, *]
          | (refine allK_intro fun n hn => ?_; try simp only [fresh_set] at hn)
          | (refine ifK_intro (fun h => ?_) (fun h => ?_) <;> (try simp only [rulesE] at h) <;> try (exfalso; (try simp only [rulesF] at h); omega))
          | (refine keeps_sub (Mem.sub_set ?_) ?_; focus (simp [Mem.set_at, nomem, *]; done))
          | (refine call_F (h44a) (Seens.refl _ _) ?_)
          | (refine pure_F (h44a) (Seens.refl _ _) ?_)
          | (refine call_F (hr) (Seens.refl _ _) ?_)
          | (refine pure_F (hr) (Seens.refl _ _) ?_)
          | (refine call_F (g1 _) (Seens.refl _ _) ?_)
          | (refine pure_F (g1 _) (Seens.refl _ _) ?_)
          | (refine call_F (h30) (Seens.refl _ _) ?_)
          | (refine pure_F (h30) (Seens.refl _ _) ?_)
        exact .two .val .val
    · have e : readK (r.f + r.c) d a = ([], false) := if_neg (fun h => hk h.2.1)
      rw [e]
      rw [if_pos hE, hE] at hr
      have hs := (readS d a).h
      have e0 : ((readS d a).l.getD 0 default).toNat = kindS (readS d a) := rfl
      have hne : ((kindS (readS d a) : Int) != 1) = true := by simp; omega
      replace ha : Kept _ := ha
      repeat' first
        | simp -dsimp (disch := omega) only [↓rulesA, rulesB, rulesC, Int.reduceLT, nth, upd, put, storeN, AV.one, Nat.reduceBEq, Nat.reduceBNe, Int.reduceBEq, Int.reduceBNe, Int.reduceLE, Int.reduceEq, Int.reduceMod, Int.reduceNeg, boolBin, strBin, intBin, unA, fillA, ne_eq, reduceCtorEq, Nat.reduceAdd, Nat.reduceSub, Nat.reduceLeDiff, Nat.reduceLT, Nat.reduceEqDiff, Int.reduceToNat, eq_self, rulesT, rulesD, RJ.r0, RJ.r1, RJ.r2, ix_44, byte_g0, e0, resL_twoO, twoO_some, *]
        | (refine allK_intro fun n hn => ?_; try simp only [fresh_set] at hn)
        | (refine ifK_intro (fun h => ?_) (fun h => ?_) <;> (try simp only [rulesE] at h) <;> try (exfalso; (try simp only [rulesF] at h); omega))
        | (refine keeps_sub (Mem.sub_set ?_) ?_; focus (simp [Mem.set_at, nomem, *]; done))
        | (refine call_F (hr) (Seens.refl _ _) ?_)
        | (refine pure_F (hr) (Seens.refl _ _) ?_)
      exact .two .val .val
  · have e : readK (r.f + r.c) d a = ([], false) := if_neg (fun h => hE h.1)
    rw [e]
    rw [if_neg hE] at hr
    have hne : (readE d a != 0) = true := by simpa using hE
    replace ha : Kept _ := ha
    repeat' first
      | simp -dsimp (disch := omega) only [↓rulesA, rulesB, rulesC, Int.reduceLT, nth, upd, put, storeN, AV.one, Nat.reduceBEq, Nat.reduceBNe, Int.reduceBEq, Int.reduceBNe, Int.reduceLE, Int.reduceEq, Int.reduceMod, Int.reduceNeg, boolBin, strBin, intBin, unA, fillA, ne_eq, reduceCtorEq, Nat.reduceAdd, Nat.reduceSub, Nat.reduceLeDiff, Nat.reduceLT, Nat.reduceEqDiff, Int.reduceToNat, eq_self, rulesT, rulesD, RJ.r0, RJ.r1, RJ.r2, resL_twoO, twoO_some, *]
      | (refine allK_intro fun n hn => ?_; try simp only [fresh_set] at hn)
      | (refine ifK_intro (fun h => ?_) (fun h => ?_) <;> (try simp only [rulesE] at h) <;> try (exfalso; (try simp only [rulesF] at h); omega))
      | (refine keeps_sub (Mem.sub_set ?_) ?_; focus (simp [Mem.set_at, nomem, *]; done))
      | (refine call_F (hr) (Seens.refl _ _) ?_)
      | (refine pure_F (hr) (Seens.refl _ _) ?_)
    exact .two .val .val
end Go.Proofs.Ytlkeailgccbmbaa

set_option maxRecDepth 100000
set_option maxHeartbeats 1000000
set_option linter.unusedSimpArgs false
set_option linter.unusedVariables false
namespace Go.Proofs.Ytlkeailgccbmbaa
open Go.Abs
attribute [local irreducible] C X CC Y CV CW binK litK AppK PureC PureCV againK loopV rangeV allK ifK got onB condK V stepsK planK opK firstK seeE keepsK
theorem numB_getTo (l : List UInt8) {k : Nat} (hk : l.length = k) : numB (getTo l k) k = l := by
  have key : ∀ i, i ≤ k → numB (getTo l k) i = l.take i := by
    intro i
    induction i with
    | zero => intro _; rfl
    | succ i ih =>
      intro h
      have hd := getTo_div l k i (by omega)
      have hb : (l.getD i default).toNat < 256 := UInt8.toNat_lt _
      have e : byteAt (getTo l k) i = l.getD i default := by
        apply UInt8.toNat_inj.1
        rw [byteAt_nat]
        omega
      unfold numB
      rw [ih (by omega), e]
      exact take_snoc l i (by omega)
  rw [key k (Nat.le_refl _), ← hk, List.take_length]
theorem rec_take_len (d : Dev) (a : Nat) : ((recTo d a (needN (lenS (readS d a)) - 1)).take (lenS (readS d a))).length = lenS (readS d a) := by
  have h := needN_pos (lenS (readS d a))
  have := need_room (n := lenS (readS d a)) (k := needN (lenS (readS d a)) - 1) (by omega)
  rw [List.length_take, recTo_len]; omega
theorem head_num {d : Dev} {a : Nat} (hk : kindS (readS d a) = 1) (h0 : readE d a = 0) (hn : 0 < numAt d a) : ((readS d a).l.drop 1).take 12 = numB (numAt d a) 8 ++ numB (lenS (readS d a)) 4 := by
  have hs := (readS d a).h
  have e1 : numAt d a = getTo (((readS d a).l.drop 1).take 8) 8 := by
    have e : numAt d a = numS (readS d a) := if_pos h0
    rw [e] at hn ⊢
    unfold numS at *
    rw [if_neg (fun h => h.1 hk)] at *
    split at hn
    · rename_i h; rw [if_pos h]
    · cases hn
  have e2 : lenS (readS d a) = getTo (((readS d a).l.drop 9).take 4) 4 := rfl
  rw [e1, e2, numB_getTo _ (by rw [List.length_take, List.length_drop, hs]; rfl), numB_getTo _ (by rw [List.length_take, List.length_drop, hs]; rfl)]
  rw [show (12 : Nat) = 8 + 4 from rfl, List.take_add, List.drop_drop]
theorem readK_is {e : Nat} {d : Dev} {a : Nat} (hn : 0 < numAt d a) : (readK e d a).2 = (readJ e d a).2.2.2 ∧ ((readK e d a).2 = true → (readK e d a).1 = (readJ e d a).1 ∧ (readJ e d a).2.2.1 = a + needN (readK e d a).1.length ∧ (readJ e d a).2.1 = numAt d a) := by
  unfold readK readJ
  split
  · rename_i h
    refine ⟨?_, fun _ => ⟨rfl, ?_, rfl⟩⟩
    · show (crcN _ == _) = (sumN _ _ == _)
      unfold sumN
      rw [head_num h.2.1 h.1 hn, rec_take_len]
    · show a + _ = a + needN (List.length _)
      rw [rec_take_len]
  · exact ⟨rfl, fun h => by cases h⟩
theorem readJ_num {e : Nat} {d : Dev} {a : Nat} (h : (readJ e d a).2.2.2 = true) : (readJ e d a).2.1 = numAt d a := by
  unfold readJ at *
  split at h
  · rename_i hc; rw [if_pos hc]
  · cases h
theorem stand_ref {e : Nat} {d : Dev} {a w : Nat} (ha : a < e) : (((readK e d a).2 = true ∧ w < numAt d a) ∧ a + needN (readK e d a).1.length ≤ e ∧ (readK e d a).1.length < 4294967296 ∧ stand e d e a (w + 1) = ((readK e d a).1, a + needN (readK e d a).1.length) :: stand e d e (a + needN (readK e d a).1.length) (numAt d a + 1)) ∨ (¬ ((readK e d a).2 = true ∧ w < numAt d a) ∧ stand e d e a (w + 1) = []) := by
  by_cases hw : w < numAt d a
  · obtain ⟨h1, h2⟩ := readK_is (e := e) (d := d) (a := a) (by omega)
    by_cases hk : (readK e d a).2 = true
    · obtain ⟨g1, g2, g3⟩ := h2 hk
      have hJ : (readJ e d a).2.2.2 = true := by rw [← h1]; exact hk
      have hon := readJ_on hJ
      refine .inl ⟨⟨hk, hw⟩, by omega, ?_, ?_⟩
      · unfold readK at hk ⊢
        split at hk
        · rename_i hc; rw [if_pos hc]; show List.length _ < _; rw [rec_take_len]; exact lenS_lt _
        · cases hk
      · rw [stand_step ⟨ha, hJ, by omega⟩, g1, g2, g3]
        rw [g1]
    · refine .inr ⟨fun h => hk h.1, stand_stop fun h => hk ?_⟩
      rw [h1]; exact h.2.1
  · refine .inr ⟨fun h => hw h.2, stand_stop fun h => hw ?_⟩
    have := readJ_num h.2.1
    omega
end Go.Proofs.Ytlkeailgccbmbaa
