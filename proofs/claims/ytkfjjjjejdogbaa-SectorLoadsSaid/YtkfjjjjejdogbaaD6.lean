/- Package 05: the cache laid down: flushing, losing. -/
import Derived.Test.YtkfjjjjejdogbaaD5
set_option maxRecDepth 100000
set_option maxHeartbeats 1000000
set_option linter.unusedSimpArgs false
set_option linter.unusedVariables false
namespace Go.Proofs.Ytkfjjjjejdogbaa
open Go.Abs
attribute [local irreducible] C X CC Y CV CW binK litK AppK PureC PureCV againK loopV rangeV allK ifK got onB condK V stepsK planK opK firstK seeE keepsK

def bitAt (p : Int) (j : Nat) : Bool := bits .and .u64 (p.fdiv (2 ^ min (j % 64) 64)) 1 == 1
theorem tmod64 (j : Nat) : ((j : Int)).tmod 64 = ((j % 64 : Nat) : Int) := rfl
theorem natNeg (n : Nat) : (((n : Nat) : Int) < 0) = False := eq_false (by omega)
/-- The sectors behind i of what is written, those that b lets through. -/
def layTo (l : List Wr) (b : Nat → Bool) (s : List Sec) : Nat → List Sec
  | 0 => s
  | i + 1 => if b i then (layTo l b s i).set (l.getD i default).at_ (l.getD i default).s else layTo l b s i
theorem layTo_len (l : List Wr) (b : Nat → Bool) (s : List Sec) : ∀ i, (layTo l b s i).length = s.length
  | 0 => rfl
  | i + 1 => by unfold layTo; split <;> simp [layTo_len l b s i]
theorem layTo_yes {l : List Wr} {b : Nat → Bool} {s : List Sec} {i : Nat} (h : b i = true) : layTo l b s (i + 1) = (layTo l b s i).set (l.getD i default).at_ (l.getD i default).s := if_pos h
theorem layTo_no {l : List Wr} {b : Nat → Bool} {s : List Sec} {i : Nat} (h : b i = false) : layTo l b s (i + 1) = layTo l b s i := if_neg (by rw [h]; decide)
def loseD (d : Dev) (p : Int) : Dev := if d.dead then d else { d with list := [], set := false, left := 0, pick := 0, dead := true, laid := layTo d.list (bitAt p) d.laid d.list.length }
def flushD (d : Dev) : Dev := if d.dead then d else { d with list := [], f := d.f + 1, laid := layTo d.list (fun _ => true) d.laid d.list.length }
theorem at_lt {d : Dev} (h : d.Ok) {i : Nat} (hi : i < d.list.length) : (d.list.getD i default).at_ < d.laid.length := by
  rw [List.getD_eq_getElem?_getD, List.getElem?_eq_getElem hi]
  exact h.at_ _ (List.getElem_mem hi)
theorem C16 (d : Dev) (hok : d.Ok) {N : Nat} {m : Mem} (hat : d.At N m) (hf : d.f < 4611686018427387904) : C Try.prog 16 [.ptr N 0] m (fun r m' => r = .val (.int .i64 (if d.dead then 22 else 0)) ∧ (flushD d).At N m') := by
  have hd := hok.some
  have hl := hok.list
  have hm := hok.most
  have hs := hat.seen (Mem.sub.refl m) 0
  obtain ⟨nl, nL, h1, h2, h3, rfl⟩ := hat
  have h1' := Ne.symm h1
  have h2' := Ne.symm h2
  have h3' := Ne.symm h3
  refine C.turn (C16_of ?_)
  unfold k16
  repeat' first
    | simp -dsimp (disch := omega) only [↓rulesA, rulesB, rulesC, Int.reduceLT, nth, upd, put, storeN, AV.one, Nat.reduceBEq, Nat.reduceBNe, Int.reduceBEq, Int.reduceBNe, Int.reduceLE, Int.reduceEq, Int.reduceMod, Int.reduceNeg, boolBin, strBin, intBin, unA, fillA, ne_eq, reduceCtorEq, Nat.reduceAdd, Nat.reduceSub, Nat.reduceLeDiff, Nat.reduceLT, Nat.reduceEqDiff, Int.reduceToNat, eq_self, rulesT, bne_self_eq_false, mm_min, mm_max, buOf_some, nilCheck_vp, nilCheck_ptr, nilCheck_yld, nilCheck_func, *]
    | (refine allK_intro fun n hn => ?_; try simp only [fresh_set] at hn)
    | (refine ifK_intro (fun h => ?_) (fun h => ?_) <;> (try simp only [decide_eq_true_eq, decide_eq_false_iff_not, Bool.not_eq_true', Bool.not_eq_false'] at h) <;> try (exfalso; (try simp only [beq_iff_eq, beq_eq_false_iff_ne, bne_iff_ne, bne_eq_false_iff_eq, ne_eq] at h); omega))
    | (refine keeps_sub (Mem.sub_set (by simp [Mem.set_at, nomem, *])) ?_)
  refine call_F (F12 d false false hd) (.one hs) ?_
  clear hs
  rcases hdd : d.dead
  · unfold Dev.mem
    repeat' first
      | simp -dsimp (disch := omega) only [↓rulesA, rulesB, rulesC, Int.reduceLT, nth, upd, put, storeN, AV.one, Nat.reduceBEq, Nat.reduceBNe, Int.reduceBEq, Int.reduceBNe, Int.reduceLE, Int.reduceEq, Int.reduceMod, Int.reduceNeg, boolBin, strBin, intBin, unA, fillA, ne_eq, reduceCtorEq, Nat.reduceAdd, Nat.reduceSub, Nat.reduceLeDiff, Nat.reduceLT, Nat.reduceEqDiff, Int.reduceToNat, eq_self, rulesT, bne_self_eq_false, mm_min, mm_max, buOf_some, nilCheck_vp, nilCheck_ptr, nilCheck_yld, nilCheck_func, Dev.row, Dev.o0, Dev.o1, Dev.o2, Dev.o3, Dev.o4, Dev.o5, Dev.o6, Dev.o7, Dev.olen, Dev.s0, Dev.s1, Dev.s2, Dev.s5, Dev.s6, Dev.s7, *]
      | (refine allK_intro fun n hn => ?_; try simp only [fresh_set] at hn)
      | (refine ifK_intro (fun h => ?_) (fun h => ?_) <;> (try simp only [decide_eq_true_eq, decide_eq_false_iff_not, Bool.not_eq_true', Bool.not_eq_false'] at h) <;> try (exfalso; (try simp only [beq_iff_eq, beq_eq_false_iff_ne, bne_iff_ne, bne_eq_false_iff_eq, ne_eq] at h); omega))
      | (refine keeps_sub (Mem.sub_set (by simp [Mem.set_at, nomem, *])) ?_)
    refine loop_intro (fun j env m => ∃ i : Nat, i ≤ d.list.length ∧ j = d.list.length - i ∧ m = ((nomem.set nL (.cells false 68 ((layTo d.list (fun _ => true) d.laid i).map Sec.cells).flatten)).set nl (.cells true 70 (d.list.map Wr.cells).flatten)).set N (.cells false 59 (d.own (.sl nl 0 d.list.length d.list.length) nL)) ∧
      env.length = 38 ∧ nth env 0 = .ptr N 0 ∧ nth env 11 = .sl nl 0 d.list.length d.list.length ∧ nth env 12 = .val (.int .i64 d.list.length) ∧ nth env 13 = .val (.int .i64 i)) d.list.length _ (fun _ _ h => h) ⟨0, by omega, by omega, rfl, rfl, rfl, rfl, rfl, rfl⟩ ?_
    rintro j env m ⟨i, hi, rfl, rfl, hlen, e0, e11, e12, e13⟩
    have hll := layTo_len d.list (fun _ => true) d.laid i
    repeat' first
      | simp -dsimp (disch := omega) only [↓rulesA, rulesB, rulesC, Int.reduceLT, nth, upd, put, storeN, AV.one, Nat.reduceBEq, Nat.reduceBNe, Int.reduceBEq, Int.reduceBNe, Int.reduceLE, Int.reduceEq, Int.reduceMod, Int.reduceNeg, boolBin, strBin, intBin, unA, fillA, ne_eq, reduceCtorEq, Nat.reduceAdd, Nat.reduceSub, Nat.reduceLeDiff, Nat.reduceLT, Nat.reduceEqDiff, Int.reduceToNat, eq_self, rulesT, bne_self_eq_false, mm_min, mm_max, buOf_some, nilCheck_vp, nilCheck_ptr, nilCheck_yld, nilCheck_func, Dev.row, Dev.o0, Dev.o1, Dev.o2, Dev.o3, Dev.o4, Dev.o5, Dev.o6, Dev.o7, Dev.olen, Dev.s0, Dev.s1, Dev.s2, Dev.s5, Dev.s6, Dev.s7, Sec.len, Sec.zr, Sec.zr', Sec.all, Sec.take, Sec.drop, Sec.put, Sec.rlen, Sec.rpart, Sec.rin, Sec.rset, Wr.build, Wr.len, Wr.zr, Wr.all, Wr.take, Wr.drop, Wr.g0, Wr.part1, Wr.put, Wr.rlen, Wr.rpart, Wr.rin, Wr.rat0, Wr.rset, Wr.rset1, Wr.rin1, *]
      | (refine allK_intro fun n hn => ?_; try simp only [fresh_set] at hn)
      | (refine ifK_intro (fun h => ?_) (fun h => ?_) <;> (try simp only [decide_eq_true_eq, decide_eq_false_iff_not, Bool.not_eq_true', Bool.not_eq_false'] at h) <;> try (exfalso; (try simp only [beq_iff_eq, beq_eq_false_iff_ne, bne_iff_ne, bne_eq_false_iff_eq, ne_eq] at h); omega))
      | (refine keeps_sub (Mem.sub_set (by simp [Mem.set_at, nomem, *])) ?_)
    · have ha := at_lt hok (show i < d.list.length by omega)
      repeat' first
        | simp -dsimp (disch := omega) only [↓rulesA, rulesB, rulesC, Int.reduceLT, nth, upd, put, storeN, AV.one, Nat.reduceBEq, Nat.reduceBNe, Int.reduceBEq, Int.reduceBNe, Int.reduceLE, Int.reduceEq, Int.reduceMod, Int.reduceNeg, boolBin, strBin, intBin, unA, fillA, ne_eq, reduceCtorEq, Nat.reduceAdd, Nat.reduceSub, Nat.reduceLeDiff, Nat.reduceLT, Nat.reduceEqDiff, Int.reduceToNat, eq_self, rulesT, bne_self_eq_false, mm_min, mm_max, buOf_some, nilCheck_vp, nilCheck_ptr, nilCheck_yld, nilCheck_func, Dev.row, Dev.o0, Dev.o1, Dev.o2, Dev.o3, Dev.o4, Dev.o5, Dev.o6, Dev.o7, Dev.olen, Dev.s0, Dev.s1, Dev.s2, Dev.s5, Dev.s6, Dev.s7, Sec.len, Sec.zr, Sec.zr', Sec.all, Sec.take, Sec.drop, Sec.put, Sec.rlen, Sec.rpart, Sec.rin, Sec.rset, Wr.build, Wr.len, Wr.zr, Wr.all, Wr.take, Wr.drop, Wr.g0, Wr.part1, Wr.put, Wr.rlen, Wr.rpart, Wr.rin, Wr.rat0, Wr.rset, Wr.rset1, Wr.rin1, *]
        | (refine allK_intro fun n hn => ?_; try simp only [fresh_set] at hn)
        | (refine ifK_intro (fun h => ?_) (fun h => ?_) <;> (try simp only [decide_eq_true_eq, decide_eq_false_iff_not, Bool.not_eq_true', Bool.not_eq_false'] at h) <;> try (exfalso; (try simp only [beq_iff_eq, beq_eq_false_iff_ne, bne_iff_ne, bne_eq_false_iff_eq, ne_eq] at h); omega))
        | (refine keeps_sub (Mem.sub_set (by simp [Mem.set_at, nomem, *])) ?_)
      have e := layTo_yes (l := d.list) (b := fun _ => true) (s := d.laid) (i := i) rfl
      refine again_intro (d.list.length - (i + 1)) (by omega) (((nomem.set nL (.cells false 68 ((layTo d.list (fun _ => true) d.laid (i + 1)).map Sec.cells).flatten)).set nl (.cells true 70 (d.list.map Wr.cells).flatten)).set N (.cells false 59 (d.own (.sl nl 0 d.list.length d.list.length) nL))) ?_ ⟨i + 1, by omega, rfl, rfl, ?_, ?_, ?_, ?_, ?_⟩
      · refine Mem.set_sub (Mem.set_sub (Mem.set_sub (nomem_sub _) ?_) ?_) ?_ <;> simp [Mem.set_at, *]
      all_goals try (simp (disch := omega) only [nth_upd, pickB_true, pickB_false, inB_lt, upd_len, cast_succ, Nat.reduceBEq, beq_self_eq_true, reduceCtorEq, *]; done)
    · have : i = d.list.length := by omega
      subst this
      refine Turns.cellNil 70 0 (Mem.set_same _ _ _) rfl fun n3 hn3 => ?_
      simp only [fresh_set] at hn3
      obtain ⟨b1, b2, b3, b4, b5, b6, -⟩ := hn3
      refine .sub (m' := (flushD d).mem N n3 nL) ?_ ⟨rfl, n3, nL, b2, h2, b5, rfl⟩
      unfold flushD Dev.mem
      rw [if_neg (by rw [hdd]; decide)]
      refine Mem.set_sub (Mem.set_sub (Mem.set_sub (nomem_sub _) ?_) ?_) ?_
      · simp [Mem.set_at, *]
      · simp [Mem.set_at, *]
      · simp [Mem.set_at, *, Dev.own, Dev.row]
  · repeat' first
      | simp -dsimp (disch := omega) only [↓rulesA, rulesB, rulesC, Int.reduceLT, nth, upd, put, storeN, AV.one, Nat.reduceBEq, Nat.reduceBNe, Int.reduceBEq, Int.reduceBNe, Int.reduceLE, Int.reduceEq, Int.reduceMod, Int.reduceNeg, boolBin, strBin, intBin, unA, fillA, ne_eq, reduceCtorEq, Nat.reduceAdd, Nat.reduceSub, Nat.reduceLeDiff, Nat.reduceLT, Nat.reduceEqDiff, Int.reduceToNat, eq_self, rulesT, bne_self_eq_false, mm_min, mm_max, buOf_some, nilCheck_vp, nilCheck_ptr, nilCheck_yld, nilCheck_func, Dev.row, Dev.o0, Dev.o1, Dev.o2, Dev.o3, Dev.o4, Dev.o5, Dev.o6, Dev.o7, Dev.olen, Dev.s0, Dev.s1, Dev.s2, Dev.s5, Dev.s6, Dev.s7, *]
      | (refine allK_intro fun n hn => ?_; try simp only [fresh_set] at hn)
      | (refine ifK_intro (fun h => ?_) (fun h => ?_) <;> (try simp only [decide_eq_true_eq, decide_eq_false_iff_not, Bool.not_eq_true', Bool.not_eq_false'] at h) <;> try (exfalso; (try simp only [beq_iff_eq, beq_eq_false_iff_ne, bne_iff_ne, bne_eq_false_iff_eq, ne_eq] at h); omega))
      | (refine keeps_sub (Mem.sub_set (by simp [Mem.set_at, nomem, *])) ?_)
    refine Turns.id ⟨rfl, ?_⟩
    unfold flushD; rw [if_pos hdd]
    exact ⟨nl, nL, h1, h2, h3, rfl⟩
theorem C19 (d : Dev) (hok : d.Ok) {N : Nat} {m : Mem} (hat : d.At N m) (p : Int) : C Try.prog 19 [.ptr N 0, .val (.int .u64 p)] m (fun r m' => r = .tup [] ∧ (loseD d p).At N m') := by
  have hd := hok.some
  have hl := hok.list
  have hm := hok.most
  have hs := hat.seen (Mem.sub.refl m) 0
  obtain ⟨nl, nL, h1, h2, h3, rfl⟩ := hat
  have h1' := Ne.symm h1
  have h2' := Ne.symm h2
  have h3' := Ne.symm h3
  refine C.turn (C19_of ?_)
  unfold k19
  repeat' first
    | simp -dsimp (disch := omega) only [↓rulesA, rulesB, rulesC, Int.reduceLT, nth, upd, put, storeN, AV.one, Nat.reduceBEq, Nat.reduceBNe, Int.reduceBEq, Int.reduceBNe, Int.reduceLE, Int.reduceEq, Int.reduceMod, Int.reduceNeg, boolBin, strBin, intBin, unA, fillA, ne_eq, reduceCtorEq, Nat.reduceAdd, Nat.reduceSub, Nat.reduceLeDiff, Nat.reduceLT, Nat.reduceEqDiff, Int.reduceToNat, eq_self, rulesT, bne_self_eq_false, mm_min, mm_max, buOf_some, nilCheck_vp, nilCheck_ptr, nilCheck_yld, nilCheck_func, *]
    | (refine allK_intro fun n hn => ?_; try simp only [fresh_set] at hn)
    | (refine ifK_intro (fun h => ?_) (fun h => ?_) <;> (try simp only [decide_eq_true_eq, decide_eq_false_iff_not, Bool.not_eq_true', Bool.not_eq_false'] at h) <;> try (exfalso; (try simp only [beq_iff_eq, beq_eq_false_iff_ne, bne_iff_ne, bne_eq_false_iff_eq, ne_eq] at h); omega))
    | (refine keeps_sub (Mem.sub_set (by simp [Mem.set_at, nomem, *])) ?_)
  refine call_F (F12 d false false hd) (.one hs) ?_
  clear hs
  rcases hdd : d.dead
  · unfold Dev.mem
    repeat' first
      | simp -dsimp (disch := omega) only [↓rulesA, rulesB, rulesC, Int.reduceLT, nth, upd, put, storeN, AV.one, Nat.reduceBEq, Nat.reduceBNe, Int.reduceBEq, Int.reduceBNe, Int.reduceLE, Int.reduceEq, Int.reduceMod, Int.reduceNeg, boolBin, strBin, intBin, unA, fillA, ne_eq, reduceCtorEq, Nat.reduceAdd, Nat.reduceSub, Nat.reduceLeDiff, Nat.reduceLT, Nat.reduceEqDiff, Int.reduceToNat, eq_self, rulesT, bne_self_eq_false, mm_min, mm_max, buOf_some, nilCheck_vp, nilCheck_ptr, nilCheck_yld, nilCheck_func, Dev.row, Dev.o0, Dev.o1, Dev.o2, Dev.o3, Dev.o4, Dev.o5, Dev.o6, Dev.o7, Dev.olen, Dev.s0, Dev.s1, Dev.s2, Dev.s5, Dev.s6, Dev.s7, *]
      | (refine allK_intro fun n hn => ?_; try simp only [fresh_set] at hn)
      | (refine ifK_intro (fun h => ?_) (fun h => ?_) <;> (try simp only [decide_eq_true_eq, decide_eq_false_iff_not, Bool.not_eq_true', Bool.not_eq_false'] at h) <;> try (exfalso; (try simp only [beq_iff_eq, beq_eq_false_iff_ne, bne_iff_ne, bne_eq_false_iff_eq, ne_eq] at h); omega))
      | (refine keeps_sub (Mem.sub_set (by simp [Mem.set_at, nomem, *])) ?_)
    refine loop_intro (fun j env m => ∃ i : Nat, i ≤ d.list.length ∧ j = d.list.length - i ∧ m = ((nomem.set nL (.cells false 68 ((layTo d.list (bitAt p) d.laid i).map Sec.cells).flatten)).set nl (.cells true 70 (d.list.map Wr.cells).flatten)).set N (.cells false 59 (d.own (.sl nl 0 d.list.length d.list.length) nL)) ∧
      env.length = 46 ∧ nth env 0 = .ptr N 0 ∧ nth env 1 = .val (.int .u64 p) ∧ nth env 12 = .sl nl 0 d.list.length d.list.length ∧ nth env 13 = .val (.int .i64 d.list.length) ∧ nth env 14 = .val (.int .i64 i)) d.list.length _ (fun _ _ h => h) ⟨0, by omega, by omega, rfl, rfl, rfl, rfl, rfl, rfl, rfl⟩ ?_
    rintro j env m ⟨i, hi, rfl, rfl, hlen, e0, e1, e12, e13, e14⟩
    have hll := layTo_len d.list (bitAt p) d.laid i
    repeat' first
      | simp -dsimp (disch := omega) only [↓rulesA, rulesB, rulesC, Int.reduceLT, nth, upd, put, storeN, AV.one, Nat.reduceBEq, Nat.reduceBNe, Int.reduceBEq, Int.reduceBNe, Int.reduceLE, Int.reduceEq, Int.reduceMod, Int.reduceNeg, boolBin, strBin, intBin, unA, fillA, ne_eq, reduceCtorEq, Nat.reduceAdd, Nat.reduceSub, Nat.reduceLeDiff, Nat.reduceLT, Nat.reduceEqDiff, Int.reduceToNat, eq_self, rulesT, bne_self_eq_false, mm_min, mm_max, buOf_some, nilCheck_vp, nilCheck_ptr, nilCheck_yld, nilCheck_func, Dev.row, Dev.o0, Dev.o1, Dev.o2, Dev.o3, Dev.o4, Dev.o5, Dev.o6, Dev.o7, Dev.olen, Dev.s0, Dev.s1, Dev.s2, Dev.s5, Dev.s6, Dev.s7, Sec.len, Sec.zr, Sec.zr', Sec.all, Sec.take, Sec.drop, Sec.put, Sec.rlen, Sec.rpart, Sec.rin, Sec.rset, Wr.build, Wr.len, Wr.zr, Wr.all, Wr.take, Wr.drop, Wr.g0, Wr.part1, Wr.put, Wr.rlen, Wr.rpart, Wr.rin, Wr.rat0, Wr.rset, Wr.rset1, Wr.rin1, tmod64, natNeg, *]
      | (refine allK_intro fun n hn => ?_; try simp only [fresh_set] at hn)
      | (refine ifK_intro (fun h => ?_) (fun h => ?_) <;> (try simp only [decide_eq_true_eq, decide_eq_false_iff_not, Bool.not_eq_true', Bool.not_eq_false'] at h) <;> try (exfalso; (try simp only [beq_iff_eq, beq_eq_false_iff_ne, bne_iff_ne, bne_eq_false_iff_eq, ne_eq] at h); omega))
      | (refine keeps_sub (Mem.sub_set (by simp [Mem.set_at, nomem, *])) ?_)
    · have ha := at_lt hok (show i < d.list.length by omega)
      repeat' first
        | simp -dsimp (disch := omega) only [↓rulesA, rulesB, rulesC, Int.reduceLT, nth, upd, put, storeN, AV.one, Nat.reduceBEq, Nat.reduceBNe, Int.reduceBEq, Int.reduceBNe, Int.reduceLE, Int.reduceEq, Int.reduceMod, Int.reduceNeg, boolBin, strBin, intBin, unA, fillA, ne_eq, reduceCtorEq, Nat.reduceAdd, Nat.reduceSub, Nat.reduceLeDiff, Nat.reduceLT, Nat.reduceEqDiff, Int.reduceToNat, eq_self, rulesT, bne_self_eq_false, mm_min, mm_max, buOf_some, nilCheck_vp, nilCheck_ptr, nilCheck_yld, nilCheck_func, Dev.row, Dev.o0, Dev.o1, Dev.o2, Dev.o3, Dev.o4, Dev.o5, Dev.o6, Dev.o7, Dev.olen, Dev.s0, Dev.s1, Dev.s2, Dev.s5, Dev.s6, Dev.s7, Sec.len, Sec.zr, Sec.zr', Sec.all, Sec.take, Sec.drop, Sec.put, Sec.rlen, Sec.rpart, Sec.rin, Sec.rset, Wr.build, Wr.len, Wr.zr, Wr.all, Wr.take, Wr.drop, Wr.g0, Wr.part1, Wr.put, Wr.rlen, Wr.rpart, Wr.rin, Wr.rat0, Wr.rset, Wr.rset1, Wr.rin1, tmod64, natNeg, *]
        | (refine allK_intro fun n hn => ?_; try simp only [fresh_set] at hn)
        | (refine ifK_intro (fun h => ?_) (fun h => ?_) <;> (try simp only [decide_eq_true_eq, decide_eq_false_iff_not, Bool.not_eq_true', Bool.not_eq_false'] at h) <;> try (exfalso; (try simp only [beq_iff_eq, beq_eq_false_iff_ne, bne_iff_ne, bne_eq_false_iff_eq, ne_eq] at h); omega))
        | (refine keeps_sub (Mem.sub_set (by simp [Mem.set_at, nomem, *])) ?_)
      have e := layTo_yes (l := d.list) (b := bitAt p) (s := d.laid) (i := i) (by assumption)
      refine again_intro (d.list.length - (i + 1)) (by omega) (((nomem.set nL (.cells false 68 ((layTo d.list (bitAt p) d.laid (i + 1)).map Sec.cells).flatten)).set nl (.cells true 70 (d.list.map Wr.cells).flatten)).set N (.cells false 59 (d.own (.sl nl 0 d.list.length d.list.length) nL))) ?_ ⟨i + 1, by omega, rfl, rfl, ?_, ?_, ?_, ?_, ?_, ?_⟩
      · refine Mem.set_sub (Mem.set_sub (Mem.set_sub (nomem_sub _) ?_) ?_) ?_ <;> simp [Mem.set_at, *]
      all_goals try (simp (disch := omega) only [nth_upd, pickB_true, pickB_false, inB_lt, upd_len, cast_succ, Nat.reduceBEq, beq_self_eq_true, reduceCtorEq, *]; done)
    · have e := layTo_no (l := d.list) (b := bitAt p) (s := d.laid) (i := i) (by assumption)
      refine again_intro (d.list.length - (i + 1)) (by omega) (((nomem.set nL (.cells false 68 ((layTo d.list (bitAt p) d.laid (i + 1)).map Sec.cells).flatten)).set nl (.cells true 70 (d.list.map Wr.cells).flatten)).set N (.cells false 59 (d.own (.sl nl 0 d.list.length d.list.length) nL))) ?_ ⟨i + 1, by omega, rfl, rfl, ?_, ?_, ?_, ?_, ?_, ?_⟩
      · refine Mem.set_sub (Mem.set_sub (Mem.set_sub (nomem_sub _) ?_) ?_) ?_ <;> simp [Mem.set_at, *]
      all_goals try (simp (disch := omega) only [nth_upd, pickB_true, pickB_false, inB_lt, upd_len, cast_succ, Nat.reduceBEq, beq_self_eq_true, reduceCtorEq, *]; done)
    · have : i = d.list.length := by omega
      subst this
      refine Turns.cellNil 70 0 (Mem.set_same _ _ _) rfl fun n3 hn3 => ?_
      simp only [fresh_set] at hn3
      obtain ⟨b1, b2, b3, b4, b5, b6, -⟩ := hn3
      refine .sub (m' := (loseD d p).mem N n3 nL) ?_ ⟨rfl, n3, nL, b2, h2, b5, rfl⟩
      unfold loseD Dev.mem
      rw [if_neg (by rw [hdd]; decide)]
      refine Mem.set_sub (Mem.set_sub (Mem.set_sub (nomem_sub _) ?_) ?_) ?_
      · simp [Mem.set_at, *]
      · simp [Mem.set_at, *]
      · simp [Mem.set_at, *, Dev.own, Dev.row]
  · repeat' first
      | simp -dsimp (disch := omega) only [↓rulesA, rulesB, rulesC, Int.reduceLT, nth, upd, put, storeN, AV.one, Nat.reduceBEq, Nat.reduceBNe, Int.reduceBEq, Int.reduceBNe, Int.reduceLE, Int.reduceEq, Int.reduceMod, Int.reduceNeg, boolBin, strBin, intBin, unA, fillA, ne_eq, reduceCtorEq, Nat.reduceAdd, Nat.reduceSub, Nat.reduceLeDiff, Nat.reduceLT, Nat.reduceEqDiff, Int.reduceToNat, eq_self, rulesT, bne_self_eq_false, mm_min, mm_max, buOf_some, nilCheck_vp, nilCheck_ptr, nilCheck_yld, nilCheck_func, Dev.row, Dev.o0, Dev.o1, Dev.o2, Dev.o3, Dev.o4, Dev.o5, Dev.o6, Dev.o7, Dev.olen, Dev.s0, Dev.s1, Dev.s2, Dev.s5, Dev.s6, Dev.s7, *]
      | (refine allK_intro fun n hn => ?_; try simp only [fresh_set] at hn)
      | (refine ifK_intro (fun h => ?_) (fun h => ?_) <;> (try simp only [decide_eq_true_eq, decide_eq_false_iff_not, Bool.not_eq_true', Bool.not_eq_false'] at h) <;> try (exfalso; (try simp only [beq_iff_eq, beq_eq_false_iff_ne, bne_iff_ne, bne_eq_false_iff_eq, ne_eq] at h); omega))
      | (refine keeps_sub (Mem.sub_set (by simp [Mem.set_at, nomem, *])) ?_)
    refine Turns.id ⟨rfl, ?_⟩
    unfold loseD; rw [if_pos hdd]
    exact ⟨nl, nL, h1, h2, h3, rfl⟩
end Go.Proofs.Ytkfjjjjejdogbaa

