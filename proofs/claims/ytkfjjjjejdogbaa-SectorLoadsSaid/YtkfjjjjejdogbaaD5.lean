/- Package 05: what changes a device: cutting, power, laying. -/
import Derived.Test.YtkfjjjjejdogbaaD4
set_option maxRecDepth 100000
set_option maxHeartbeats 1000000
set_option linter.unusedSimpArgs false
set_option linter.unusedVariables false
namespace Go.Proofs.Ytkfjjjjejdogbaa
open Go.Abs
attribute [local irreducible] C X CC Y CV CW binK litK AppK PureC PureCV againK loopV rangeV allK ifK got onB condK V stepsK planK opK firstK seeE keepsK

def cutD (d : Dev) (c p : Int) : Dev := if d.dead then d else if 0 ≤ c then { d with set := true, left := c, pick := p } else { d with set := false, left := 0, pick := 0 }
theorem Dev.At.eq {d d' : Dev} {N : Nat} {m : Mem} (h : d.At N m) (e : d = d') : d'.At N m := e ▸ h
theorem C9 (d : Dev) (hd : 1 ≤ d.laid.length) {N : Nat} {m : Mem} (hat : d.At N m) (c p : Int) : C Try.prog 9 [.ptr N 0, .val (.int .i64 c), .val (.int .u64 p)] m (fun r m' => r = .tup [] ∧ (cutD d c p).At N m') := by
  have hs := hat.seen (Mem.sub.refl m) 0
  obtain ⟨nl, nL, h1, h2, h3, rfl⟩ := hat
  refine C.turn (C9_of ?_)
  unfold k9
  repeat' first
    | simp -dsimp (disch := omega) only [↓rulesA, rulesB, rulesC, Int.reduceLT, nth, upd, put, storeN, AV.one, Nat.reduceBEq, Nat.reduceBNe, Int.reduceBEq, Int.reduceBNe, Int.reduceLE, Int.reduceEq, Int.reduceMod, Int.reduceNeg, boolBin, strBin, intBin, unA, fillA, ne_eq, reduceCtorEq, Nat.reduceAdd, Nat.reduceSub, Nat.reduceLeDiff, Nat.reduceLT, Nat.reduceEqDiff, Int.reduceToNat, eq_self, rulesT, bne_self_eq_false, mm_min, mm_max, buOf_some, nilCheck_vp, nilCheck_ptr, nilCheck_yld, nilCheck_func, *]
    | (refine allK_intro fun n hn => ?_; try simp only [fresh_set] at hn)
    | (refine ifK_intro (fun h => ?_) (fun h => ?_) <;> (try simp only [decide_eq_true_eq, decide_eq_false_iff_not, Bool.not_eq_true', Bool.not_eq_false'] at h) <;> try (exfalso; (try simp only [beq_iff_eq, beq_eq_false_iff_ne, bne_iff_ne, bne_eq_false_iff_eq, ne_eq] at h); omega))
    | (refine keeps_sub (Mem.sub_set (by simp [Mem.set_at, nomem, *])) ?_)
  refine call_F (F12 d false false hd) (.one hs) ?_
  unfold Dev.mem
  repeat' first
    | simp -dsimp (disch := omega) only [↓rulesA, rulesB, rulesC, Int.reduceLT, nth, upd, put, storeN, AV.one, Nat.reduceBEq, Nat.reduceBNe, Int.reduceBEq, Int.reduceBNe, Int.reduceLE, Int.reduceEq, Int.reduceMod, Int.reduceNeg, boolBin, strBin, intBin, unA, fillA, ne_eq, reduceCtorEq, Nat.reduceAdd, Nat.reduceSub, Nat.reduceLeDiff, Nat.reduceLT, Nat.reduceEqDiff, Int.reduceToNat, eq_self, rulesT, bne_self_eq_false, mm_min, mm_max, buOf_some, nilCheck_vp, nilCheck_ptr, nilCheck_yld, nilCheck_func, Dev.row, Dev.o0, Dev.o1, Dev.o2, Dev.o3, Dev.o4, Dev.o5, Dev.o6, Dev.o7, Dev.olen, Dev.s0, Dev.s1, Dev.s2, Dev.s5, Dev.s6, Dev.s7, *]
    | (refine allK_intro fun n hn => ?_; try simp only [fresh_set] at hn)
    | (refine ifK_intro (fun h => ?_) (fun h => ?_) <;> (try simp only [decide_eq_true_eq, decide_eq_false_iff_not, Bool.not_eq_true', Bool.not_eq_false'] at h) <;> try (exfalso; (try simp only [beq_iff_eq, beq_eq_false_iff_ne, bne_iff_ne, bne_eq_false_iff_eq, ne_eq] at h); omega))
    | (refine keeps_sub (Mem.sub_set (by simp [Mem.set_at, nomem, *])) ?_)
  · refine Turns.id ⟨rfl, nl, nL, h1, h2, h3, ?_⟩
    unfold cutD; rw [if_pos h]; rfl
  · refine Turns.id ⟨rfl, nl, nL, h1, h2, h3, ?_⟩
    have hdd : d.dead = false := by assumption
    unfold cutD Dev.mem; rw [if_neg (by rw [hdd]; decide), if_pos (by omega)]; simp only [hdd]; rfl
  · refine Turns.id ⟨rfl, nl, nL, h1, h2, h3, ?_⟩
    have hdd : d.dead = false := by assumption
    unfold cutD Dev.mem; rw [if_neg (by rw [hdd]; decide), if_neg (by omega)]; simp only [hdd]; rfl
def onD (d : Dev) : Dev := { d with dead := false }
theorem C20 (d : Dev) (hd : 1 ≤ d.laid.length) {N : Nat} {m : Mem} (hat : d.At N m) : C Try.prog 20 [.ptr N 0] m (fun r m' => r = .tup [] ∧ (onD d).At N m') := by
  have hs := hat.seen (Mem.sub.refl m) 0
  obtain ⟨nl, nL, h1, h2, h3, rfl⟩ := hat
  refine C.turn (C20_of ?_)
  unfold k20
  repeat' first
    | simp -dsimp (disch := omega) only [↓rulesA, rulesB, rulesC, Int.reduceLT, nth, upd, put, storeN, AV.one, Nat.reduceBEq, Nat.reduceBNe, Int.reduceBEq, Int.reduceBNe, Int.reduceLE, Int.reduceEq, Int.reduceMod, Int.reduceNeg, boolBin, strBin, intBin, unA, fillA, ne_eq, reduceCtorEq, Nat.reduceAdd, Nat.reduceSub, Nat.reduceLeDiff, Nat.reduceLT, Nat.reduceEqDiff, Int.reduceToNat, eq_self, rulesT, bne_self_eq_false, mm_min, mm_max, buOf_some, nilCheck_vp, nilCheck_ptr, nilCheck_yld, nilCheck_func, *]
    | (refine allK_intro fun n hn => ?_; try simp only [fresh_set] at hn)
    | (refine ifK_intro (fun h => ?_) (fun h => ?_) <;> (try simp only [decide_eq_true_eq, decide_eq_false_iff_not, Bool.not_eq_true', Bool.not_eq_false'] at h) <;> try (exfalso; (try simp only [beq_iff_eq, beq_eq_false_iff_ne, bne_iff_ne, bne_eq_false_iff_eq, ne_eq] at h); omega))
    | (refine keeps_sub (Mem.sub_set (by simp [Mem.set_at, nomem, *])) ?_)
  refine call_F (F28 d false false hd) (.one hs) ?_
  unfold Dev.mem
  repeat' first
    | simp -dsimp (disch := omega) only [↓rulesA, rulesB, rulesC, Int.reduceLT, nth, upd, put, storeN, AV.one, Nat.reduceBEq, Nat.reduceBNe, Int.reduceBEq, Int.reduceBNe, Int.reduceLE, Int.reduceEq, Int.reduceMod, Int.reduceNeg, boolBin, strBin, intBin, unA, fillA, ne_eq, reduceCtorEq, Nat.reduceAdd, Nat.reduceSub, Nat.reduceLeDiff, Nat.reduceLT, Nat.reduceEqDiff, Int.reduceToNat, eq_self, rulesT, bne_self_eq_false, mm_min, mm_max, buOf_some, nilCheck_vp, nilCheck_ptr, nilCheck_yld, nilCheck_func, Dev.row, Dev.o0, Dev.o1, Dev.o2, Dev.o3, Dev.o4, Dev.o5, Dev.o6, Dev.o7, Dev.olen, Dev.s0, Dev.s1, Dev.s2, Dev.s5, Dev.s6, Dev.s7, *]
    | (refine allK_intro fun n hn => ?_; try simp only [fresh_set] at hn)
    | (refine ifK_intro (fun h => ?_) (fun h => ?_) <;> (try simp only [decide_eq_true_eq, decide_eq_false_iff_not, Bool.not_eq_true', Bool.not_eq_false'] at h) <;> try (exfalso; (try simp only [beq_iff_eq, beq_eq_false_iff_ne, bne_iff_ne, bne_eq_false_iff_eq, ne_eq] at h); omega))
    | (refine keeps_sub (Mem.sub_set (by simp [Mem.set_at, nomem, *])) ?_)
  exact Turns.id ⟨rfl, nl, nL, h1, h2, h3, rfl⟩
/-- What is laid into the cache. -/
def layL (l : List Wr) (k : Nat) (s : Sec) : List Wr := if findN l k < l.length then l.set (findN l k) ⟨k, s⟩ else l ++ [⟨k, s⟩]
def layD (d : Dev) (k : Nat) (s : Sec) : Dev := { d with list := layL d.list k s }
theorem lit1_52 (w : Wr) : litA Try.prog 52 1 [(0, .agg w.cells)] = some (70, 65, w.cells) := by
  have h : setRange (List.replicate 1 (default : Wr).cells).flatten 0 w.cells = w.cells := by
    simp only [List.replicate_succ, List.replicate_zero, List.flatten_cons, List.flatten_nil, List.append_nil, Wr.put]
  simp only [litA, ti_52, ti_70, z_70, fillA, cells_agg, Wr.all, Wr.zr, Wr.len, if_true, Nat.zero_mul, h]
  rfl
theorem src_52 (m : Mem) (l : List Wr) (x : Bool) : srcA Try.prog m 52 65 (.vs (l.map Wr.cells) x) = some (l.length, (l.map Wr.cells).flatten) := src_vs Wr.cells ti_52 rfl (fun w => ⟨Wr.len w, Wr.all w⟩) m l x
theorem C27 (d : Dev) (hd : 1 ≤ d.laid.length) (hl : d.list.length ≤ 4096) {N : Nat} {m : Mem} (hat : d.At N m) (k : Nat) (s : Sec) : C Try.prog 27 [.ptr N 0, .val (.int .i64 k), .agg s.cells] m (fun r m' => r = .tup [] ∧ (layD d k s).At N m') := by
  obtain ⟨nl, nL, h1, h2, h3, rfl⟩ := hat
  have hs : ∀ M, (d.mem N nl nL).sub M → Seen M (.ptr N 0) (.vp (d.rc false false) 0) := fun M h => Dev.At.seen ⟨nl, nL, h1, h2, h3, rfl⟩ h 0
  refine C.turn (C27_of ?_)
  have hfn := findN_le d.list k
  have h1' := Ne.symm h1
  have h2' := Ne.symm h2
  have h3' := Ne.symm h3
  unfold k27
  unfold Dev.mem at hs ⊢
  repeat' first
    | simp -dsimp (disch := omega) only [↓rulesA, rulesB, rulesC, Int.reduceLT, nth, upd, put, storeN, AV.one, Nat.reduceBEq, Nat.reduceBNe, Int.reduceBEq, Int.reduceBNe, Int.reduceLE, Int.reduceEq, Int.reduceMod, Int.reduceNeg, boolBin, strBin, intBin, unA, fillA, ne_eq, reduceCtorEq, Nat.reduceAdd, Nat.reduceSub, Nat.reduceLeDiff, Nat.reduceLT, Nat.reduceEqDiff, Int.reduceToNat, eq_self, rulesT, bne_self_eq_false, mm_min, mm_max, buOf_some, nilCheck_vp, nilCheck_ptr, nilCheck_yld, nilCheck_func, Sec.len, Sec.zr, Sec.zr', Sec.all, Sec.take, Sec.drop, Sec.put, Sec.rlen, Sec.rpart, Sec.rin, Sec.rset, *]
    | (refine allK_intro fun n hn => ?_; try simp only [fresh_set] at hn)
    | (refine ifK_intro (fun h => ?_) (fun h => ?_) <;> (try simp only [decide_eq_true_eq, decide_eq_false_iff_not, Bool.not_eq_true', Bool.not_eq_false'] at h) <;> try (exfalso; (try simp only [beq_iff_eq, beq_eq_false_iff_ne, bne_iff_ne, bne_eq_false_iff_eq, ne_eq] at h); omega))
    | (refine keeps_sub (Mem.sub_set (by simp [Mem.set_at, nomem, *])) ?_)
  refine call_F (F41 d false false k (by omega)) (.two (hs _ (Mem.sub_set (by simp [Mem.set_at, *]))) .same) ?_
  clear hs
  repeat' first
    | simp -dsimp (disch := omega) only [↓rulesA, rulesB, rulesC, Int.reduceLT, nth, upd, put, storeN, AV.one, Nat.reduceBEq, Nat.reduceBNe, Int.reduceBEq, Int.reduceBNe, Int.reduceLE, Int.reduceEq, Int.reduceMod, Int.reduceNeg, boolBin, strBin, intBin, unA, fillA, ne_eq, reduceCtorEq, Nat.reduceAdd, Nat.reduceSub, Nat.reduceLeDiff, Nat.reduceLT, Nat.reduceEqDiff, Int.reduceToNat, eq_self, rulesT, bne_self_eq_false, mm_min, mm_max, buOf_some, nilCheck_vp, nilCheck_ptr, nilCheck_yld, nilCheck_func, Dev.row, Dev.o0, Dev.o1, Dev.o2, Dev.o3, Dev.o4, Dev.o5, Dev.o6, Dev.o7, Dev.olen, Dev.s0, Dev.s1, Dev.s2, Dev.s5, Dev.s6, Dev.s7, Sec.len, Sec.zr, Sec.zr', Sec.all, Sec.take, Sec.drop, Sec.put, Sec.rlen, Sec.rpart, Sec.rin, Sec.rset, Wr.build, Wr.len, Wr.zr, Wr.all, Wr.take, Wr.drop, Wr.g0, Wr.part1, Wr.put, Wr.rlen, Wr.rpart, Wr.rin, Wr.rat0, Wr.rset, Wr.rset1, Wr.rin1, *]
    | (refine allK_intro fun n hn => ?_; try simp only [fresh_set] at hn)
    | (refine ifK_intro (fun h => ?_) (fun h => ?_) <;> (try simp only [decide_eq_true_eq, decide_eq_false_iff_not, Bool.not_eq_true', Bool.not_eq_false'] at h) <;> try (exfalso; (try simp only [beq_iff_eq, beq_eq_false_iff_ne, bne_iff_ne, bne_eq_false_iff_eq, ne_eq] at h); omega))
    | (refine keeps_sub (Mem.sub_set (by simp [Mem.set_at, nomem, *])) ?_)
  · have hf : findN d.list k < d.list.length := by
      by_cases hf : findN d.list k < d.list.length
      · exact hf
      · unfold findI at *; rw [if_neg hf] at *; omega
    have e2 : findI d.list k = findN d.list k := by unfold findI; rw [if_pos hf]
    have e3 : (d.list.getD (findN d.list k) default).at_ = k := findN_is hf
    rw [e2]
    repeat' first
      | simp -dsimp (disch := omega) only [↓rulesA, rulesB, rulesC, Int.reduceLT, nth, upd, put, storeN, AV.one, Nat.reduceBEq, Nat.reduceBNe, Int.reduceBEq, Int.reduceBNe, Int.reduceLE, Int.reduceEq, Int.reduceMod, Int.reduceNeg, boolBin, strBin, intBin, unA, fillA, ne_eq, reduceCtorEq, Nat.reduceAdd, Nat.reduceSub, Nat.reduceLeDiff, Nat.reduceLT, Nat.reduceEqDiff, Int.reduceToNat, eq_self, rulesT, bne_self_eq_false, mm_min, mm_max, buOf_some, nilCheck_vp, nilCheck_ptr, nilCheck_yld, nilCheck_func, Dev.row, Dev.o0, Dev.o1, Dev.o2, Dev.o3, Dev.o4, Dev.o5, Dev.o6, Dev.o7, Dev.olen, Dev.s0, Dev.s1, Dev.s2, Dev.s5, Dev.s6, Dev.s7, Sec.len, Sec.zr, Sec.zr', Sec.all, Sec.take, Sec.drop, Sec.put, Sec.rlen, Sec.rpart, Sec.rin, Sec.rset, Wr.build, Wr.len, Wr.zr, Wr.all, Wr.take, Wr.drop, Wr.g0, Wr.part1, Wr.put, Wr.rlen, Wr.rpart, Wr.rin, Wr.rat0, Wr.rset, Wr.rset1, Wr.rin1, *]
      | (refine allK_intro fun n hn => ?_; try simp only [fresh_set] at hn)
      | (refine ifK_intro (fun h => ?_) (fun h => ?_) <;> (try simp only [decide_eq_true_eq, decide_eq_false_iff_not, Bool.not_eq_true', Bool.not_eq_false'] at h) <;> try (exfalso; (try simp only [beq_iff_eq, beq_eq_false_iff_ne, bne_iff_ne, bne_eq_false_iff_eq, ne_eq] at h); omega))
      | (refine keeps_sub (Mem.sub_set (by simp [Mem.set_at, nomem, *])) ?_)
    have e4 : layL d.list k s = d.list.set (findN d.list k) ⟨k, s⟩ := by unfold layL; rw [if_pos hf]
    have e5 : (layL d.list k s).length = d.list.length := by rw [e4, List.length_set]
    refine .sub (m' := (layD d k s).mem N nl nL) ?_ ⟨rfl, nl, nL, h1, h2, h3, rfl⟩
    unfold Dev.mem
    refine Mem.set_sub (Mem.set_sub (Mem.set_sub (nomem_sub _) ?_) ?_) ?_
    · simp [Mem.set_at, *, layD]
    · simp [Mem.set_at, *, layD]
    · simp [Mem.set_at, *, layD, Dev.own, Dev.row]
  · have hf : ¬ findN d.list k < d.list.length := fun hf => by
      unfold findI at *; rw [if_pos hf] at *; omega
    refine lit_vs (lit1_52 _) (Wr.len _) ?_
    repeat' first
      | simp -dsimp (disch := omega) only [↓rulesA, rulesB, rulesC, Int.reduceLT, nth, upd, put, storeN, AV.one, Nat.reduceBEq, Nat.reduceBNe, Int.reduceBEq, Int.reduceBNe, Int.reduceLE, Int.reduceEq, Int.reduceMod, Int.reduceNeg, boolBin, strBin, intBin, unA, fillA, ne_eq, reduceCtorEq, Nat.reduceAdd, Nat.reduceSub, Nat.reduceLeDiff, Nat.reduceLT, Nat.reduceEqDiff, Int.reduceToNat, eq_self, rulesT, bne_self_eq_false, mm_min, mm_max, buOf_some, nilCheck_vp, nilCheck_ptr, nilCheck_yld, nilCheck_func, Dev.row, Dev.o0, Dev.o1, Dev.o2, Dev.o3, Dev.o4, Dev.o5, Dev.o6, Dev.o7, Dev.olen, Dev.s0, Dev.s1, Dev.s2, Dev.s5, Dev.s6, Dev.s7, Sec.len, Sec.zr, Sec.zr', Sec.all, Sec.take, Sec.drop, Sec.put, Sec.rlen, Sec.rpart, Sec.rin, Sec.rset, Wr.build, Wr.len, Wr.zr, Wr.all, Wr.take, Wr.drop, Wr.g0, Wr.part1, Wr.put, Wr.rlen, Wr.rpart, Wr.rin, Wr.rat0, Wr.rset, Wr.rset1, Wr.rin1, *]
      | (refine allK_intro fun n hn => ?_; try simp only [fresh_set] at hn)
      | (refine ifK_intro (fun h => ?_) (fun h => ?_) <;> (try simp only [decide_eq_true_eq, decide_eq_false_iff_not, Bool.not_eq_true', Bool.not_eq_false'] at h) <;> try (exfalso; (try simp only [beq_iff_eq, beq_eq_false_iff_ne, bne_iff_ne, bne_eq_false_iff_eq, ne_eq] at h); omega))
      | (refine keeps_sub (Mem.sub_set (by simp [Mem.set_at, nomem, *])) ?_)
    refine append_open app_52 (src_52 _ [⟨k, s⟩] _) (bt := 70) (cs := (d.list.map Wr.cells).flatten) (by simp [Mem.set_at, *]) cs_70 (by rw [Wr.rlen]; simp) (show (d.list.length + 1) * 72 ≤ _ by omega) fun n4 hn4 => ?_
    simp only [fresh_set] at hn4
    repeat' first
      | simp -dsimp (disch := omega) only [↓rulesA, rulesB, rulesC, Int.reduceLT, nth, upd, put, storeN, AV.one, Nat.reduceBEq, Nat.reduceBNe, Int.reduceBEq, Int.reduceBNe, Int.reduceLE, Int.reduceEq, Int.reduceMod, Int.reduceNeg, boolBin, strBin, intBin, unA, fillA, ne_eq, reduceCtorEq, Nat.reduceAdd, Nat.reduceSub, Nat.reduceLeDiff, Nat.reduceLT, Nat.reduceEqDiff, Int.reduceToNat, eq_self, rulesT, bne_self_eq_false, mm_min, mm_max, buOf_some, nilCheck_vp, nilCheck_ptr, nilCheck_yld, nilCheck_func, Dev.row, Dev.o0, Dev.o1, Dev.o2, Dev.o3, Dev.o4, Dev.o5, Dev.o6, Dev.o7, Dev.olen, Dev.s0, Dev.s1, Dev.s2, Dev.s5, Dev.s6, Dev.s7, Sec.len, Sec.zr, Sec.zr', Sec.all, Sec.take, Sec.drop, Sec.put, Sec.rlen, Sec.rpart, Sec.rin, Sec.rset, Wr.build, Wr.len, Wr.zr, Wr.all, Wr.take, Wr.drop, Wr.g0, Wr.part1, Wr.put, Wr.rlen, Wr.rpart, Wr.rin, Wr.rat0, Wr.rset, Wr.rset1, Wr.rin1, *]
      | (refine allK_intro fun n hn => ?_; try simp only [fresh_set] at hn)
      | (refine ifK_intro (fun h => ?_) (fun h => ?_) <;> (try simp only [decide_eq_true_eq, decide_eq_false_iff_not, Bool.not_eq_true', Bool.not_eq_false'] at h) <;> try (exfalso; (try simp only [beq_iff_eq, beq_eq_false_iff_ne, bne_iff_ne, bne_eq_false_iff_eq, ne_eq] at h); omega))
      | (refine keeps_sub (Mem.sub_set (by simp [Mem.set_at, nomem, *])) ?_)
      | (refine keeps_stab (by repeat' first | exact stabK_nil _ _ | refine stabK_cons ?_ ?_ | (simp (disch := omega) only [quietA, Option.isSome_some, ↓rulesA, rulesB, rulesC, Int.reduceLT, nth, upd, put, storeN, AV.one, Nat.reduceBEq, Nat.reduceBNe, Int.reduceBEq, Int.reduceBNe, Int.reduceLE, Int.reduceEq, Int.reduceMod, Int.reduceNeg, boolBin, strBin, intBin, unA, fillA, ne_eq, reduceCtorEq, Nat.reduceAdd, Nat.reduceSub, Nat.reduceLeDiff, Nat.reduceLT, Nat.reduceEqDiff, Int.reduceToNat, eq_self, rulesT, bne_self_eq_false, mm_min, mm_max, buOf_some, nilCheck_vp, nilCheck_ptr, nilCheck_yld, nilCheck_func, Dev.row, Dev.o0, Dev.o1, Dev.o2, Dev.o3, Dev.o4, Dev.o5, Dev.o6, Dev.o7, Dev.olen, Dev.s0, Dev.s1, Dev.s2, Dev.s5, Dev.s6, Dev.s7, Sec.len, Sec.zr, Sec.zr', Sec.all, Sec.take, Sec.drop, Sec.put, Sec.rlen, Sec.rpart, Sec.rin, Sec.rset, Wr.build, Wr.len, Wr.zr, Wr.all, Wr.take, Wr.drop, Wr.g0, Wr.part1, Wr.put, Wr.rlen, Wr.rpart, Wr.rin, Wr.rat0, Wr.rset, Wr.rset1, Wr.rin1, *]; done)) ?_)
    have e4 : layL d.list k s = d.list ++ [⟨k, s⟩] := by unfold layL; rw [if_neg hf]
    obtain ⟨b1, b2, b3, b4, b5, b6, b7, b8, -⟩ := hn4
    refine .sub (m' := (layD d k s).mem N n4 nL) ?_ ⟨rfl, n4, nL, b4, h2, b7, rfl⟩
    unfold Dev.mem
    refine Mem.set_sub (Mem.set_sub (Mem.set_sub (nomem_sub _) ?_) ?_) ?_
    · simp [Mem.set_at, *, layD]
    · simp [Mem.set_at, *, layD]
    · simp [Mem.set_at, *, layD, Dev.own, Dev.row]
end Go.Proofs.Ytkfjjjjejdogbaa

