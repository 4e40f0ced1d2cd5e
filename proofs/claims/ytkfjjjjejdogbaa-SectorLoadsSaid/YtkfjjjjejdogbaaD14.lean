/- Package 05: the reference's device. -/
import Derived.Test.YtkfjjjjejdogbaaD13
set_option maxRecDepth 100000
set_option maxHeartbeats 1000000
set_option linter.unusedSimpArgs false
set_option linter.unusedVariables false
namespace Go.Proofs.Ytkfjjjjejdogbaa
open Go.Abs
attribute [local irreducible] C X CC Y CV CW binK litK AppK PureC PureCV againK loopV rangeV allK ifK got onB condK V stepsK planK opK firstK seeE keepsK

def slotC (w : Wr) : List AV := [.val (.int .i64 w.at_), .val (.string ⟨w.s.l.toArray⟩)]
theorem Slot.len (l : List Wr) : (l.map slotC).flatten.length = l.length * 2 := row_len slotC (s := 2) (fun _ => rfl) l
theorem Slot.rat0 (l : List Wr) (k : Nat) (hk : k < l.length) : (l.map slotC).flatten[k * 2]? = some (.val (.int .i64 (l.getD k default).at_)) := row_at slotC (s := 2) (fun _ => rfl) l (j := 0) hk (by decide)
theorem Slot.rat1 (l : List Wr) (k : Nat) (hk : k < l.length) : (l.map slotC).flatten[k * 2 + 1]? = some (.val (.string ⟨(l.getD k default).s.l.toArray⟩)) := row_at slotC (s := 2) (fun _ => rfl) l (j := 1) hk (by decide)
theorem Slot.rin (l : List Wr) (k : Nat) (hk : k < l.length) : (k * 2 + 2 ≤ (l.map slotC).flatten.length) = True := eq_true (row_in slotC (s := 2) (fun _ => rfl) l hk (Nat.le_refl _))
theorem Slot.rin1 (l : List Wr) (k : Nat) (hk : k < l.length) : (k * 2 + 1 + 1 ≤ (l.map slotC).flatten.length) = True := Slot.rin l k hk
theorem Slot.rpart (l : List Wr) (k : Nat) (hk : k < l.length) : ((l.map slotC).flatten.drop (k * 2)).take 2 = slotC (l.getD k default) := row_part slotC (fun _ => rfl) l hk
theorem Slot.rset1 (l : List Wr) (k : Nat) (hk : k < l.length) (s : Sec) : setRange (l.map slotC).flatten (k * 2 + 1) [.val (.string ⟨s.l.toArray⟩)] = ((l.set k ⟨(l.getD k default).at_, s⟩).map slotC).flatten := row_field slotC (s := 2) (fun _ => rfl) l hk _ _ rfl (by decide)
theorem Slot.slen (w : Wr) : (slotC w).length = 2 := rfl
theorem Slot.all (w : Wr) : (slotC w).all AV.one = true := rfl
theorem Slot.g0 (w : Wr) : (slotC w)[0]? = some (.val (.int .i64 w.at_)) := rfl
theorem Slot.g1 (w : Wr) : (slotC w)[1]? = some (.val (.string ⟨w.s.l.toArray⟩)) := rfl
theorem Slot.take (w : Wr) : (slotC w).take 2 = slotC w := rfl
def leftI (d : Dev) : Int := if d.set then d.left else -1
/-- As it is read; pk: what is picked, where no cut is set. -/
def Dev.rr (d : Dev) (pk : Int) (x y : Bool) : List AV := [.val (.bool true), .vs ((imgL d.laid).map byteC) x, .vs (d.list.map slotC) y, .val (.bool d.dead), .val (.int .i64 (leftI d)), .val (.int .u64 pk), .val (.int .i64 d.w), .val (.int .i64 d.f)]
/-- As it is the run's own. -/
def Dev.rl (d : Dev) (nD : Nat) (c : AV) (lf pk : Int) : List AV := [.val (.bool true), .sl nD 0 (d.laid.length * 64) (d.laid.length * 64), c, .val (.bool d.dead), .val (.int .i64 lf), .val (.int .u64 pk), .val (.int .i64 d.w), .val (.int .i64 d.f)]
def Dev.ro (d : Dev) (nD : Nat) (c : AV) (pk : Int) : List AV := d.rl nD c (leftI d) pk
section
variable (d : Dev) (lf pk : Int) (x y : Bool) (nD : Nat) (c c' : AV)
theorem Dev.q0 : (d.rr pk x y)[0]? = some (.val (.bool true)) := rfl
theorem Dev.q1 : (d.rr pk x y)[1]? = some (.vs ((imgL d.laid).map byteC) x) := rfl
theorem Dev.q2 : (d.rr pk x y)[2]? = some (.vs (d.list.map slotC) y) := rfl
theorem Dev.q3 : (d.rr pk x y)[3]? = some (.val (.bool d.dead)) := rfl
theorem Dev.q4 : (d.rr pk x y)[4]? = some (.val (.int .i64 (leftI d))) := rfl
theorem Dev.q5 : (d.rr pk x y)[5]? = some (.val (.int .u64 pk)) := rfl
theorem Dev.q6 : (d.rr pk x y)[6]? = some (.val (.int .i64 d.w)) := rfl
theorem Dev.q7 : (d.rr pk x y)[7]? = some (.val (.int .i64 d.f)) := rfl
theorem Dev.p0 : (d.rl nD c lf pk)[0]? = some (.val (.bool true)) := rfl
theorem Dev.p1 : (d.rl nD c lf pk)[1]? = some (.sl nD 0 (d.laid.length * 64) (d.laid.length * 64)) := rfl
theorem Dev.p2 : (d.rl nD c lf pk)[2]? = some c := rfl
theorem Dev.p3 : (d.rl nD c lf pk)[3]? = some (.val (.bool d.dead)) := rfl
theorem Dev.p4 : (d.rl nD c lf pk)[4]? = some (.val (.int .i64 lf)) := rfl
theorem Dev.p5 : (d.rl nD c lf pk)[5]? = some (.val (.int .u64 pk)) := rfl
theorem Dev.p6 : (d.rl nD c lf pk)[6]? = some (.val (.int .i64 d.w)) := rfl
theorem Dev.p7 : (d.rl nD c lf pk)[7]? = some (.val (.int .i64 d.f)) := rfl
theorem Dev.plen : (d.rl nD c lf pk).length = 8 := rfl
theorem Dev.t2 : setRange (d.rl nD c lf pk) 2 [c'] = d.rl nD c' lf pk := rfl
theorem Dev.t3 (b : Bool) : setRange (d.rl nD c lf pk) 3 [.val (.bool b)] = ({ d with dead := b } : Dev).rl nD c lf pk := rfl
theorem Dev.t5 (q : Int) : setRange (d.rl nD c lf pk) 5 [.val (.int .u64 q)] = d.rl nD c lf q := rfl
theorem Dev.t6 : setRange (d.rl nD c lf pk) 6 [.val (.int .i64 ((d.w : Int) + 1))] = ({ d with w := d.w + 1 } : Dev).rl nD c lf pk := rfl
theorem Dev.t7 : setRange (d.rl nD c lf pk) 7 [.val (.int .i64 ((d.f : Int) + 1))] = ({ d with f := d.f + 1 } : Dev).rl nD c lf pk := rfl
theorem Dev.t4 (i : Int) : setRange (d.rl nD c lf pk) 4 [.val (.int .i64 i)] = d.rl nD c i pk := rfl
end
def Dev.rrow (d : Dev) (nC : Nat) : AV := .sl nC 0 d.list.length d.list.length
def Dev.rmem (d : Dev) (N nC nD : Nat) (pk : Int) : Mem := ((nomem.set nD (.cells false 5 ((imgL d.laid).map byteC).flatten)).set nC (.cells true 81 (d.list.map slotC).flatten)).set N (.cells false 73 (d.ro nD (d.rrow nC) pk))
def Dev.RAt (d : Dev) (N : Nat) (m : Mem) : Prop := ∃ nC nD pk, N ≠ nC ∧ N ≠ nD ∧ nC ≠ nD ∧ (d.set = true → pk = d.pick) ∧ m = d.rmem N nC nD pk
theorem Dev.RAt.seen {d : Dev} {N : Nat} {m M : Mem} (h : d.RAt N m) (hs : m.sub M) (off : Nat) : ∃ pk, Seen M (.ptr N off) (.vp (d.rr pk false false) off) ∧ (d.set = true → pk = d.pick) := by
  obtain ⟨nC, nD, pk, h1, h2, h3, h4, rfl⟩ := h
  refine ⟨pk, Seen.mono hs ?_, h4⟩
  refine .ptr (Mem.set_same _ _ _) (Nat.zero_lt_succ _) rfl fun i hi hi' => ?_
  have hi : i < 8 := hi
  have a1 : Seen (d.rmem N nC nD pk) (.sl nD 0 (d.laid.length * 64) (d.laid.length * 64)) (.vs ((imgL d.laid).map byteC) false) := by
    have := Seen.row byteC (s := 1) (cap := d.laid.length * 64) (m := d.rmem N nC nD pk) (n := nD) (opn := false) (t := 5) byteC_len (imgL d.laid) (by
      show Dev.rmem d N nC nD pk _ = _
      unfold Dev.rmem
      rw [Mem.set_ne _ _ (Ne.symm h2), Mem.set_ne _ _ (Ne.symm h3), Mem.set_same])
    rwa [imgL_len] at this
  have a2 : Seen (d.rmem N nC nD pk) (d.rrow nC) (.vs (d.list.map slotC) false) := Seen.row slotC (s := 2) (n := nC) (opn := true) (t := 81) (fun _ => rfl) d.list (by
    show Dev.rmem d N nC nD pk _ = _
    unfold Dev.rmem
    rw [Mem.set_ne _ _ (Ne.symm h1), Mem.set_same])
  match i, hi with
  | 0, _ => exact .same
  | 1, _ => exact a1
  | 2, _ => exact a2
  | 3, _ => exact .same
  | 4, _ => exact .same
  | 5, _ => exact .same
  | 6, _ => exact .same
  | 7, _ => exact .same
theorem Dev.RAt.eq {d d' : Dev} {N : Nat} {m : Mem} (h : d.RAt N m) (e : d = d') : d'.RAt N m := e ▸ h
theorem ix_71 (l : List Wr) (x : Bool) (kk : IntKind) (k : Int) (h0 : 0 ≤ k) (h1 : k < l.length) : indexAddrA Try.prog 71 (.vs (l.map slotC) x) (.val (.int kk k)) = some (.vp (slotC (l.getD k.toNat default)) 0) := index_vs slotC ti_71 rfl ti_81 (fun _ => rfl) l x kk k h0 h1
theorem quo64 (n : Nat) : (((n * 64 : Nat) : Int)).tdiv 64 = (n : Int) := by
  rw [Int.natCast_mul]; exact Int.mul_tdiv_cancel _ (by decide)
/-! ### What only looks -/
theorem F36 (d : Dev) (pk : Int) (x y : Bool) (hm : d.laid.length ≤ 4096) : F Try.prog 36 [.vp (d.rr pk x y) 0] (.val (.int .i64 d.laid.length)) := by
  have hi := imgL_len d.laid
  refine F36_of ?_
  unfold k36
  repeat' first
    | simp -dsimp (disch := omega) only [↓rulesA, rulesB, rulesC, Int.reduceLT, nth, upd, put, storeN, AV.one, Nat.reduceBEq, Nat.reduceBNe, Int.reduceBEq, Int.reduceBNe, Int.reduceLE, Int.reduceEq, Int.reduceMod, Int.reduceNeg, boolBin, strBin, intBin, unA, fillA, ne_eq, reduceCtorEq, Nat.reduceAdd, Nat.reduceSub, Nat.reduceLeDiff, Nat.reduceLT, Nat.reduceEqDiff, Int.reduceToNat, eq_self, rulesT, bne_self_eq_false, mm_min, mm_max, buOf_some, nilCheck_vp, nilCheck_ptr, nilCheck_yld, nilCheck_func, Dev.q0, Dev.q1, Dev.q2, Dev.q3, Dev.q4, Dev.q5, Dev.q6, Dev.q7, quo64, *]
    | (refine allK_intro fun n hn => ?_; try simp only [fresh_set] at hn)
    | (refine ifK_intro (fun h => ?_) (fun h => ?_) <;> (try simp only [decide_eq_true_eq, decide_eq_false_iff_not, Bool.not_eq_true', Bool.not_eq_false'] at h) <;> try (exfalso; (try simp only [beq_iff_eq, beq_eq_false_iff_ne, bne_iff_ne, bne_eq_false_iff_eq, ne_eq] at h); omega))
    | (refine keeps_sub (Mem.sub_set (by simp [Mem.set_at, nomem, *])) ?_)
  exact .val
theorem F35 (d : Dev) (pk : Int) (x y : Bool) : F Try.prog 35 [.vp (d.rr pk x y) 0] (.tup [.val (.int .i64 d.w), .val (.int .i64 d.f)]) := by
  refine F35_of ?_
  unfold k35
  repeat' first
    | simp -dsimp (disch := omega) only [↓rulesA, rulesB, rulesC, Int.reduceLT, nth, upd, put, storeN, AV.one, Nat.reduceBEq, Nat.reduceBNe, Int.reduceBEq, Int.reduceBNe, Int.reduceLE, Int.reduceEq, Int.reduceMod, Int.reduceNeg, boolBin, strBin, intBin, unA, fillA, ne_eq, reduceCtorEq, Nat.reduceAdd, Nat.reduceSub, Nat.reduceLeDiff, Nat.reduceLT, Nat.reduceEqDiff, Int.reduceToNat, eq_self, rulesT, bne_self_eq_false, mm_min, mm_max, buOf_some, nilCheck_vp, nilCheck_ptr, nilCheck_yld, nilCheck_func, Dev.q0, Dev.q1, Dev.q2, Dev.q3, Dev.q4, Dev.q5, Dev.q6, Dev.q7, *]
    | (refine allK_intro fun n hn => ?_; try simp only [fresh_set] at hn)
    | (refine ifK_intro (fun h => ?_) (fun h => ?_) <;> (try simp only [decide_eq_true_eq, decide_eq_false_iff_not, Bool.not_eq_true', Bool.not_eq_false'] at h) <;> try (exfalso; (try simp only [beq_iff_eq, beq_eq_false_iff_ne, bne_iff_ne, bne_eq_false_iff_eq, ne_eq] at h); omega))
    | (refine keeps_sub (Mem.sub_set (by simp [Mem.set_at, nomem, *])) ?_)
  exact New.flat rfl
theorem F40 (d : Dev) (pk : Int) (x y : Bool) : F Try.prog 40 [.vp (d.rr pk x y) 0] (.val (.bool d.dead)) := by
  refine F40_of ?_
  unfold k40
  repeat' first
    | simp -dsimp (disch := omega) only [↓rulesA, rulesB, rulesC, Int.reduceLT, nth, upd, put, storeN, AV.one, Nat.reduceBEq, Nat.reduceBNe, Int.reduceBEq, Int.reduceBNe, Int.reduceLE, Int.reduceEq, Int.reduceMod, Int.reduceNeg, boolBin, strBin, intBin, unA, fillA, ne_eq, reduceCtorEq, Nat.reduceAdd, Nat.reduceSub, Nat.reduceLeDiff, Nat.reduceLT, Nat.reduceEqDiff, Int.reduceToNat, eq_self, rulesT, bne_self_eq_false, mm_min, mm_max, buOf_some, nilCheck_vp, nilCheck_ptr, nilCheck_yld, nilCheck_func, Dev.q0, Dev.q1, Dev.q2, Dev.q3, Dev.q4, Dev.q5, Dev.q6, Dev.q7, *]
    | (refine allK_intro fun n hn => ?_; try simp only [fresh_set] at hn)
    | (refine ifK_intro (fun h => ?_) (fun h => ?_) <;> (try simp only [decide_eq_true_eq, decide_eq_false_iff_not, Bool.not_eq_true', Bool.not_eq_false'] at h) <;> try (exfalso; (try simp only [beq_iff_eq, beq_eq_false_iff_ne, bne_iff_ne, bne_eq_false_iff_eq, ne_eq] at h); omega))
    | (refine keeps_sub (Mem.sub_set (by simp [Mem.set_at, nomem, *])) ?_)
  all_goals exact .val
theorem F37 (d : Dev) (pk : Int) (x y : Bool) (hm : d.laid.length ≤ 4096) : F Try.prog 37 [.vp (d.rr pk x y) 0] (.vs ((imgL d.laid).map byteC) false) := by
  have hi := imgL_len d.laid
  refine F37_of ?_
  unfold k37
  repeat' first
    | simp -dsimp (disch := omega) only [↓rulesA, rulesB, rulesC, Int.reduceLT, nth, upd, put, storeN, AV.one, Nat.reduceBEq, Nat.reduceBNe, Int.reduceBEq, Int.reduceBNe, Int.reduceLE, Int.reduceEq, Int.reduceMod, Int.reduceNeg, boolBin, strBin, intBin, unA, fillA, ne_eq, reduceCtorEq, Nat.reduceAdd, Nat.reduceSub, Nat.reduceLeDiff, Nat.reduceLT, Nat.reduceEqDiff, Int.reduceToNat, eq_self, rulesT, bne_self_eq_false, mm_min, mm_max, buOf_some, nilCheck_vp, nilCheck_ptr, nilCheck_yld, nilCheck_func, Dev.q0, Dev.q1, Dev.q2, Dev.q3, Dev.q4, Dev.q5, Dev.q6, Dev.q7, *]
    | (refine allK_intro fun n hn => ?_; try simp only [fresh_set] at hn)
    | (refine ifK_intro (fun h => ?_) (fun h => ?_) <;> (try simp only [decide_eq_true_eq, decide_eq_false_iff_not, Bool.not_eq_true', Bool.not_eq_false'] at h) <;> try (exfalso; (try simp only [beq_iff_eq, beq_eq_false_iff_ne, bne_iff_ne, bne_eq_false_iff_eq, ne_eq] at h); omega))
    | (refine keeps_sub (Mem.sub_set (by simp [Mem.set_at, nomem, *])) ?_)
  refine append_nil app_27 (src_27 _ _ _) (by show (imgL d.laid).length * 1 ≤ _; omega) fun n1 hn1 => ?_
  repeat' first
    | simp -dsimp (disch := omega) only [↓rulesA, rulesB, rulesC, Int.reduceLT, nth, upd, put, storeN, AV.one, Nat.reduceBEq, Nat.reduceBNe, Int.reduceBEq, Int.reduceBNe, Int.reduceLE, Int.reduceEq, Int.reduceMod, Int.reduceNeg, boolBin, strBin, intBin, unA, fillA, ne_eq, reduceCtorEq, Nat.reduceAdd, Nat.reduceSub, Nat.reduceLeDiff, Nat.reduceLT, Nat.reduceEqDiff, Int.reduceToNat, eq_self, rulesT, bne_self_eq_false, mm_min, mm_max, buOf_some, nilCheck_vp, nilCheck_ptr, nilCheck_yld, nilCheck_func, *]
    | (refine allK_intro fun n hn => ?_; try simp only [fresh_set] at hn)
    | (refine ifK_intro (fun h => ?_) (fun h => ?_) <;> (try simp only [decide_eq_true_eq, decide_eq_false_iff_not, Bool.not_eq_true', Bool.not_eq_false'] at h) <;> try (exfalso; (try simp only [beq_iff_eq, beq_eq_false_iff_ne, bne_iff_ne, bne_eq_false_iff_eq, ne_eq] at h); omega))
    | (refine keeps_sub (Mem.sub_set (by simp [Mem.set_at, nomem, *])) ?_)
  have := New.row byteC (s := 1) (cap := (imgL d.laid).length) byteC_len byteC_flat (imgL d.laid) (m := nomem.set n1 (.cells true 5 ((imgL d.laid).map byteC).flatten)) (Mem.set_same _ _ _)
  rwa [hi] at this
theorem F39 (d : Dev) (pk : Int) (x y : Bool) (hl : d.list.length ≤ 4096) : F Try.prog 39 [.vp (d.rr pk x y) 0] (.vs ((dirtyOf d.list).map natC) false) := by
  refine F39_of ?_
  unfold k39
  repeat' first
    | simp -dsimp (disch := omega) only [↓rulesA, rulesB, rulesC, Int.reduceLT, nth, upd, put, storeN, AV.one, Nat.reduceBEq, Nat.reduceBNe, Int.reduceBEq, Int.reduceBNe, Int.reduceLE, Int.reduceEq, Int.reduceMod, Int.reduceNeg, boolBin, strBin, intBin, unA, fillA, ne_eq, reduceCtorEq, Nat.reduceAdd, Nat.reduceSub, Nat.reduceLeDiff, Nat.reduceLT, Nat.reduceEqDiff, Int.reduceToNat, eq_self, rulesT, bne_self_eq_false, mm_min, mm_max, buOf_some, nilCheck_vp, nilCheck_ptr, nilCheck_yld, nilCheck_func, *]
    | (refine allK_intro fun n hn => ?_; try simp only [fresh_set] at hn)
    | (refine ifK_intro (fun h => ?_) (fun h => ?_) <;> (try simp only [decide_eq_true_eq, decide_eq_false_iff_not, Bool.not_eq_true', Bool.not_eq_false'] at h) <;> try (exfalso; (try simp only [beq_iff_eq, beq_eq_false_iff_ne, bne_iff_ne, bne_eq_false_iff_eq, ne_eq] at h); omega))
    | (refine keeps_sub (Mem.sub_set (by simp [Mem.set_at, nomem, *])) ?_)
  refine loop_introG (fun j env m => ∃ (i n1 : Nat), i ≤ d.list.length ∧ j = d.list.length - i ∧ m = nomem.set n1 (.cells true 3 (((dirtyOf d.list).take i).map natC).flatten) ∧ env.length = 26 ∧ nth env 0 = .vp (d.rr pk x y) 0 ∧ nth env 3 = .sl n1 0 i i ∧ nth env 4 = .val (.int .i64 i)) d.list.length ?_ ?_
  · refine Ghosts.nil 3 3 (Nat.le_of_ble_eq_true rfl) rfl fun n1 hn1 => .mk ?_
    exact ⟨0, n1, by omega, by omega, rfl, rfl, rfl, rfl, rfl⟩
  rintro j env m ⟨i, n1, hi, rfl, rfl, hlen, e0, e3, e4⟩
  repeat' first
    | simp -dsimp (disch := omega) only [↓rulesA, rulesB, rulesC, Int.reduceLT, nth, upd, put, storeN, AV.one, Nat.reduceBEq, Nat.reduceBNe, Int.reduceBEq, Int.reduceBNe, Int.reduceLE, Int.reduceEq, Int.reduceMod, Int.reduceNeg, boolBin, strBin, intBin, unA, fillA, ne_eq, reduceCtorEq, Nat.reduceAdd, Nat.reduceSub, Nat.reduceLeDiff, Nat.reduceLT, Nat.reduceEqDiff, Int.reduceToNat, eq_self, rulesT, bne_self_eq_false, mm_min, mm_max, buOf_some, nilCheck_vp, nilCheck_ptr, nilCheck_yld, nilCheck_func, ix_71, Slot.len, Slot.rat0, Slot.rat1, Slot.rin, Slot.rin1, Slot.rpart, Slot.rset1, Slot.slen, Slot.all, Slot.g0, Slot.g1, Slot.take, Dev.q0, Dev.q1, Dev.q2, Dev.q3, Dev.q4, Dev.q5, Dev.q6, Dev.q7, *]
    | (refine allK_intro fun n hn => ?_; try simp only [fresh_set] at hn)
    | (refine ifK_intro (fun h => ?_) (fun h => ?_) <;> (try simp only [decide_eq_true_eq, decide_eq_false_iff_not, Bool.not_eq_true', Bool.not_eq_false'] at h) <;> try (exfalso; (try simp only [beq_iff_eq, beq_eq_false_iff_ne, bne_iff_ne, bne_eq_false_iff_eq, ne_eq] at h); omega))
    | (refine keeps_sub (Mem.sub_set (by simp [Mem.set_at, nomem, *])) ?_)
  · have e : (dirtyOf d.list).take i ++ [(d.list.getD i default).at_] = (dirtyOf d.list).take (i + 1) := by
      have := take_snoc (dirtyOf d.list) i (by unfold dirtyOf; simp; omega)
      rw [← this]; unfold dirtyOf; rw [getD_map _ _ _ (by omega)]
    have el : ((dirtyOf d.list).take i).length = i := by unfold dirtyOf; simp; omega
    refine lit_vs (lit1_39 _) rfl ?_
    repeat' first
      | simp -dsimp (disch := omega) only [↓rulesA, rulesB, rulesC, Int.reduceLT, nth, upd, put, storeN, AV.one, Nat.reduceBEq, Nat.reduceBNe, Int.reduceBEq, Int.reduceBNe, Int.reduceLE, Int.reduceEq, Int.reduceMod, Int.reduceNeg, boolBin, strBin, intBin, unA, fillA, ne_eq, reduceCtorEq, Nat.reduceAdd, Nat.reduceSub, Nat.reduceLeDiff, Nat.reduceLT, Nat.reduceEqDiff, Int.reduceToNat, eq_self, rulesT, bne_self_eq_false, mm_min, mm_max, buOf_some, nilCheck_vp, nilCheck_ptr, nilCheck_yld, nilCheck_func, *]
      | (refine allK_intro fun n hn => ?_; try simp only [fresh_set] at hn)
      | (refine ifK_intro (fun h => ?_) (fun h => ?_) <;> (try simp only [decide_eq_true_eq, decide_eq_false_iff_not, Bool.not_eq_true', Bool.not_eq_false'] at h) <;> try (exfalso; (try simp only [beq_iff_eq, beq_eq_false_iff_ne, bne_iff_ne, bne_eq_false_iff_eq, ne_eq] at h); omega))
      | (refine keeps_sub (Mem.sub_set (by simp [Mem.set_at, nomem, *])) ?_)
    refine append_open app_39 (k := 1) (src := [.val (.int .i64 (d.list.getD i default).at_)]) rfl (Mem.set_same _ _ _) cs_3 (by rw [natC_len, el]; simp) (by show (i + 1) * 8 ≤ _; omega) fun n2 hn2 => ?_
    repeat' first
      | simp -dsimp (disch := omega) only [↓rulesA, rulesB, rulesC, Int.reduceLT, nth, upd, put, storeN, AV.one, Nat.reduceBEq, Nat.reduceBNe, Int.reduceBEq, Int.reduceBNe, Int.reduceLE, Int.reduceEq, Int.reduceMod, Int.reduceNeg, boolBin, strBin, intBin, unA, fillA, ne_eq, reduceCtorEq, Nat.reduceAdd, Nat.reduceSub, Nat.reduceLeDiff, Nat.reduceLT, Nat.reduceEqDiff, Int.reduceToNat, eq_self, rulesT, bne_self_eq_false, mm_min, mm_max, buOf_some, nilCheck_vp, nilCheck_ptr, nilCheck_yld, nilCheck_func, *]
      | (refine allK_intro fun n hn => ?_; try simp only [fresh_set] at hn)
      | (refine ifK_intro (fun h => ?_) (fun h => ?_) <;> (try simp only [decide_eq_true_eq, decide_eq_false_iff_not, Bool.not_eq_true', Bool.not_eq_false'] at h) <;> try (exfalso; (try simp only [beq_iff_eq, beq_eq_false_iff_ne, bne_iff_ne, bne_eq_false_iff_eq, ne_eq] at h); omega))
      | (refine keeps_sub (Mem.sub_set (by simp [Mem.set_at, nomem, *])) ?_)
    rw [natC_snoc, e]
    refine again_intro (d.list.length - (i + 1)) (by omega) (nomem.set n2 (.cells true 3 (((dirtyOf d.list).take (i + 1)).map natC).flatten)) ?_ ⟨i + 1, n2, by omega, rfl, rfl, ?_, ?_, ?_, ?_⟩
    · refine nomem_set_sub ?_; simp [Mem.set_at, *]
    all_goals try (simp (disch := omega) only [nth_upd, pickB_true, pickB_false, inB_lt, upd_len, cast_succ, Nat.reduceBEq, beq_self_eq_true, reduceCtorEq, *]; done)
  · have : i = d.list.length := by omega
    subst this
    have e : (dirtyOf d.list).take d.list.length = dirtyOf d.list := List.take_of_length_le (by unfold dirtyOf; simp)
    rw [e]
    have := New.row natC (s := 1) (opn := true) (t := 3) (m := nomem.set n1 (.cells true 3 ((dirtyOf d.list).map natC).flatten)) (fun _ => rfl) (fun _ => rfl) (dirtyOf d.list) (n := n1) (cap := d.list.length) (Mem.set_same _ _ _)
    rwa [show (dirtyOf d.list).length = d.list.length by unfold dirtyOf; simp] at this
end Go.Proofs.Ytkfjjjjejdogbaa

