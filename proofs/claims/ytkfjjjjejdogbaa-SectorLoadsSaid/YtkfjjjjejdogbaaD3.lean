/- Package 05: the sectors in the cache, the image, reading. -/
import Derived.Test.YtkfjjjjejdogbaaD2
set_option maxRecDepth 100000
set_option maxHeartbeats 1000000
set_option linter.unusedSimpArgs false
set_option linter.unusedVariables false
namespace Go.Proofs.Ytkfjjjjejdogbaa
open Go.Abs
attribute [local irreducible] C X CC Y CV CW binK litK AppK PureC PureCV againK loopV rangeV allK ifK got onB condK V stepsK planK opK firstK seeE keepsK

def natC (k : Nat) : List AV := [.val (.int .i64 k)]
theorem natC_len (l : List Nat) : (l.map natC).flatten.length = l.length * 1 := row_len' natC (fun _ => rfl) l
theorem natC_snoc (l : List Nat) (k : Nat) : (l.map natC).flatten ++ [.val (.int .i64 k)] = ((l ++ [k]).map natC).flatten := by simp [natC]
theorem getD_map {α β : Type} [Inhabited α] [Inhabited β] (f : α → β) (l : List α) (i : Nat) (h : i < l.length) : (l.map f).getD i default = f (l.getD i default) := by
  simp [List.getD_eq_getElem?_getD, h]
theorem take_snoc {α : Type} [Inhabited α] (l : List α) (i : Nat) (h : i < l.length) : l.take i ++ [l.getD i default] = l.take (i + 1) := by
  rw [List.take_add_one, List.getElem?_eq_getElem h, List.getD_eq_getElem?_getD, List.getElem?_eq_getElem h]; rfl
/-- The sectors in the cache. -/
def dirtyOf (l : List Wr) : List Nat := l.map (·.at_)
theorem F18 (d : Dev) (x y : Bool) (h : 1 ≤ d.laid.length) (hl : d.list.length ≤ 4096) : F Try.prog 18 [.vp (d.rc x y) 0] (.vs ((dirtyOf d.list).map natC) false) := by
  refine F18_of ?_
  unfold k18
  repeat' first
    | simp -dsimp (disch := omega) only [↓rulesA, rulesB, rulesC, Int.reduceLT, nth, upd, put, storeN, AV.one, Nat.reduceBEq, Nat.reduceBNe, Int.reduceBEq, Int.reduceBNe, Int.reduceLE, Int.reduceEq, Int.reduceMod, Int.reduceNeg, boolBin, strBin, intBin, unA, fillA, ne_eq, reduceCtorEq, Nat.reduceAdd, Nat.reduceSub, Nat.reduceLeDiff, Nat.reduceLT, Nat.reduceEqDiff, Int.reduceToNat, eq_self, rulesT, bne_self_eq_false, mm_min, mm_max, buOf_some, nilCheck_vp, nilCheck_ptr, nilCheck_yld, nilCheck_func, *]
    | (refine allK_intro fun n hn => ?_; try simp only [fresh_set] at hn)
    | (refine ifK_intro (fun h => ?_) (fun h => ?_) <;> (try simp only [decide_eq_true_eq, decide_eq_false_iff_not, Bool.not_eq_true', Bool.not_eq_false'] at h) <;> try (exfalso; (try simp only [beq_iff_eq, beq_eq_false_iff_ne, bne_iff_ne, bne_eq_false_iff_eq, ne_eq] at h); omega))
    | (refine keeps_sub (Mem.sub_set (by simp [Mem.set_at, nomem, *])) ?_)
  refine call_F (F28 d x y h) (Seens.refl _ _) ?_
  repeat' first
    | simp -dsimp (disch := omega) only [↓rulesA, rulesB, rulesC, Int.reduceLT, nth, upd, put, storeN, AV.one, Nat.reduceBEq, Nat.reduceBNe, Int.reduceBEq, Int.reduceBNe, Int.reduceLE, Int.reduceEq, Int.reduceMod, Int.reduceNeg, boolBin, strBin, intBin, unA, fillA, ne_eq, reduceCtorEq, Nat.reduceAdd, Nat.reduceSub, Nat.reduceLeDiff, Nat.reduceLT, Nat.reduceEqDiff, Int.reduceToNat, eq_self, rulesT, bne_self_eq_false, mm_min, mm_max, buOf_some, nilCheck_vp, nilCheck_ptr, nilCheck_yld, nilCheck_func, Dev.r0, Dev.r1, Dev.r2, Dev.r3, Dev.r4, Dev.r5, Dev.r6, Dev.r7, *]
    | (refine allK_intro fun n hn => ?_; try simp only [fresh_set] at hn)
    | (refine ifK_intro (fun h => ?_) (fun h => ?_) <;> (try simp only [decide_eq_true_eq, decide_eq_false_iff_not, Bool.not_eq_true', Bool.not_eq_false'] at h) <;> try (exfalso; (try simp only [beq_iff_eq, beq_eq_false_iff_ne, bne_iff_ne, bne_eq_false_iff_eq, ne_eq] at h); omega))
    | (refine keeps_sub (Mem.sub_set (by simp [Mem.set_at, nomem, *])) ?_)
  refine loop_introG (fun j env m => ∃ (i n1 : Nat), i ≤ d.list.length ∧ j = d.list.length - i ∧ m = nomem.set n1 (.cells true 3 (((dirtyOf d.list).take i).map natC).flatten) ∧ env.length = 25 ∧ nth env 3 = .sl n1 0 i i ∧ nth env 12 = .vs (d.list.map Wr.cells) x ∧ nth env 13 = .val (.int .i64 d.list.length) ∧ nth env 14 = .val (.int .i64 i)) d.list.length ?_ ?_
  · refine Ghosts.nil 3 3 (Nat.le_of_ble_eq_true rfl) rfl fun n1 hn1 => .mk ?_
    exact ⟨0, n1, by omega, by omega, rfl, rfl, rfl, rfl, rfl, rfl⟩
  rintro j env m ⟨i, n1, hi, rfl, rfl, hlen, e3, e12, e13, e14⟩
  repeat' first
    | simp -dsimp (disch := omega) only [↓rulesA, rulesB, rulesC, Int.reduceLT, nth, upd, put, storeN, AV.one, Nat.reduceBEq, Nat.reduceBNe, Int.reduceBEq, Int.reduceBNe, Int.reduceLE, Int.reduceEq, Int.reduceMod, Int.reduceNeg, boolBin, strBin, intBin, unA, fillA, ne_eq, reduceCtorEq, Nat.reduceAdd, Nat.reduceSub, Nat.reduceLeDiff, Nat.reduceLT, Nat.reduceEqDiff, Int.reduceToNat, eq_self, rulesT, bne_self_eq_false, mm_min, mm_max, buOf_some, nilCheck_vp, nilCheck_ptr, nilCheck_yld, nilCheck_func, ix_52, Wr.build, Wr.len, Wr.zr, Wr.all, Wr.take, Wr.drop, Wr.g0, Wr.part1, Wr.put, Wr.rlen, Wr.rpart, Wr.rin, Wr.rat0, Wr.rset, Wr.rset1, Wr.rin1, *]
    | (refine allK_intro fun n hn => ?_; try simp only [fresh_set] at hn)
    | (refine ifK_intro (fun h => ?_) (fun h => ?_) <;> (try simp only [decide_eq_true_eq, decide_eq_false_iff_not, Bool.not_eq_true', Bool.not_eq_false'] at h) <;> try (exfalso; (try simp only [beq_iff_eq, beq_eq_false_iff_ne, bne_iff_ne, bne_eq_false_iff_eq, ne_eq] at h); omega))
    | (refine keeps_sub (Mem.sub_set (by simp [Mem.set_at, nomem, *])) ?_)
  · have e : (dirtyOf d.list).take i ++ [(d.list.getD i default).at_] = (dirtyOf d.list).take (i + 1) := by
      have := take_snoc (dirtyOf d.list) i (by unfold dirtyOf; simp; omega)
      rw [← this]; unfold dirtyOf; rw [getD_map _ _ _ (by omega)]
    have el : ((dirtyOf d.list).take i).length = i := by unfold dirtyOf; simp; omega
    refine lit_vs (lit1_39 _) rfl ?_
    repeat' first
      | simp -dsimp (disch := omega) only [↓rulesA, rulesB, rulesC, Int.reduceLT, nth, upd, put, storeN, AV.one, Nat.reduceBEq, Nat.reduceBNe, Int.reduceBEq, Int.reduceBNe, Int.reduceLE, Int.reduceEq, Int.reduceMod, Int.reduceNeg, boolBin, strBin, intBin, unA, fillA, ne_eq, reduceCtorEq, Nat.reduceAdd, Nat.reduceSub, Nat.reduceLeDiff, Nat.reduceLT, Nat.reduceEqDiff, Int.reduceToNat, eq_self, rulesT, bne_self_eq_false, mm_min, mm_max, buOf_some, nilCheck_vp, nilCheck_ptr, nilCheck_yld, nilCheck_func, *]
      | (refine allK_intro fun n hn => ?_; try simp only [fresh_set] at hn)
      | (refine ifK_intro (fun h => ?_) (fun h => ?_) <;> (try simp only [decide_eq_true_eq, decide_eq_false_iff_not, Bool.not_eq_true', Bool.not_eq_false'] at h) <;> try (exfalso; (try simp only [beq_iff_eq, beq_eq_false_iff_ne, bne_iff_ne, bne_eq_false_iff_eq, ne_eq] at h); omega))
      | (refine keeps_sub (Mem.sub_set (by simp [Mem.set_at, nomem, *])) ?_)
    refine append_open app_39 (k := 1) (src := [.val (.int .i64 (d.list.getD i default).at_)]) rfl ((Mem.set_ne _ _ hn.2.1).trans (Mem.set_same _ _ _)) cs_3 (by rw [natC_len, el]; simp) (by show (i + 1) * 8 ≤ _; omega) fun n2 hn2 => ?_
    repeat' first
      | simp -dsimp (disch := omega) only [↓rulesA, rulesB, rulesC, Int.reduceLT, nth, upd, put, storeN, AV.one, Nat.reduceBEq, Nat.reduceBNe, Int.reduceBEq, Int.reduceBNe, Int.reduceLE, Int.reduceEq, Int.reduceMod, Int.reduceNeg, boolBin, strBin, intBin, unA, fillA, ne_eq, reduceCtorEq, Nat.reduceAdd, Nat.reduceSub, Nat.reduceLeDiff, Nat.reduceLT, Nat.reduceEqDiff, Int.reduceToNat, eq_self, rulesT, bne_self_eq_false, mm_min, mm_max, buOf_some, nilCheck_vp, nilCheck_ptr, nilCheck_yld, nilCheck_func, *]
      | (refine allK_intro fun n hn => ?_; try simp only [fresh_set] at hn)
      | (refine ifK_intro (fun h => ?_) (fun h => ?_) <;> (try simp only [decide_eq_true_eq, decide_eq_false_iff_not, Bool.not_eq_true', Bool.not_eq_false'] at h) <;> try (exfalso; (try simp only [beq_iff_eq, beq_eq_false_iff_ne, bne_iff_ne, bne_eq_false_iff_eq, ne_eq] at h); omega))
      | (refine keeps_sub (Mem.sub_set (by simp [Mem.set_at, nomem, *])) ?_)
    rw [natC_snoc, e]
    refine again_intro (d.list.length - (i + 1)) (by omega) (nomem.set n2 (.cells true 3 (((dirtyOf d.list).take (i + 1)).map natC).flatten)) ?_ ⟨i + 1, n2, by omega, rfl, rfl, ?_, ?_, ?_, ?_, ?_⟩
    · refine nomem_set_sub ?_; simp [Mem.set_at, *]
    all_goals try (simp (disch := omega) only [nth_upd, pickB_true, pickB_false, inB_lt, upd_len, cast_succ, Nat.reduceBEq, beq_self_eq_true, reduceCtorEq, *]; done)
  · have : i = d.list.length := by omega
    subst this
    have e : (dirtyOf d.list).take d.list.length = dirtyOf d.list := List.take_of_length_le (by unfold dirtyOf; simp)
    rw [e]
    have := New.row natC (s := 1) (opn := true) (t := 3) (m := nomem.set n1 (.cells true 3 ((dirtyOf d.list).map natC).flatten)) (fun _ => rfl) (fun _ => rfl) (dirtyOf d.list) (n := n1) (cap := d.list.length) (Mem.set_same _ _ _)
    rwa [show (dirtyOf d.list).length = d.list.length by unfold dirtyOf; simp] at this

/-- The bytes of a row of sectors. -/
def imgL (l : List Sec) : List UInt8 := (l.map (·.l)).flatten
theorem imgL_len : ∀ (l : List Sec), (imgL l).length = l.length * 64
  | [] => rfl
  | s :: l => by
    have : imgL (s :: l) = s.l ++ imgL l := by simp [imgL]
    rw [this, List.length_append, s.h, imgL_len l, List.length_cons]; omega
theorem imgL_snoc (l : List Sec) (i : Nat) (h : i < l.length) : imgL (l.take (i + 1)) = imgL (l.take i) ++ (l.getD i default).l := by
  rw [← take_snoc l i h]; simp [imgL]
theorem img_cells (l : List UInt8) (s : Sec) : (l.map byteC).flatten ++ s.cells = ((l ++ s.l).map byteC).flatten := by simp [Sec.cells]
theorem src_sec {m : Mem} {n : Nat} {opn : Bool} {t : TypeId} {s : Sec} (hm : m n = some (.cells opn t s.cells)) : srcA Try.prog m 27 1 (.sl n 0 64 64) = some (64, s.cells) := by
  simp only [srcA, ti_27, hm, List.drop_zero, Nat.zero_add, Nat.mul_one, Sec.take, s.len, s.all]
  rfl
theorem F17 (d : Dev) (x y : Bool) (h : 1 ≤ d.laid.length) (hm : d.laid.length ≤ 4096) : F Try.prog 17 [.vp (d.rc x y) 0] (.vs ((imgL d.laid).map byteC) false) := by
  refine F17_of ?_
  unfold k17
  repeat' first
    | simp -dsimp (disch := omega) only [↓rulesA, rulesB, rulesC, Int.reduceLT, nth, upd, put, storeN, AV.one, Nat.reduceBEq, Nat.reduceBNe, Int.reduceBEq, Int.reduceBNe, Int.reduceLE, Int.reduceEq, Int.reduceMod, Int.reduceNeg, boolBin, strBin, intBin, unA, fillA, ne_eq, reduceCtorEq, Nat.reduceAdd, Nat.reduceSub, Nat.reduceLeDiff, Nat.reduceLT, Nat.reduceEqDiff, Int.reduceToNat, eq_self, rulesT, bne_self_eq_false, mm_min, mm_max, buOf_some, nilCheck_vp, nilCheck_ptr, nilCheck_yld, nilCheck_func, *]
    | (refine allK_intro fun n hn => ?_; try simp only [fresh_set] at hn)
    | (refine ifK_intro (fun h => ?_) (fun h => ?_) <;> (try simp only [decide_eq_true_eq, decide_eq_false_iff_not, Bool.not_eq_true', Bool.not_eq_false'] at h) <;> try (exfalso; (try simp only [beq_iff_eq, beq_eq_false_iff_ne, bne_iff_ne, bne_eq_false_iff_eq, ne_eq] at h); omega))
    | (refine keeps_sub (Mem.sub_set (by simp [Mem.set_at, nomem, *])) ?_)
  refine call_F (F28 d x y h) (Seens.refl _ _) ?_
  repeat' first
    | simp -dsimp (disch := omega) only [↓rulesA, rulesB, rulesC, Int.reduceLT, nth, upd, put, storeN, AV.one, Nat.reduceBEq, Nat.reduceBNe, Int.reduceBEq, Int.reduceBNe, Int.reduceLE, Int.reduceEq, Int.reduceMod, Int.reduceNeg, boolBin, strBin, intBin, unA, fillA, ne_eq, reduceCtorEq, Nat.reduceAdd, Nat.reduceSub, Nat.reduceLeDiff, Nat.reduceLT, Nat.reduceEqDiff, Int.reduceToNat, eq_self, rulesT, bne_self_eq_false, mm_min, mm_max, buOf_some, nilCheck_vp, nilCheck_ptr, nilCheck_yld, nilCheck_func, Dev.r0, Dev.r1, Dev.r2, Dev.r3, Dev.r4, Dev.r5, Dev.r6, Dev.r7, *]
    | (refine allK_intro fun n hn => ?_; try simp only [fresh_set] at hn)
    | (refine ifK_intro (fun h => ?_) (fun h => ?_) <;> (try simp only [decide_eq_true_eq, decide_eq_false_iff_not, Bool.not_eq_true', Bool.not_eq_false'] at h) <;> try (exfalso; (try simp only [beq_iff_eq, beq_eq_false_iff_ne, bne_iff_ne, bne_eq_false_iff_eq, ne_eq] at h); omega))
    | (refine keeps_sub (Mem.sub_set (by simp [Mem.set_at, nomem, *])) ?_)
  refine loop_introG (fun j env m => ∃ (i n1 : Nat), i ≤ d.laid.length ∧ j = d.laid.length - i ∧ m = nomem.set n1 (.cells true 5 ((imgL (d.laid.take i)).map byteC).flatten) ∧ env.length = 22 ∧ nth env 3 = .sl n1 0 (imgL (d.laid.take i)).length (imgL (d.laid.take i)).length ∧ nth env 11 = .vs (d.laid.map Sec.cells) y ∧ nth env 12 = .val (.int .i64 d.laid.length) ∧ nth env 13 = .val (.int .i64 i)) d.laid.length ?_ ?_
  · refine Ghosts.nil 3 5 (Nat.le_of_ble_eq_true rfl) rfl fun n1 hn1 => .mk ?_
    exact ⟨0, n1, by omega, by omega, rfl, rfl, rfl, rfl, rfl, rfl⟩
  rintro j env m ⟨i, n1, hi, rfl, rfl, hlen, e3, e11, e12, e13⟩
  repeat' first
    | simp -dsimp (disch := omega) only [↓rulesA, rulesB, rulesC, Int.reduceLT, nth, upd, put, storeN, AV.one, Nat.reduceBEq, Nat.reduceBNe, Int.reduceBEq, Int.reduceBNe, Int.reduceLE, Int.reduceEq, Int.reduceMod, Int.reduceNeg, boolBin, strBin, intBin, unA, fillA, ne_eq, reduceCtorEq, Nat.reduceAdd, Nat.reduceSub, Nat.reduceLeDiff, Nat.reduceLT, Nat.reduceEqDiff, Int.reduceToNat, eq_self, rulesT, bne_self_eq_false, mm_min, mm_max, buOf_some, nilCheck_vp, nilCheck_ptr, nilCheck_yld, nilCheck_func, ix_57, Sec.len, Sec.zr, Sec.zr', Sec.all, Sec.take, Sec.drop, Sec.put, Sec.rlen, Sec.rpart, Sec.rin, Sec.rset, *]
    | (refine allK_intro fun n hn => ?_; try simp only [fresh_set] at hn)
    | (refine ifK_intro (fun h => ?_) (fun h => ?_) <;> (try simp only [decide_eq_true_eq, decide_eq_false_iff_not, Bool.not_eq_true', Bool.not_eq_false'] at h) <;> try (exfalso; (try simp only [beq_iff_eq, beq_eq_false_iff_ne, bne_iff_ne, bne_eq_false_iff_eq, ne_eq] at h); omega))
    | (refine keeps_sub (Mem.sub_set (by simp [Mem.set_at, nomem, *])) ?_)
  · have e := imgL_snoc d.laid i (by omega)
    have el := imgL_len (d.laid.take i)
    have elt : (d.laid.take i).length = i := by simp; omega
    refine append_open app_27 (k := 64) (src := (d.laid.getD i default).cells) (src_sec (Mem.set_same _ _ _)) ((Mem.set_ne _ _ hn.2.1).trans (Mem.set_same _ _ _)) cs_5 (by rw [flatten_one]; simp) (by show ((imgL (d.laid.take i)).length + 64) * 1 ≤ _; omega) fun n2 hn2 => ?_
    repeat' first
      | simp -dsimp (disch := omega) only [↓rulesA, rulesB, rulesC, Int.reduceLT, nth, upd, put, storeN, AV.one, Nat.reduceBEq, Nat.reduceBNe, Int.reduceBEq, Int.reduceBNe, Int.reduceLE, Int.reduceEq, Int.reduceMod, Int.reduceNeg, boolBin, strBin, intBin, unA, fillA, ne_eq, reduceCtorEq, Nat.reduceAdd, Nat.reduceSub, Nat.reduceLeDiff, Nat.reduceLT, Nat.reduceEqDiff, Int.reduceToNat, eq_self, rulesT, bne_self_eq_false, mm_min, mm_max, buOf_some, nilCheck_vp, nilCheck_ptr, nilCheck_yld, nilCheck_func, *]
      | (refine allK_intro fun n hn => ?_; try simp only [fresh_set] at hn)
      | (refine ifK_intro (fun h => ?_) (fun h => ?_) <;> (try simp only [decide_eq_true_eq, decide_eq_false_iff_not, Bool.not_eq_true', Bool.not_eq_false'] at h) <;> try (exfalso; (try simp only [beq_iff_eq, beq_eq_false_iff_ne, bne_iff_ne, bne_eq_false_iff_eq, ne_eq] at h); omega))
      | (refine keeps_sub (Mem.sub_set (by simp [Mem.set_at, nomem, *])) ?_)
    rw [img_cells, ← e]
    have e2 := imgL_len (d.laid.take (i + 1))
    have elt2 : (d.laid.take (i + 1)).length = i + 1 := by simp; omega
    refine again_intro (d.laid.length - (i + 1)) (by omega) (nomem.set n2 (.cells true 5 ((imgL (d.laid.take (i + 1))).map byteC).flatten)) ?_ ⟨i + 1, n2, by omega, rfl, rfl, ?_, ?_, ?_, ?_, ?_⟩
    · refine nomem_set_sub ?_; simp [Mem.set_at, *]
    · simp only [upd_len]; exact hlen
    · have : i * 64 + 64 = (imgL (d.laid.take (i + 1))).length := by omega
      simp (disch := omega) only [nth_upd, pickB_true, pickB_false, inB_lt, upd_len, Nat.reduceBEq, beq_self_eq_true, this, hlen]
    all_goals try (simp (disch := omega) only [nth_upd, pickB_true, pickB_false, inB_lt, upd_len, cast_succ, Nat.reduceBEq, beq_self_eq_true, reduceCtorEq, *]; done)
  · have : i = d.laid.length := by omega
    subst this
    rw [List.take_length]
    exact New.row byteC (s := 1) (opn := true) (t := 5) byteC_len byteC_flat (imgL d.laid) (Mem.set_same _ _ _)
theorem new_sec {m : Mem} {n : Nat} {opn : Bool} {t : TypeId} (s : Sec) (hm : m n = some (.cells opn t s.cells)) : New m (.sl n 0 64 64) (.vs (s.l.map byteC) false) := by
  have := New.row byteC (s := 1) (cap := 64) byteC_len byteC_flat s.l hm
  rwa [s.h] at this
theorem seen_sec {m : Mem} {n : Nat} {opn : Bool} {t : TypeId} (s : Sec) (hm : m n = some (.cells opn t s.cells)) : Seen m (.sl n 0 64 64) (.vs (s.l.map byteC) false) := by
  have := Seen.row byteC (s := 1) (cap := 64) byteC_len s.l hm
  rwa [s.h] at this
/-- What is read. -/
def readS (d : Dev) (k : Nat) : Sec := if findN d.list k < d.list.length then (d.list.getD (findN d.list k) default).s else d.laid.getD k default
def readE (d : Dev) (k : Int) : Int := if d.dead then 22 else if k < 0 ∨ d.laid.length ≤ k then 20 else 0
theorem F24 (d : Dev) (x y : Bool) (h : 1 ≤ d.laid.length) (hm : d.laid.length ≤ 4096) (hl : d.list.length ≤ 4096) (k : Int) : F Try.prog 24 [.vp (d.rc x y) 0, .val (.int .i64 k)] (.tup [.vs (if readE d k = 0 then (readS d k.toNat).l.map byteC else []) false, .val (.int .i64 (readE d k))]) := by
  refine F24_of ?_
  unfold k24
  repeat' first
    | simp -dsimp (disch := omega) only [↓rulesA, rulesB, rulesC, Int.reduceLT, nth, upd, put, storeN, AV.one, Nat.reduceBEq, Nat.reduceBNe, Int.reduceBEq, Int.reduceBNe, Int.reduceLE, Int.reduceEq, Int.reduceMod, Int.reduceNeg, boolBin, strBin, intBin, unA, fillA, ne_eq, reduceCtorEq, Nat.reduceAdd, Nat.reduceSub, Nat.reduceLeDiff, Nat.reduceLT, Nat.reduceEqDiff, Int.reduceToNat, eq_self, rulesT, bne_self_eq_false, mm_min, mm_max, buOf_some, nilCheck_vp, nilCheck_ptr, nilCheck_yld, nilCheck_func, *]
    | (refine allK_intro fun n hn => ?_; try simp only [fresh_set] at hn)
    | (refine ifK_intro (fun h => ?_) (fun h => ?_) <;> (try simp only [decide_eq_true_eq, decide_eq_false_iff_not, Bool.not_eq_true', Bool.not_eq_false'] at h) <;> try (exfalso; (try simp only [beq_iff_eq, beq_eq_false_iff_ne, bne_iff_ne, bne_eq_false_iff_eq, ne_eq] at h); omega))
    | (refine keeps_sub (Mem.sub_set (by simp [Mem.set_at, nomem, *])) ?_)
  refine call_F (F12 d x y h) (Seens.refl _ _) ?_
  rcases hd : d.dead
  all_goals repeat' first
    | simp -dsimp (disch := omega) only [↓rulesA, rulesB, rulesC, Int.reduceLT, nth, upd, put, storeN, AV.one, Nat.reduceBEq, Nat.reduceBNe, Int.reduceBEq, Int.reduceBNe, Int.reduceLE, Int.reduceEq, Int.reduceMod, Int.reduceNeg, boolBin, strBin, intBin, unA, fillA, ne_eq, reduceCtorEq, Nat.reduceAdd, Nat.reduceSub, Nat.reduceLeDiff, Nat.reduceLT, Nat.reduceEqDiff, Int.reduceToNat, eq_self, rulesT, bne_self_eq_false, mm_min, mm_max, buOf_some, nilCheck_vp, nilCheck_ptr, nilCheck_yld, nilCheck_func, Dev.r0, Dev.r1, Dev.r2, Dev.r3, Dev.r4, Dev.r5, Dev.r6, Dev.r7, *]
    | (refine allK_intro fun n hn => ?_; try simp only [fresh_set] at hn)
    | (refine ifK_intro (fun h => ?_) (fun h => ?_) <;> (try simp only [decide_eq_true_eq, decide_eq_false_iff_not, Bool.not_eq_true', Bool.not_eq_false'] at h) <;> try (exfalso; (try simp only [beq_iff_eq, beq_eq_false_iff_ne, bne_iff_ne, bne_eq_false_iff_eq, ne_eq] at h); omega))
    | (refine keeps_sub (Mem.sub_set (by simp [Mem.set_at, nomem, *])) ?_)
  rotate_left 3
  · have e : readE d k = 22 := by unfold readE; rw [if_pos hd]
    rw [e, if_neg (by decide)]
    exact .two .nil .val
  · have e : readE d k = 20 := by unfold readE; rw [if_neg (by rw [hd]; decide), if_pos (by omega)]
    rw [e, if_neg (by decide)]
    exact .two .nil .val
  · have e : readE d k = 0 := by unfold readE; rw [if_neg (by rw [hd]; decide), if_neg (by omega)]
    rw [e, if_pos rfl]
    obtain ⟨q, rfl⟩ : ∃ q : Nat, k = q := ⟨k.toNat, by omega⟩
    have hq : q < d.laid.length := by omega
    have h41 := F41 d x y q (by omega)
    have hfn := findN_le d.list q
    repeat' first
      | simp -dsimp (disch := omega) only [↓rulesA, rulesB, rulesC, Int.reduceLT, nth, upd, put, storeN, AV.one, Nat.reduceBEq, Nat.reduceBNe, Int.reduceBEq, Int.reduceBNe, Int.reduceLE, Int.reduceEq, Int.reduceMod, Int.reduceNeg, boolBin, strBin, intBin, unA, fillA, ne_eq, reduceCtorEq, Nat.reduceAdd, Nat.reduceSub, Nat.reduceLeDiff, Nat.reduceLT, Nat.reduceEqDiff, Int.reduceToNat, eq_self, rulesT, bne_self_eq_false, mm_min, mm_max, buOf_some, nilCheck_vp, nilCheck_ptr, nilCheck_yld, nilCheck_func, ix_57, ix_52, Sec.len, Sec.zr, Sec.zr', Sec.all, Sec.take, Sec.drop, Sec.put, Sec.rlen, Sec.rpart, Sec.rin, Sec.rset, Wr.build, Wr.len, Wr.zr, Wr.all, Wr.take, Wr.drop, Wr.g0, Wr.part1, Wr.put, Wr.rlen, Wr.rpart, Wr.rin, Wr.rat0, Wr.rset, Wr.rset1, Wr.rin1, *]
      | (refine allK_intro fun n hn => ?_; try simp only [fresh_set] at hn)
      | (refine ifK_intro (fun h => ?_) (fun h => ?_) <;> (try simp only [decide_eq_true_eq, decide_eq_false_iff_not, Bool.not_eq_true', Bool.not_eq_false'] at h) <;> try (exfalso; (try simp only [beq_iff_eq, beq_eq_false_iff_ne, bne_iff_ne, bne_eq_false_iff_eq, ne_eq] at h); omega))
      | (refine keeps_sub (Mem.sub_set (by simp [Mem.set_at, nomem, *])) ?_)
      | (refine call_F (h41) (Seens.refl _ _) ?_)
      | (refine pure_F (h41) (Seens.refl _ _) ?_)
    · have hf : findN d.list q < d.list.length := by
        by_cases hf : findN d.list q < d.list.length
        · exact hf
        · unfold findI at *; rw [if_neg hf] at *; omega
      have e2 : findI d.list q = findN d.list q := by unfold findI; rw [if_pos hf]
      have e3 : readS d (q : Int).toNat = (d.list.getD (findN d.list q) default).s := by unfold readS; rw [Int.toNat_natCast, if_pos hf]
      rw [e3]
      repeat' first
        | simp -dsimp (disch := omega) only [↓rulesA, rulesB, rulesC, Int.reduceLT, nth, upd, put, storeN, AV.one, Nat.reduceBEq, Nat.reduceBNe, Int.reduceBEq, Int.reduceBNe, Int.reduceLE, Int.reduceEq, Int.reduceMod, Int.reduceNeg, boolBin, strBin, intBin, unA, fillA, ne_eq, reduceCtorEq, Nat.reduceAdd, Nat.reduceSub, Nat.reduceLeDiff, Nat.reduceLT, Nat.reduceEqDiff, Int.reduceToNat, eq_self, rulesT, bne_self_eq_false, mm_min, mm_max, buOf_some, nilCheck_vp, nilCheck_ptr, nilCheck_yld, nilCheck_func, ix_57, ix_52, Sec.len, Sec.zr, Sec.zr', Sec.all, Sec.take, Sec.drop, Sec.put, Sec.rlen, Sec.rpart, Sec.rin, Sec.rset, Wr.build, Wr.len, Wr.zr, Wr.all, Wr.take, Wr.drop, Wr.g0, Wr.part1, Wr.put, Wr.rlen, Wr.rpart, Wr.rin, Wr.rat0, Wr.rset, Wr.rset1, Wr.rin1, Dev.r0, Dev.r1, Dev.r2, Dev.r3, Dev.r4, Dev.r5, Dev.r6, Dev.r7, *]
        | (refine allK_intro fun n hn => ?_; try simp only [fresh_set] at hn)
        | (refine ifK_intro (fun h => ?_) (fun h => ?_) <;> (try simp only [decide_eq_true_eq, decide_eq_false_iff_not, Bool.not_eq_true', Bool.not_eq_false'] at h) <;> try (exfalso; (try simp only [beq_iff_eq, beq_eq_false_iff_ne, bne_iff_ne, bne_eq_false_iff_eq, ne_eq] at h); omega))
        | (refine keeps_sub (Mem.sub_set (by simp [Mem.set_at, nomem, *])) ?_)
      exact .two (new_sec _ (Mem.set_same _ _ _)) .val
    · have hf : ¬ findN d.list q < d.list.length := fun hf => by
        unfold findI at *; rw [if_pos hf] at *; omega
      have e3 : readS d q = d.laid.getD q default := by unfold readS; rw [if_neg hf]
      rw [e3]
      exact .two (new_sec _ (Mem.set_same _ _ _)) .val
  · have e : readE d k = 20 := by unfold readE; rw [if_neg (by rw [hd]; decide), if_pos (by omega)]
    rw [e, if_neg (by decide)]
    exact .two .nil .val
end Go.Proofs.Ytkfjjjjejdogbaa

