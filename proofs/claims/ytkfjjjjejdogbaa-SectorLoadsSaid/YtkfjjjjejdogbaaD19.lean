/- Package 05: one act at both; both held against each other. -/
import Derived.Test.YtkfjjjjejdogbaaD18
set_option maxRecDepth 100000
set_option maxHeartbeats 1000000
set_option linter.unusedSimpArgs false
set_option linter.unusedVariables false
namespace Go.Proofs.Ytkfjjjjejdogbaa
open Go.Abs
attribute [local irreducible] C X CC Y CV CW binK litK AppK PureC PureCV againK loopV rangeV allK ifK got onB condK V stepsK planK opK firstK seeE keepsK

theorem F38 (l : List Nat) (x y : Bool) (hl : l.length ≤ 140737488355328) : F Try.prog 38 [.vs (l.map natC) x, .vs (l.map natC) y] (.val (.bool true)) := by
  refine F38_of ?_
  unfold k38
  repeat' first
    | simp -dsimp (disch := omega) only [↓rulesA, rulesB, rulesC, Int.reduceLT, nth, upd, put, storeN, AV.one, Nat.reduceBEq, Nat.reduceBNe, Int.reduceBEq, Int.reduceBNe, Int.reduceLE, Int.reduceEq, Int.reduceMod, Int.reduceNeg, boolBin, strBin, intBin, unA, fillA, ne_eq, reduceCtorEq, Nat.reduceAdd, Nat.reduceSub, Nat.reduceLeDiff, Nat.reduceLT, Nat.reduceEqDiff, Int.reduceToNat, eq_self, rulesT, bne_self_eq_false, mm_min, mm_max, buOf_some, nilCheck_vp, nilCheck_ptr, nilCheck_yld, nilCheck_func, *]
    | (refine allK_intro fun n hn => ?_; try simp only [fresh_set] at hn)
    | (refine ifK_intro (fun h => ?_) (fun h => ?_) <;> (try simp only [decide_eq_true_eq, decide_eq_false_iff_not, Bool.not_eq_true', Bool.not_eq_false'] at h) <;> try (exfalso; (try simp only [beq_iff_eq, beq_eq_false_iff_ne, bne_iff_ne, bne_eq_false_iff_eq, ne_eq] at h); omega))
    | (refine keeps_sub (Mem.sub_set (by simp [Mem.set_at, nomem, *])) ?_)
  refine loop_intro (fun j env m => ∃ i : Nat, i ≤ l.length ∧ j = l.length - i ∧ m = nomem ∧ env.length = 26 ∧ nth env 0 = .vs (l.map natC) x ∧ nth env 1 = .vs (l.map natC) y ∧ nth env 12 = .val (.int .i64 l.length) ∧ nth env 13 = .val (.int .i64 i)) l.length _ (Mem.sub.refl _) ⟨0, by omega, by omega, rfl, rfl, rfl, rfl, rfl, rfl⟩ ?_
  rintro j env m ⟨i, hi, rfl, rfl, hlen, e0, e1, e12, e13⟩
  repeat' first
    | simp -dsimp (disch := omega) only [↓rulesA, rulesB, rulesC, Int.reduceLT, nth, upd, put, storeN, AV.one, Nat.reduceBEq, Nat.reduceBNe, Int.reduceBEq, Int.reduceBNe, Int.reduceLE, Int.reduceEq, Int.reduceMod, Int.reduceNeg, boolBin, strBin, intBin, unA, fillA, ne_eq, reduceCtorEq, Nat.reduceAdd, Nat.reduceSub, Nat.reduceLeDiff, Nat.reduceLT, Nat.reduceEqDiff, Int.reduceToNat, eq_self, rulesT, bne_self_eq_false, mm_min, mm_max, buOf_some, nilCheck_vp, nilCheck_ptr, nilCheck_yld, nilCheck_func, ix_39, nat_g0, *]
    | (refine allK_intro fun n hn => ?_; try simp only [fresh_set] at hn)
    | (refine ifK_intro (fun h => ?_) (fun h => ?_) <;> (try simp only [decide_eq_true_eq, decide_eq_false_iff_not, Bool.not_eq_true', Bool.not_eq_false'] at h) <;> try (exfalso; (try simp only [beq_iff_eq, beq_eq_false_iff_ne, bne_iff_ne, bne_eq_false_iff_eq, ne_eq] at h); omega))
    | (refine keeps_sub (Mem.sub_set (by simp [Mem.set_at, nomem, *])) ?_)
  · refine again_intro (l.length - (i + 1)) (by omega) _ (Mem.sub.refl _) ⟨i + 1, by omega, rfl, rfl, ?_, ?_, ?_, ?_, ?_⟩
    all_goals try (simp (disch := omega) only [nth_upd, pickB_true, pickB_false, inB_lt, upd_len, cast_succ, Nat.reduceBEq, beq_self_eq_true, reduceCtorEq, *]; done)
  · exact .val
theorem F23 (d : Dev) (hok : d.Ok) (pk : Int) : F Try.prog 23 [.vp (d.rc false false) 0, .vp (d.rr pk false false) 0] (.val (.bool true)) := by
  have hl := hok.list
  have hm := hok.most
  have hs := hok.some
  have hdl : (dirtyOf d.list).length ≤ 140737488355328 := by unfold dirtyOf; simp; omega
  refine F23_of ?_
  unfold k23
  repeat' first
    | simp -dsimp (disch := omega) only [↓rulesA, rulesB, rulesC, Int.reduceLT, nth, upd, put, storeN, AV.one, Nat.reduceBEq, Nat.reduceBNe, Int.reduceBEq, Int.reduceBNe, Int.reduceLE, Int.reduceEq, Int.reduceMod, Int.reduceNeg, boolBin, strBin, intBin, unA, fillA, ne_eq, reduceCtorEq, Nat.reduceAdd, Nat.reduceSub, Nat.reduceLeDiff, Nat.reduceLT, Nat.reduceEqDiff, Int.reduceToNat, eq_self, rulesT, bne_self_eq_false, mm_min, mm_max, buOf_some, nilCheck_vp, nilCheck_ptr, nilCheck_yld, nilCheck_func, *]
    | (refine allK_intro fun n hn => ?_; try simp only [fresh_set] at hn)
    | (refine ifK_intro (fun h => ?_) (fun h => ?_) <;> (try simp only [decide_eq_true_eq, decide_eq_false_iff_not, Bool.not_eq_true', Bool.not_eq_false'] at h) <;> try (exfalso; (try simp only [beq_iff_eq, beq_eq_false_iff_ne, bne_iff_ne, bne_eq_false_iff_eq, ne_eq] at h); omega))
    | (refine keeps_sub (Mem.sub_set (by simp [Mem.set_at, nomem, *])) ?_)
    | (refine call_F (F13 d false false hs) (Seens.refl _ _) ?_)
    | (refine pure_F (F13 d false false hs) (Seens.refl _ _) ?_)
    | (refine call_F (F35 d pk false false) (Seens.refl _ _) ?_)
    | (refine pure_F (F35 d pk false false) (Seens.refl _ _) ?_)
    | (refine call_F (F15 d false false hs) (Seens.refl _ _) ?_)
    | (refine pure_F (F15 d false false hs) (Seens.refl _ _) ?_)
    | (refine call_F (F36 d pk false false hm) (Seens.refl _ _) ?_)
    | (refine pure_F (F36 d pk false false hm) (Seens.refl _ _) ?_)
    | (refine call_F (F17 d false false hs hm) (Seens.refl _ _) ?_)
    | (refine pure_F (F17 d false false hs hm) (Seens.refl _ _) ?_)
    | (refine call_F (F37 d pk false false hm) (Seens.refl _ _) ?_)
    | (refine pure_F (F37 d pk false false hm) (Seens.refl _ _) ?_)
    | (refine call_F (F18 d false false hs hl) (Seens.refl _ _) ?_)
    | (refine pure_F (F18 d false false hs hl) (Seens.refl _ _) ?_)
    | (refine call_F (F39 d pk false false hl) (Seens.refl _ _) ?_)
    | (refine pure_F (F39 d pk false false hl) (Seens.refl _ _) ?_)
    | (refine call_F (F38 _ _ _ hdl) (Seens.refl _ _) ?_)
    | (refine pure_F (F38 _ _ _ hdl) (Seens.refl _ _) ?_)
    | (refine call_F (F12 d false false hs) (Seens.refl _ _) ?_)
    | (refine pure_F (F12 d false false hs) (Seens.refl _ _) ?_)
    | (refine call_F (F40 d pk false false) (Seens.refl _ _) ?_)
    | (refine pure_F (F40 d pk false false) (Seens.refl _ _) ?_)
  exact .val
/-- Both devices lie in m. -/
def Two (d : Dev) (N1 N2 : Nat) (m : Mem) : Prop := ∃ m1 m2, d.At N1 m1 ∧ d.RAt N2 m2 ∧ Apart m1 m2 ∧ m1.sub m ∧ m2.sub m
theorem Two.up {d : Dev} {N1 N2 : Nat} {m M : Mem} (h : Two d N1 N2 m) (hs : m.sub M) : Two d N1 N2 M := let ⟨m1, m2, a, b, c, e, f⟩ := h; ⟨m1, m2, a, b, c, e.trans hs, f.trans hs⟩
def doD (d : Dev) (a : Act) : Dev := if a.kind = 1 then d else if a.kind = 2 then writeD d a.n a.data else if a.kind = 3 then flushD d else if a.kind = 4 then loseD d a.pick else if a.kind = 5 then cutD d a.n a.pick else if a.kind = 6 then onD d else d
theorem if_map {p : Prop} [Decidable p] (l : List UInt8) : (if p then l.map byteC else []) = (if p then l else []).map byteC := by split <;> rfl
theorem C22 (d : Dev) (hok : d.Ok) (hw : d.w < 4611686018427387904) (hf : d.f < 4611686018427387904) (a : Act) (ha : a.ok) {N1 N2 : Nat} {m : Mem} (ht : Two d N1 N2 m) : C Try.prog 22 [.ptr N1 0, .ptr N2 0, .agg a.cells] m (fun r m' => r = .val (.bool true) ∧ Two (doD d a) N1 N2 m') := by
  have hl := hok.list
  have hm := hok.most
  have hso := hok.some
  obtain ⟨m1, m2, hat1, hat2, hap, hsub1, hsub2⟩ := ht
  have hal : a.data.length ≤ 140737488355328 := by have := ha.2.2.1; omega
  refine C.turn (C22_of ?_)
  unfold k22
  repeat' first
    | simp -dsimp (disch := omega) only [↓rulesA, rulesB, rulesC, Int.reduceLT, nth, upd, put, storeN, AV.one, Nat.reduceBEq, Nat.reduceBNe, Int.reduceBEq, Int.reduceBNe, Int.reduceLE, Int.reduceEq, Int.reduceMod, Int.reduceNeg, boolBin, strBin, intBin, unA, fillA, ne_eq, reduceCtorEq, Nat.reduceAdd, Nat.reduceSub, Nat.reduceLeDiff, Nat.reduceLT, Nat.reduceEqDiff, Int.reduceToNat, eq_self, rulesT, bne_self_eq_false, mm_min, mm_max, buOf_some, nilCheck_vp, nilCheck_ptr, nilCheck_yld, nilCheck_func, Act.len, Act.take, Act.all, Act.g0, Act.g1, Act.g2, Act.g3, *]
    | (refine allK_intro fun n hn => ?_; try simp only [fresh_set] at hn)
    | (refine ifK_intro (fun h => ?_) (fun h => ?_) <;> (try simp only [decide_eq_true_eq, decide_eq_false_iff_not, Bool.not_eq_true', Bool.not_eq_false'] at h) <;> try (exfalso; (try simp only [beq_iff_eq, beq_eq_false_iff_ne, bne_iff_ne, bne_eq_false_iff_eq, ne_eq] at h); omega))
    | (refine keeps_sub (Mem.sub_set (by simp [Mem.set_at, nomem, *])) ?_)
  all_goals
    have h1n : m1 n = none := Mem.sub_none hsub1 hn
    have h2n : m2 n = none := Mem.sub_none hsub2 hn
    have hs1 : m1.sub (m.set n (.cells false 48 a.cells)) := hsub1.trans (Mem.sub_set hn)
    have hs2 : m2.sub (m.set n (.cells false 48 a.cells)) := hsub2.trans (Mem.sub_set hn)
    have hbn : (m.set n (.cells false 48 a.cells)) n = some (.cells false 48 a.cells) := Mem.set_same _ _ _
  · have e : a.kind = 1 := eq_of_beq (by assumption)
    refine call_F (F24 d false false hso hm hl a.n) (.two (hat1.seen hs1 0) .same) ?_
    rw [if_map]
    repeat' first
      | simp -dsimp (disch := omega) only [↓rulesA, rulesB, rulesC, Int.reduceLT, nth, upd, put, storeN, AV.one, Nat.reduceBEq, Nat.reduceBNe, Int.reduceBEq, Int.reduceBNe, Int.reduceLE, Int.reduceEq, Int.reduceMod, Int.reduceNeg, boolBin, strBin, intBin, unA, fillA, ne_eq, reduceCtorEq, Nat.reduceAdd, Nat.reduceSub, Nat.reduceLeDiff, Nat.reduceLT, Nat.reduceEqDiff, Int.reduceToNat, eq_self, rulesT, bne_self_eq_false, mm_min, mm_max, buOf_some, nilCheck_vp, nilCheck_ptr, nilCheck_yld, nilCheck_func, Act.len, Act.take, Act.all, Act.g0, Act.g1, Act.g2, Act.g3, *]
      | (refine allK_intro fun n hn => ?_; try simp only [fresh_set] at hn)
      | (refine ifK_intro (fun h => ?_) (fun h => ?_) <;> (try simp only [decide_eq_true_eq, decide_eq_false_iff_not, Bool.not_eq_true', Bool.not_eq_false'] at h) <;> try (exfalso; (try simp only [beq_iff_eq, beq_eq_false_iff_ne, bne_iff_ne, bne_eq_false_iff_eq, ne_eq] at h); omega))
      | (refine keeps_sub (Mem.sub_set (by simp [Mem.set_at, nomem, *])) ?_)
    refine call_at (C29 d hm hl hat2 a.n) hs2 fun r m2' M2 ⟨hr, hm2⟩ hs2' hl2 => ?_
    subst hr
    subst hm2
    rw [if_map]
    obtain ⟨hs1', hap'⟩ := hl2.keep hs1 (Apart.symm hap)
    repeat' first
      | simp -dsimp (disch := omega) only [↓rulesA, rulesB, rulesC, Int.reduceLT, nth, upd, put, storeN, AV.one, Nat.reduceBEq, Nat.reduceBNe, Int.reduceBEq, Int.reduceBNe, Int.reduceLE, Int.reduceEq, Int.reduceMod, Int.reduceNeg, boolBin, strBin, intBin, unA, fillA, ne_eq, reduceCtorEq, Nat.reduceAdd, Nat.reduceSub, Nat.reduceLeDiff, Nat.reduceLT, Nat.reduceEqDiff, Int.reduceToNat, eq_self, rulesT, bne_self_eq_false, mm_min, mm_max, buOf_some, nilCheck_vp, nilCheck_ptr, nilCheck_yld, nilCheck_func, Act.len, Act.take, Act.all, Act.g0, Act.g1, Act.g2, Act.g3, *]
      | (refine allK_intro fun n hn => ?_; try simp only [fresh_set] at hn)
      | (refine ifK_intro (fun h => ?_) (fun h => ?_) <;> (try simp only [decide_eq_true_eq, decide_eq_false_iff_not, Bool.not_eq_true', Bool.not_eq_false'] at h) <;> try (exfalso; (try simp only [beq_iff_eq, beq_eq_false_iff_ne, bne_iff_ne, bne_eq_false_iff_eq, ne_eq] at h); omega))
      | (refine keeps_sub (Mem.sub_set (by simp [Mem.set_at, nomem, *])) ?_)
    refine Turns.id ⟨rfl, m1, m2', hat1.eq ?_, hat2.eq ?_, hap, hs1', hs2'⟩ <;> (unfold doD; simp [e])
  · have e : a.kind = 2 := eq_of_beq (by assumption)
    refine call_at (C10 d hok hat1 hw a.n a.data false hal) hs1 fun r m1' M1 ⟨hr, hat1'⟩ hs1' hl1 => ?_
    subst hr
    obtain ⟨hs2', hap'⟩ := hl1.keep hs2 hap
    have hb1 := hl1 n _ h1n hbn
    have hb1' : M1 n = some (.cells false 48 a.cells) := hb1.2
    clear hb1
    repeat' first
      | simp -dsimp (disch := omega) only [↓rulesA, rulesB, rulesC, Int.reduceLT, nth, upd, put, storeN, AV.one, Nat.reduceBEq, Nat.reduceBNe, Int.reduceBEq, Int.reduceBNe, Int.reduceLE, Int.reduceEq, Int.reduceMod, Int.reduceNeg, boolBin, strBin, intBin, unA, fillA, ne_eq, reduceCtorEq, Nat.reduceAdd, Nat.reduceSub, Nat.reduceLeDiff, Nat.reduceLT, Nat.reduceEqDiff, Int.reduceToNat, eq_self, rulesT, bne_self_eq_false, mm_min, mm_max, buOf_some, nilCheck_vp, nilCheck_ptr, nilCheck_yld, nilCheck_func, Act.len, Act.take, Act.all, Act.g0, Act.g1, Act.g2, Act.g3, *]
      | (refine allK_intro fun n hn => ?_; try simp only [fresh_set] at hn)
      | (refine ifK_intro (fun h => ?_) (fun h => ?_) <;> (try simp only [decide_eq_true_eq, decide_eq_false_iff_not, Bool.not_eq_true', Bool.not_eq_false'] at h) <;> try (exfalso; (try simp only [beq_iff_eq, beq_eq_false_iff_ne, bne_iff_ne, bne_eq_false_iff_eq, ne_eq] at h); omega))
      | (refine keeps_sub (Mem.sub_set (by simp [Mem.set_at, nomem, *])) ?_)
      | (refine keeps_stab (by repeat' first | exact stabK_nil _ _ | refine stabK_cons ?_ ?_ | (simp (disch := omega) only [quietA, Option.isSome_some, ↓rulesA, rulesB, rulesC, Int.reduceLT, nth, upd, put, storeN, AV.one, Nat.reduceBEq, Nat.reduceBNe, Int.reduceBEq, Int.reduceBNe, Int.reduceLE, Int.reduceEq, Int.reduceMod, Int.reduceNeg, boolBin, strBin, intBin, unA, fillA, ne_eq, reduceCtorEq, Nat.reduceAdd, Nat.reduceSub, Nat.reduceLeDiff, Nat.reduceLT, Nat.reduceEqDiff, Int.reduceToNat, eq_self, rulesT, bne_self_eq_false, mm_min, mm_max, buOf_some, nilCheck_vp, nilCheck_ptr, nilCheck_yld, nilCheck_func, Act.len, Act.take, Act.all, Act.g0, Act.g1, Act.g2, Act.g3, *]; done)) ?_)
    refine call_at (C30 d hok hat2 hw a.n a.data false hal) hs2' fun r m2' M2 ⟨hr, hat2'⟩ hs2'' hl2 => ?_
    subst hr
    obtain ⟨hs1'', hap''⟩ := hl2.keep hs1' (Apart.symm hap')
    repeat' first
      | simp -dsimp (disch := omega) only [↓rulesA, rulesB, rulesC, Int.reduceLT, nth, upd, put, storeN, AV.one, Nat.reduceBEq, Nat.reduceBNe, Int.reduceBEq, Int.reduceBNe, Int.reduceLE, Int.reduceEq, Int.reduceMod, Int.reduceNeg, boolBin, strBin, intBin, unA, fillA, ne_eq, reduceCtorEq, Nat.reduceAdd, Nat.reduceSub, Nat.reduceLeDiff, Nat.reduceLT, Nat.reduceEqDiff, Int.reduceToNat, eq_self, rulesT, bne_self_eq_false, mm_min, mm_max, buOf_some, nilCheck_vp, nilCheck_ptr, nilCheck_yld, nilCheck_func, Act.len, Act.take, Act.all, Act.g0, Act.g1, Act.g2, Act.g3, *]
      | (refine allK_intro fun n hn => ?_; try simp only [fresh_set] at hn)
      | (refine ifK_intro (fun h => ?_) (fun h => ?_) <;> (try simp only [decide_eq_true_eq, decide_eq_false_iff_not, Bool.not_eq_true', Bool.not_eq_false'] at h) <;> try (exfalso; (try simp only [beq_iff_eq, beq_eq_false_iff_ne, bne_iff_ne, bne_eq_false_iff_eq, ne_eq] at h); omega))
      | (refine keeps_sub (Mem.sub_set (by simp [Mem.set_at, nomem, *])) ?_)
    refine Turns.id ⟨rfl, m1', m2', hat1'.eq ?_, hat2'.eq ?_, Apart.symm hap'', hs1'', hs2''⟩ <;> (unfold doD; simp [e])
  · have e : a.kind = 3 := eq_of_beq (by assumption)
    refine call_at (C16 d hok hat1 hf) hs1 fun r m1' M1 ⟨hr, hat1'⟩ hs1' hl1 => ?_
    subst hr
    obtain ⟨hs2', hap'⟩ := hl1.keep hs2 hap
    have hb1 := hl1 n _ h1n hbn
    have hb1' : M1 n = some (.cells false 48 a.cells) := hb1.2
    clear hb1
    repeat' first
      | simp -dsimp (disch := omega) only [↓rulesA, rulesB, rulesC, Int.reduceLT, nth, upd, put, storeN, AV.one, Nat.reduceBEq, Nat.reduceBNe, Int.reduceBEq, Int.reduceBNe, Int.reduceLE, Int.reduceEq, Int.reduceMod, Int.reduceNeg, boolBin, strBin, intBin, unA, fillA, ne_eq, reduceCtorEq, Nat.reduceAdd, Nat.reduceSub, Nat.reduceLeDiff, Nat.reduceLT, Nat.reduceEqDiff, Int.reduceToNat, eq_self, rulesT, bne_self_eq_false, mm_min, mm_max, buOf_some, nilCheck_vp, nilCheck_ptr, nilCheck_yld, nilCheck_func, Act.len, Act.take, Act.all, Act.g0, Act.g1, Act.g2, Act.g3, *]
      | (refine allK_intro fun n hn => ?_; try simp only [fresh_set] at hn)
      | (refine ifK_intro (fun h => ?_) (fun h => ?_) <;> (try simp only [decide_eq_true_eq, decide_eq_false_iff_not, Bool.not_eq_true', Bool.not_eq_false'] at h) <;> try (exfalso; (try simp only [beq_iff_eq, beq_eq_false_iff_ne, bne_iff_ne, bne_eq_false_iff_eq, ne_eq] at h); omega))
      | (refine keeps_sub (Mem.sub_set (by simp [Mem.set_at, nomem, *])) ?_)
      | (refine keeps_stab (by repeat' first | exact stabK_nil _ _ | refine stabK_cons ?_ ?_ | (simp (disch := omega) only [quietA, Option.isSome_some, ↓rulesA, rulesB, rulesC, Int.reduceLT, nth, upd, put, storeN, AV.one, Nat.reduceBEq, Nat.reduceBNe, Int.reduceBEq, Int.reduceBNe, Int.reduceLE, Int.reduceEq, Int.reduceMod, Int.reduceNeg, boolBin, strBin, intBin, unA, fillA, ne_eq, reduceCtorEq, Nat.reduceAdd, Nat.reduceSub, Nat.reduceLeDiff, Nat.reduceLT, Nat.reduceEqDiff, Int.reduceToNat, eq_self, rulesT, bne_self_eq_false, mm_min, mm_max, buOf_some, nilCheck_vp, nilCheck_ptr, nilCheck_yld, nilCheck_func, Act.len, Act.take, Act.all, Act.g0, Act.g1, Act.g2, Act.g3, *]; done)) ?_)
    refine call_at (C31 d hok hat2 hf) hs2' fun r m2' M2 ⟨hr, hat2'⟩ hs2'' hl2 => ?_
    subst hr
    obtain ⟨hs1'', hap''⟩ := hl2.keep hs1' (Apart.symm hap')
    repeat' first
      | simp -dsimp (disch := omega) only [↓rulesA, rulesB, rulesC, Int.reduceLT, nth, upd, put, storeN, AV.one, Nat.reduceBEq, Nat.reduceBNe, Int.reduceBEq, Int.reduceBNe, Int.reduceLE, Int.reduceEq, Int.reduceMod, Int.reduceNeg, boolBin, strBin, intBin, unA, fillA, ne_eq, reduceCtorEq, Nat.reduceAdd, Nat.reduceSub, Nat.reduceLeDiff, Nat.reduceLT, Nat.reduceEqDiff, Int.reduceToNat, eq_self, rulesT, bne_self_eq_false, mm_min, mm_max, buOf_some, nilCheck_vp, nilCheck_ptr, nilCheck_yld, nilCheck_func, Act.len, Act.take, Act.all, Act.g0, Act.g1, Act.g2, Act.g3, *]
      | (refine allK_intro fun n hn => ?_; try simp only [fresh_set] at hn)
      | (refine ifK_intro (fun h => ?_) (fun h => ?_) <;> (try simp only [decide_eq_true_eq, decide_eq_false_iff_not, Bool.not_eq_true', Bool.not_eq_false'] at h) <;> try (exfalso; (try simp only [beq_iff_eq, beq_eq_false_iff_ne, bne_iff_ne, bne_eq_false_iff_eq, ne_eq] at h); omega))
      | (refine keeps_sub (Mem.sub_set (by simp [Mem.set_at, nomem, *])) ?_)
    refine Turns.id ⟨rfl, m1', m2', hat1'.eq ?_, hat2'.eq ?_, Apart.symm hap'', hs1'', hs2''⟩ <;> (unfold doD; simp [e])
  · have e : a.kind = 4 := eq_of_beq (by assumption)
    refine call_at (C19 d hok hat1 a.pick) hs1 fun r m1' M1 ⟨hr, hat1'⟩ hs1' hl1 => ?_
    subst hr
    obtain ⟨hs2', hap'⟩ := hl1.keep hs2 hap
    have hb1 := hl1 n _ h1n hbn
    have hb1' : M1 n = some (.cells false 48 a.cells) := hb1.2
    clear hb1
    repeat' first
      | simp -dsimp (disch := omega) only [↓rulesA, rulesB, rulesC, Int.reduceLT, nth, upd, put, storeN, AV.one, Nat.reduceBEq, Nat.reduceBNe, Int.reduceBEq, Int.reduceBNe, Int.reduceLE, Int.reduceEq, Int.reduceMod, Int.reduceNeg, boolBin, strBin, intBin, unA, fillA, ne_eq, reduceCtorEq, Nat.reduceAdd, Nat.reduceSub, Nat.reduceLeDiff, Nat.reduceLT, Nat.reduceEqDiff, Int.reduceToNat, eq_self, rulesT, bne_self_eq_false, mm_min, mm_max, buOf_some, nilCheck_vp, nilCheck_ptr, nilCheck_yld, nilCheck_func, Act.len, Act.take, Act.all, Act.g0, Act.g1, Act.g2, Act.g3, *]
      | (refine allK_intro fun n hn => ?_; try simp only [fresh_set] at hn)
      | (refine ifK_intro (fun h => ?_) (fun h => ?_) <;> (try simp only [decide_eq_true_eq, decide_eq_false_iff_not, Bool.not_eq_true', Bool.not_eq_false'] at h) <;> try (exfalso; (try simp only [beq_iff_eq, beq_eq_false_iff_ne, bne_iff_ne, bne_eq_false_iff_eq, ne_eq] at h); omega))
      | (refine keeps_sub (Mem.sub_set (by simp [Mem.set_at, nomem, *])) ?_)
      | (refine keeps_stab (by repeat' first | exact stabK_nil _ _ | refine stabK_cons ?_ ?_ | (simp (disch := omega) only [quietA, Option.isSome_some, ↓rulesA, rulesB, rulesC, Int.reduceLT, nth, upd, put, storeN, AV.one, Nat.reduceBEq, Nat.reduceBNe, Int.reduceBEq, Int.reduceBNe, Int.reduceLE, Int.reduceEq, Int.reduceMod, Int.reduceNeg, boolBin, strBin, intBin, unA, fillA, ne_eq, reduceCtorEq, Nat.reduceAdd, Nat.reduceSub, Nat.reduceLeDiff, Nat.reduceLT, Nat.reduceEqDiff, Int.reduceToNat, eq_self, rulesT, bne_self_eq_false, mm_min, mm_max, buOf_some, nilCheck_vp, nilCheck_ptr, nilCheck_yld, nilCheck_func, Act.len, Act.take, Act.all, Act.g0, Act.g1, Act.g2, Act.g3, *]; done)) ?_)
    refine call_at (C32 d hok hat2 a.pick) hs2' fun r m2' M2 ⟨hr, hat2'⟩ hs2'' hl2 => ?_
    subst hr
    obtain ⟨hs1'', hap''⟩ := hl2.keep hs1' (Apart.symm hap')
    repeat' first
      | simp -dsimp (disch := omega) only [↓rulesA, rulesB, rulesC, Int.reduceLT, nth, upd, put, storeN, AV.one, Nat.reduceBEq, Nat.reduceBNe, Int.reduceBEq, Int.reduceBNe, Int.reduceLE, Int.reduceEq, Int.reduceMod, Int.reduceNeg, boolBin, strBin, intBin, unA, fillA, ne_eq, reduceCtorEq, Nat.reduceAdd, Nat.reduceSub, Nat.reduceLeDiff, Nat.reduceLT, Nat.reduceEqDiff, Int.reduceToNat, eq_self, rulesT, bne_self_eq_false, mm_min, mm_max, buOf_some, nilCheck_vp, nilCheck_ptr, nilCheck_yld, nilCheck_func, Act.len, Act.take, Act.all, Act.g0, Act.g1, Act.g2, Act.g3, *]
      | (refine allK_intro fun n hn => ?_; try simp only [fresh_set] at hn)
      | (refine ifK_intro (fun h => ?_) (fun h => ?_) <;> (try simp only [decide_eq_true_eq, decide_eq_false_iff_not, Bool.not_eq_true', Bool.not_eq_false'] at h) <;> try (exfalso; (try simp only [beq_iff_eq, beq_eq_false_iff_ne, bne_iff_ne, bne_eq_false_iff_eq, ne_eq] at h); omega))
      | (refine keeps_sub (Mem.sub_set (by simp [Mem.set_at, nomem, *])) ?_)
    refine Turns.id ⟨rfl, m1', m2', hat1'.eq ?_, hat2'.eq ?_, Apart.symm hap'', hs1'', hs2''⟩ <;> (unfold doD; simp [e])
  · have e : a.kind = 5 := eq_of_beq (by assumption)
    refine call_at (C9 d hso hat1 a.n a.pick) hs1 fun r m1' M1 ⟨hr, hat1'⟩ hs1' hl1 => ?_
    subst hr
    obtain ⟨hs2', hap'⟩ := hl1.keep hs2 hap
    have hb1 := hl1 n _ h1n hbn
    have hb1' : M1 n = some (.cells false 48 a.cells) := hb1.2
    clear hb1
    repeat' first
      | simp -dsimp (disch := omega) only [↓rulesA, rulesB, rulesC, Int.reduceLT, nth, upd, put, storeN, AV.one, Nat.reduceBEq, Nat.reduceBNe, Int.reduceBEq, Int.reduceBNe, Int.reduceLE, Int.reduceEq, Int.reduceMod, Int.reduceNeg, boolBin, strBin, intBin, unA, fillA, ne_eq, reduceCtorEq, Nat.reduceAdd, Nat.reduceSub, Nat.reduceLeDiff, Nat.reduceLT, Nat.reduceEqDiff, Int.reduceToNat, eq_self, rulesT, bne_self_eq_false, mm_min, mm_max, buOf_some, nilCheck_vp, nilCheck_ptr, nilCheck_yld, nilCheck_func, Act.len, Act.take, Act.all, Act.g0, Act.g1, Act.g2, Act.g3, *]
      | (refine allK_intro fun n hn => ?_; try simp only [fresh_set] at hn)
      | (refine ifK_intro (fun h => ?_) (fun h => ?_) <;> (try simp only [decide_eq_true_eq, decide_eq_false_iff_not, Bool.not_eq_true', Bool.not_eq_false'] at h) <;> try (exfalso; (try simp only [beq_iff_eq, beq_eq_false_iff_ne, bne_iff_ne, bne_eq_false_iff_eq, ne_eq] at h); omega))
      | (refine keeps_sub (Mem.sub_set (by simp [Mem.set_at, nomem, *])) ?_)
      | (refine keeps_stab (by repeat' first | exact stabK_nil _ _ | refine stabK_cons ?_ ?_ | (simp (disch := omega) only [quietA, Option.isSome_some, ↓rulesA, rulesB, rulesC, Int.reduceLT, nth, upd, put, storeN, AV.one, Nat.reduceBEq, Nat.reduceBNe, Int.reduceBEq, Int.reduceBNe, Int.reduceLE, Int.reduceEq, Int.reduceMod, Int.reduceNeg, boolBin, strBin, intBin, unA, fillA, ne_eq, reduceCtorEq, Nat.reduceAdd, Nat.reduceSub, Nat.reduceLeDiff, Nat.reduceLT, Nat.reduceEqDiff, Int.reduceToNat, eq_self, rulesT, bne_self_eq_false, mm_min, mm_max, buOf_some, nilCheck_vp, nilCheck_ptr, nilCheck_yld, nilCheck_func, Act.len, Act.take, Act.all, Act.g0, Act.g1, Act.g2, Act.g3, *]; done)) ?_)
    refine call_at (C33 d hat2 a.n a.pick) hs2' fun r m2' M2 ⟨hr, hat2'⟩ hs2'' hl2 => ?_
    subst hr
    obtain ⟨hs1'', hap''⟩ := hl2.keep hs1' (Apart.symm hap')
    repeat' first
      | simp -dsimp (disch := omega) only [↓rulesA, rulesB, rulesC, Int.reduceLT, nth, upd, put, storeN, AV.one, Nat.reduceBEq, Nat.reduceBNe, Int.reduceBEq, Int.reduceBNe, Int.reduceLE, Int.reduceEq, Int.reduceMod, Int.reduceNeg, boolBin, strBin, intBin, unA, fillA, ne_eq, reduceCtorEq, Nat.reduceAdd, Nat.reduceSub, Nat.reduceLeDiff, Nat.reduceLT, Nat.reduceEqDiff, Int.reduceToNat, eq_self, rulesT, bne_self_eq_false, mm_min, mm_max, buOf_some, nilCheck_vp, nilCheck_ptr, nilCheck_yld, nilCheck_func, Act.len, Act.take, Act.all, Act.g0, Act.g1, Act.g2, Act.g3, *]
      | (refine allK_intro fun n hn => ?_; try simp only [fresh_set] at hn)
      | (refine ifK_intro (fun h => ?_) (fun h => ?_) <;> (try simp only [decide_eq_true_eq, decide_eq_false_iff_not, Bool.not_eq_true', Bool.not_eq_false'] at h) <;> try (exfalso; (try simp only [beq_iff_eq, beq_eq_false_iff_ne, bne_iff_ne, bne_eq_false_iff_eq, ne_eq] at h); omega))
      | (refine keeps_sub (Mem.sub_set (by simp [Mem.set_at, nomem, *])) ?_)
    refine Turns.id ⟨rfl, m1', m2', hat1'.eq ?_, hat2'.eq ?_, Apart.symm hap'', hs1'', hs2''⟩ <;> (unfold doD; simp [e])
  · have e : a.kind = 6 := eq_of_beq (by assumption)
    refine call_at (C20 d hso hat1) hs1 fun r m1' M1 ⟨hr, hat1'⟩ hs1' hl1 => ?_
    subst hr
    obtain ⟨hs2', hap'⟩ := hl1.keep hs2 hap
    have hb1 := hl1 n _ h1n hbn
    have hb1' : M1 n = some (.cells false 48 a.cells) := hb1.2
    clear hb1
    repeat' first
      | simp -dsimp (disch := omega) only [↓rulesA, rulesB, rulesC, Int.reduceLT, nth, upd, put, storeN, AV.one, Nat.reduceBEq, Nat.reduceBNe, Int.reduceBEq, Int.reduceBNe, Int.reduceLE, Int.reduceEq, Int.reduceMod, Int.reduceNeg, boolBin, strBin, intBin, unA, fillA, ne_eq, reduceCtorEq, Nat.reduceAdd, Nat.reduceSub, Nat.reduceLeDiff, Nat.reduceLT, Nat.reduceEqDiff, Int.reduceToNat, eq_self, rulesT, bne_self_eq_false, mm_min, mm_max, buOf_some, nilCheck_vp, nilCheck_ptr, nilCheck_yld, nilCheck_func, Act.len, Act.take, Act.all, Act.g0, Act.g1, Act.g2, Act.g3, *]
      | (refine allK_intro fun n hn => ?_; try simp only [fresh_set] at hn)
      | (refine ifK_intro (fun h => ?_) (fun h => ?_) <;> (try simp only [decide_eq_true_eq, decide_eq_false_iff_not, Bool.not_eq_true', Bool.not_eq_false'] at h) <;> try (exfalso; (try simp only [beq_iff_eq, beq_eq_false_iff_ne, bne_iff_ne, bne_eq_false_iff_eq, ne_eq] at h); omega))
      | (refine keeps_sub (Mem.sub_set (by simp [Mem.set_at, nomem, *])) ?_)
      | (refine keeps_stab (by repeat' first | exact stabK_nil _ _ | refine stabK_cons ?_ ?_ | (simp (disch := omega) only [quietA, Option.isSome_some, ↓rulesA, rulesB, rulesC, Int.reduceLT, nth, upd, put, storeN, AV.one, Nat.reduceBEq, Nat.reduceBNe, Int.reduceBEq, Int.reduceBNe, Int.reduceLE, Int.reduceEq, Int.reduceMod, Int.reduceNeg, boolBin, strBin, intBin, unA, fillA, ne_eq, reduceCtorEq, Nat.reduceAdd, Nat.reduceSub, Nat.reduceLeDiff, Nat.reduceLT, Nat.reduceEqDiff, Int.reduceToNat, eq_self, rulesT, bne_self_eq_false, mm_min, mm_max, buOf_some, nilCheck_vp, nilCheck_ptr, nilCheck_yld, nilCheck_func, Act.len, Act.take, Act.all, Act.g0, Act.g1, Act.g2, Act.g3, *]; done)) ?_)
    refine call_at (C34 d hat2) hs2' fun r m2' M2 ⟨hr, hat2'⟩ hs2'' hl2 => ?_
    subst hr
    obtain ⟨hs1'', hap''⟩ := hl2.keep hs1' (Apart.symm hap')
    repeat' first
      | simp -dsimp (disch := omega) only [↓rulesA, rulesB, rulesC, Int.reduceLT, nth, upd, put, storeN, AV.one, Nat.reduceBEq, Nat.reduceBNe, Int.reduceBEq, Int.reduceBNe, Int.reduceLE, Int.reduceEq, Int.reduceMod, Int.reduceNeg, boolBin, strBin, intBin, unA, fillA, ne_eq, reduceCtorEq, Nat.reduceAdd, Nat.reduceSub, Nat.reduceLeDiff, Nat.reduceLT, Nat.reduceEqDiff, Int.reduceToNat, eq_self, rulesT, bne_self_eq_false, mm_min, mm_max, buOf_some, nilCheck_vp, nilCheck_ptr, nilCheck_yld, nilCheck_func, Act.len, Act.take, Act.all, Act.g0, Act.g1, Act.g2, Act.g3, *]
      | (refine allK_intro fun n hn => ?_; try simp only [fresh_set] at hn)
      | (refine ifK_intro (fun h => ?_) (fun h => ?_) <;> (try simp only [decide_eq_true_eq, decide_eq_false_iff_not, Bool.not_eq_true', Bool.not_eq_false'] at h) <;> try (exfalso; (try simp only [beq_iff_eq, beq_eq_false_iff_ne, bne_iff_ne, bne_eq_false_iff_eq, ne_eq] at h); omega))
      | (refine keeps_sub (Mem.sub_set (by simp [Mem.set_at, nomem, *])) ?_)
    refine Turns.id ⟨rfl, m1', m2', hat1'.eq ?_, hat2'.eq ?_, Apart.symm hap'', hs1'', hs2''⟩ <;> (unfold doD; simp [e])
  · refine Turns.id ⟨rfl, m1, m2, hat1.eq ?_, hat2.eq ?_, hap, hs1, hs2⟩ <;>
      (unfold doD; rw [if_neg (ne_of_beq_false (by assumption)), if_neg (ne_of_beq_false (by assumption)), if_neg (ne_of_beq_false (by assumption)), if_neg (ne_of_beq_false (by assumption)), if_neg (ne_of_beq_false (by assumption)), if_neg (ne_of_beq_false (by assumption))])
end Go.Proofs.Ytkfjjjjejdogbaa

