/- The texts D4 D5 D6 D7 D8 D9 D10 D11 D12 D13 D14 D15 D16 D17 D18 D19: what is proved on the way to the law. No conditions but those each theorem states. -/
import Derived.Test.YtanfgfclpjmngaaM3
import Derived.Shelf.Strings.Repeat
import Derived.Shelf.Small.Strs
set_option maxRecDepth 100000
set_option maxHeartbeats 1000000
set_option linter.unusedSimpArgs false
set_option linter.unusedVariables false
namespace Go.Proofs.Ytanfgfclpjmngaa
open Go.Abs
attribute [local irreducible] C X CC Y CV CW binK litK AppK PureC PureCV againK loopV rangeV allK ifK got onB condK V stepsK planK opK firstK seeE keepsK
def l105_ren : Go.Shelf.Ren := ⟨(fun | 105 => 63 | 212 => 66 | 99 => 67 | 165 => 68 | 166 => 69 | 170 => 70 | 169 => 71 | 263 => 72 | 264 => 73 | 206 => 74 | 240 => 75 | 241 => 76 | 276 => 77 | 277 => 78 | n => n), (fun | 9 => 9 | 3 => 3 | 4 => 4 | 20 => 20 | 0 => 0 | 46 => 74 | 109 => 77 | 5 => 5 | 72 => 82 | 76 => 86 | 51 => 90 | 146 => 91 | 53 => 93 | 148 => 94 | 70 => 80 | 37 => 67 | 75 => 85 | 127 => 96 | 164 => 97 | 80 => 89 | n => n), (fun n => n)⟩
theorem l105 : Lays.n105 Try.prog l105_ren := { mixed := by kernel_rfl, f99 := Try.func67.trans (congrArg some (by kernel_rfl)), f105 := Try.func63.trans (congrArg some (by kernel_rfl)), f165 := Try.func68.trans (congrArg some (by kernel_rfl)), f166 := Try.func69.trans (congrArg some (by kernel_rfl)), f169 := Try.func71.trans (congrArg some (by kernel_rfl)), f170 := Try.func70.trans (congrArg some (by kernel_rfl)), f206 := Try.func74.trans (congrArg some (by kernel_rfl)), f212 := Try.func66.trans (congrArg some (by kernel_rfl)), f240 := Try.func75.trans (congrArg some (by kernel_rfl)), f241 := Try.func76.trans (congrArg some (by kernel_rfl)), f263 := Try.func72.trans (congrArg some (by kernel_rfl)), f264 := Try.func73.trans (congrArg some (by kernel_rfl)), f276 := Try.func77.trans (congrArg some (by kernel_rfl)), f277 := Try.func78.trans (congrArg some (by kernel_rfl)), t0 := Try.underlying0, a0 := Try.isAgg0, z0 := Try.sizeOf0, v0 := Try.zeroValue0, t3 := Try.underlying3, a3 := Try.isAgg3, z3 := Try.sizeOf3, v3 := Try.zeroValue3, t4 := Try.underlying4, a4 := Try.isAgg4, z4 := Try.sizeOf4, v4 := Try.zeroValue4, t5 := Try.underlying5, a5 := Try.isAgg5, z5 := Try.sizeOf5, v5 := Try.zeroValue5, t9 := Try.underlying9, a9 := Try.isAgg9, z9 := Try.sizeOf9, v9 := Try.zeroValue9, t20 := Try.underlying20, a20 := Try.isAgg20, z20 := Try.sizeOf20, v20 := Try.zeroValue20, t37 := Try.underlying67, a37 := Try.isAgg67, z37 := Try.sizeOf67, v37 := Try.zeroValue67, t46 := Try.underlying74, a46 := Try.isAgg74, z46 := Try.sizeOf74, v46 := Try.zeroValue74, t51 := Try.underlying90, a51 := Try.isAgg90, z51 := Try.sizeOf90, v51 := Try.zeroValue90, t53 := Try.underlying93, a53 := Try.isAgg93, z53 := Try.sizeOf93, v53 := Try.zeroValue93, t70 := Try.underlying80, a70 := Try.isAgg80, z70 := Try.sizeOf80, v70 := Try.zeroValue80, t72 := Try.underlying82, a72 := Try.isAgg82, z72 := Try.sizeOf82, v72 := Try.zeroValue82, t75 := Try.underlying85, a75 := Try.isAgg85, z75 := Try.sizeOf85, v75 := Try.zeroValue85, t76 := Try.underlying86, a76 := Try.isAgg86, z76 := Try.sizeOf86, v76 := Try.zeroValue86, t109 := Try.underlying77, a109 := Try.isAgg77, z109 := Try.sizeOf77, v109 := Try.zeroValue77, t127 := Try.underlying96, a127 := Try.isAgg96, z127 := Try.sizeOf96, v127 := Try.zeroValue96, t146 := Try.underlying91, a146 := Try.isAgg91, z146 := Try.sizeOf91, v146 := Try.zeroValue91, t148 := Try.underlying94, a148 := Try.isAgg94, z148 := Try.sizeOf94, v148 := Try.zeroValue94, t164 := Try.underlying97, a164 := Try.isAgg97, z164 := Try.sizeOf97, v164 := Try.zeroValue97 }
def l106_ren : Go.Shelf.Ren := ⟨(fun | 106 => 54 | 213 => 61 | 265 => 64 | n => n), (fun | 9 => 9 | 3 => 3 | n => n), (fun n => n)⟩
theorem l106 : Lays.n106 Try.prog l106_ren := { mixed := by kernel_rfl, f106 := Try.func54.trans (congrArg some (by kernel_rfl)), f213 := Try.func61.trans (congrArg some (by kernel_rfl)), f265 := Try.func64.trans (congrArg some (by kernel_rfl)), t3 := Try.underlying3, a3 := Try.isAgg3, z3 := Try.sizeOf3, v3 := Try.zeroValue3, t9 := Try.underlying9, a9 := Try.isAgg9, z9 := Try.sizeOf9, v9 := Try.zeroValue9 }
theorem extra : Builder.Extra Try.prog l105_ren := { sizeBuilder := by kernel_rfl, liesBuilder := by kernel_rfl, t5 := Try.underlying5, a5 := Try.isAgg5, z5 := Try.sizeOf5, v5 := Try.zeroValue5, infoByte := by kernel_rfl, cellsByte := by kernel_rfl, sizeByte := by kernel_rfl, neB5 := by decide }
theorem F63 (l : List UInt8) (c : Nat) (hc : l.length * c ≤ 1000000) (hc' : c ≤ 1000000) : F Try.prog 63 [.val (.string ⟨l.toArray⟩), .val (.int .i64 c)] (.val (.string ⟨(Lib.repeatL l c).toArray⟩)) :=
  F.of_calls Try.func63 (by kernel_rfl) (by kernel_rfl) rfl fun w => Any.strings_Repeat l105 extra ⟨l.toArray⟩ c w (by omega) (by rw [text_size]; omega)
theorem F54 (a b : List UInt8) : F Try.prog 54 [.val (.string ⟨a.toArray⟩), .val (.string ⟨b.toArray⟩)] (.val (.int .i64 (Lib.compareBytes a b))) :=
  F.of_calls Try.func54 (by kernel_rfl) (by kernel_rfl) rfl fun w => (Any.strings_Compare l106 ⟨a.toArray⟩ ⟨b.toArray⟩ w).mono fun e w' ⟨e1, e2⟩ => ⟨e1, by rw [e2]; exact Go.RowKit.Below.refl _ _⟩
end Go.Proofs.Ytanfgfclpjmngaa

set_option maxRecDepth 100000
set_option maxHeartbeats 1000000
set_option linter.unusedSimpArgs false
set_option linter.unusedVariables false
namespace Go.Proofs.Ytanfgfclpjmngaa
open Go.Abs
attribute [local irreducible] C X CC Y CV CW binK litK AppK PureC PureCV againK loopV rangeV allK ifK got onB condK V stepsK planK opK firstK seeE keepsK
theorem rep_zero (c : Nat) : Lib.repeatL [0] c = List.replicate c 0 := by
  induction c with
  | zero => rfl
  | succ c ih => unfold Lib.repeatL; rw [ih]; rfl
def zs (n : Int) : List UInt8 := List.replicate n.toNat 0
theorem zs_len (n : Int) : (zs n).length = n.toNat := List.length_replicate
theorem F58 (n : Int) (h : n ≤ 1000000) : F Try.prog 58 [.val (.int .i64 n)] (.val (.string ⟨(zs n).toArray⟩)) := by
  have e : (if n < 0 then (0 : Int) else n) = (n.toNat : Int) := by split <;> omega
  have f63 := F63 [0] n.toNat (by simp; omega) (by omega)
  rw [rep_zero] at f63
  refine F58_of ?_
  unfold k58
  repeat' first
    | simp -dsimp (disch := omega) only [↓rulesA, rulesB, rulesC, Int.reduceLT, nth, upd, put, storeN, AV.one, Nat.reduceBEq, Nat.reduceBNe, Int.reduceBEq, Int.reduceBNe, Int.reduceLE, Int.reduceEq, Int.reduceMod, Int.reduceNeg, boolBin, strBin, intBin, unA, fillA, ne_eq, reduceCtorEq, Nat.reduceAdd, Nat.reduceSub, Nat.reduceLeDiff, Nat.reduceLT, Nat.reduceEqDiff, Int.reduceToNat, eq_self, rulesT, bne_self_eq_false, mm_min, mm_max, buOf_some, nilCheck_vp, nilCheck_ptr, nilCheck_yld, nilCheck_func, mm_max, e, *]
    | (refine allK_intro fun n hn => ?_; try simp only [fresh_set] at hn)
    | (refine ifK_intro (fun h => ?_) (fun h => ?_) <;> (try simp only [decide_eq_true_eq, decide_eq_false_iff_not, Bool.not_eq_true', Bool.not_eq_false'] at h) <;> try (exfalso; (try simp only [beq_iff_eq, beq_eq_false_iff_ne, bne_iff_ne, bne_eq_false_iff_eq, ne_eq] at h); omega))
    | (refine keeps_sub (Mem.sub_set ?_) ?_; focus (simp [Mem.set_at, nomem, *]; done))
    | (refine call_F (f63) (Seens.refl _ _) ?_)
    | (refine pure_F (f63) (Seens.refl _ _) ?_)
  exact .val
structure Sheet where
  o : Obj
  there : Bool
  who : Ban
  op : Opr
def Sheet.cells (s : Sheet) : List AV := [.val (.string (.mk (List.toArray s.o.name))), .val (.string (.mk (List.toArray s.o.data))), .val (.bool s.o.locked), .val (.int .i64 s.o.client), .val (.int .i64 s.o.inst), .val (.bool s.there), .val (.int .i64 s.who.client), .val (.int .i64 s.who.inst), .val (.int .i64 s.op.kind), .val (.string (.mk (List.toArray s.op.name))), .val (.int .i64 s.op.off), .val (.int .i64 s.op.num), .val (.string (.mk (List.toArray s.op.data)))]
section
variable (s : Sheet)
theorem S1 : s.cells[1]? = some (.val (.string (.mk (List.toArray s.o.data)))) := rfl
theorem S2 : s.cells[2]? = some (.val (.bool s.o.locked)) := rfl
theorem S3 : s.cells[3]? = some (.val (.int .i64 s.o.client)) := rfl
theorem S4 : s.cells[4]? = some (.val (.int .i64 s.o.inst)) := rfl
theorem S5 : s.cells[5]? = some (.val (.bool s.there)) := rfl
theorem S9 : s.cells[9]? = some (.val (.string (.mk (List.toArray s.op.name)))) := rfl
theorem S10 : s.cells[10]? = some (.val (.int .i64 s.op.off)) := rfl
theorem S11 : s.cells[11]? = some (.val (.int .i64 s.op.num)) := rfl
theorem S12 : s.cells[12]? = some (.val (.string (.mk (List.toArray s.op.data)))) := rfl
theorem Slen : s.cells.length = 13 := rfl
theorem Sobj : s.cells.take 5 = s.o.cells := rfl
theorem Shold : (s.cells.drop 3).take 2 = [.val (.int .i64 s.o.client), .val (.int .i64 s.o.inst)] := rfl
theorem Swho : (s.cells.drop 6).take 2 = [.val (.int .i64 s.who.client), .val (.int .i64 s.who.inst)] := rfl
theorem Sset0' (n : List UInt8) : setRange s.cells 0 [.val (.string (.mk (List.toArray n))), .val (.string ⟨#[]⟩), .val (.bool false), .val (.int .i64 0), .val (.int .i64 0)] = ({ s with o := ⟨n, [], false, 0, 0⟩ } : Sheet).cells := rfl
theorem Sset0o (o : Obj) : setRange s.cells 0 o.cells = ({ s with o := o } : Sheet).cells := rfl
theorem Sset1 (d : List UInt8) : setRange s.cells 1 [.val (.string (.mk (List.toArray d)))] = ({ s with o := { s.o with data := d } } : Sheet).cells := rfl
theorem Sset2 (b : Bool) : setRange s.cells 2 [.val (.bool b)] = ({ s with o := { s.o with locked := b } } : Sheet).cells := rfl
theorem Sset3 (c i : Int) : setRange s.cells 3 [.val (.int .i64 c), .val (.int .i64 i)] = ({ s with o := { s.o with client := c, inst := i } } : Sheet).cells := rfl
theorem Sset5 (b : Bool) : setRange s.cells 5 [.val (.bool b)] = ({ s with there := b } : Sheet).cells := rfl
end
def shM (s : Sheet) (N : Nat) : Mem := nomem.set N (.cells false 62 s.cells)
def mk0 (s : Sheet) : Sheet := if s.there then s else { s with o := ⟨s.op.name, [], false, 0, 0⟩, there := true }
def sizeR (s : Sheet) : Res := ⟨0, s.o.data.length, 0, []⟩
def errR (e : Int) : Res := ⟨e, 0, 0, []⟩
theorem C57 (s : Sheet) (N : Nat) : C Try.prog 57 [.ptr N 0] (shM s N) (fun r m' => r = .tup [] ∧ m' = shM (mk0 s) N) := by
  unfold shM
  refine C57_of ?_
  unfold k57 mk0
  rcases hs : s.there
  all_goals
    repeat' first
      | simp -dsimp (disch := omega) only [↓rulesA, rulesB, rulesC, Int.reduceLT, nth, upd, put, storeN, AV.one, Nat.reduceBEq, Nat.reduceBNe, Int.reduceBEq, Int.reduceBNe, Int.reduceLE, Int.reduceEq, Int.reduceMod, Int.reduceNeg, boolBin, strBin, intBin, unA, fillA, ne_eq, reduceCtorEq, Nat.reduceAdd, Nat.reduceSub, Nat.reduceLeDiff, Nat.reduceLT, Nat.reduceEqDiff, Int.reduceToNat, eq_self, rulesT, bne_self_eq_false, mm_min, mm_max, buOf_some, nilCheck_vp, nilCheck_ptr, nilCheck_yld, nilCheck_func, S5, S9, Slen, Sset0', Sset5, hs, *]
      | (refine allK_intro fun n hn => ?_; try simp only [fresh_set] at hn)
      | (refine ifK_intro (fun h => ?_) (fun h => ?_) <;> (try simp only [decide_eq_true_eq, decide_eq_false_iff_not, Bool.not_eq_true', Bool.not_eq_false'] at h) <;> try (exfalso; (try simp only [beq_iff_eq, beq_eq_false_iff_ne, bne_iff_ne, bne_eq_false_iff_eq, ne_eq] at h); omega))
      | (refine keeps_sub (Mem.sub_set ?_) ?_; focus (simp [Mem.set_at, nomem, *]; done))
    try exact ⟨rfl, rfl⟩
theorem C59 (s : Sheet) (N : Nat) : C Try.prog 59 [.ptr N 0] (shM s N) (fun r m' => r = .agg (sizeR s).cells ∧ m' = shM s N) := by
  unfold shM
  refine C.turn (C59_of ?_)
  unfold k59
  repeat' first
    | simp -dsimp (disch := omega) only [↓rulesA, rulesB, rulesC, Int.reduceLT, nth, upd, put, storeN, AV.one, Nat.reduceBEq, Nat.reduceBNe, Int.reduceBEq, Int.reduceBNe, Int.reduceLE, Int.reduceEq, Int.reduceMod, Int.reduceNeg, boolBin, strBin, intBin, unA, fillA, ne_eq, reduceCtorEq, Nat.reduceAdd, Nat.reduceSub, Nat.reduceLeDiff, Nat.reduceLT, Nat.reduceEqDiff, Int.reduceToNat, eq_self, rulesT, bne_self_eq_false, mm_min, mm_max, buOf_some, nilCheck_vp, nilCheck_ptr, nilCheck_yld, nilCheck_func, S1, Slen, text_size, *]
    | (refine allK_intro fun n hn => ?_; try simp only [fresh_set] at hn)
    | (refine ifK_intro (fun h => ?_) (fun h => ?_) <;> (try simp only [decide_eq_true_eq, decide_eq_false_iff_not, Bool.not_eq_true', Bool.not_eq_false'] at h) <;> try (exfalso; (try simp only [beq_iff_eq, beq_eq_false_iff_ne, bne_iff_ne, bne_eq_false_iff_eq, ne_eq] at h); omega))
    | (refine keeps_sub (Mem.sub_set ?_) ?_; focus (simp [Mem.set_at, nomem, *]; done))
  exact Turns.sub (Mem.sub_set (by simp [Mem.set_at, *])) ⟨rfl, rfl⟩
theorem C48 (s : Sheet) (N : Nat) : C Try.prog 48 [.ptr N 0] (shM s N) (fun r m' => r = .agg (errR 0).cells ∧ m' = shM s N) := by
  unfold shM
  refine C.turn (C48_of ?_)
  unfold k48
  repeat' first
    | simp -dsimp (disch := omega) only [↓rulesA, rulesB, rulesC, Int.reduceLT, nth, upd, put, storeN, AV.one, Nat.reduceBEq, Nat.reduceBNe, Int.reduceBEq, Int.reduceBNe, Int.reduceLE, Int.reduceEq, Int.reduceMod, Int.reduceNeg, boolBin, strBin, intBin, unA, fillA, ne_eq, reduceCtorEq, Nat.reduceAdd, Nat.reduceSub, Nat.reduceLeDiff, Nat.reduceLT, Nat.reduceEqDiff, Int.reduceToNat, eq_self, rulesT, bne_self_eq_false, mm_min, mm_max, buOf_some, nilCheck_vp, nilCheck_ptr, nilCheck_yld, nilCheck_func, *]
    | (refine allK_intro fun n hn => ?_; try simp only [fresh_set] at hn)
    | (refine ifK_intro (fun h => ?_) (fun h => ?_) <;> (try simp only [decide_eq_true_eq, decide_eq_false_iff_not, Bool.not_eq_true', Bool.not_eq_false'] at h) <;> try (exfalso; (try simp only [beq_iff_eq, beq_eq_false_iff_ne, bne_iff_ne, bne_eq_false_iff_eq, ne_eq] at h); omega))
    | (refine keeps_sub (Mem.sub_set ?_) ?_; focus (simp [Mem.set_at, nomem, *]; done))
  exact Turns.sub (Mem.sub_set (by simp [Mem.set_at, *])) ⟨rfl, rfl⟩
theorem C42 (s : Sheet) (N : Nat) : C Try.prog 42 [.ptr N 0] (shM s N) (fun r m' => r = .agg (errR (if s.there then 0 else 24)).cells ∧ m' = shM { s with there := false } N) := by
  unfold shM
  refine C.turn (C42_of ?_)
  unfold k42
  rcases hs : s.there
  · have e : ({ s with there := false } : Sheet) = s := by cases s; simp_all
    rw [e]
    repeat' first
      | simp -dsimp (disch := omega) only [↓rulesA, rulesB, rulesC, Int.reduceLT, nth, upd, put, storeN, AV.one, Nat.reduceBEq, Nat.reduceBNe, Int.reduceBEq, Int.reduceBNe, Int.reduceLE, Int.reduceEq, Int.reduceMod, Int.reduceNeg, boolBin, strBin, intBin, unA, fillA, ne_eq, reduceCtorEq, Nat.reduceAdd, Nat.reduceSub, Nat.reduceLeDiff, Nat.reduceLT, Nat.reduceEqDiff, Int.reduceToNat, eq_self, rulesT, bne_self_eq_false, mm_min, mm_max, buOf_some, nilCheck_vp, nilCheck_ptr, nilCheck_yld, nilCheck_func, S5, Slen, Sset5, hs, *]
      | (refine allK_intro fun n hn => ?_; try simp only [fresh_set] at hn)
      | (refine ifK_intro (fun h => ?_) (fun h => ?_) <;> (try simp only [decide_eq_true_eq, decide_eq_false_iff_not, Bool.not_eq_true', Bool.not_eq_false'] at h) <;> try (exfalso; (try simp only [beq_iff_eq, beq_eq_false_iff_ne, bne_iff_ne, bne_eq_false_iff_eq, ne_eq] at h); omega))
      | (refine keeps_sub (Mem.sub_set ?_) ?_; focus (simp [Mem.set_at, nomem, *]; done))
    refine Turns.sub (m' := shM s N) ?_ ⟨rfl, rfl⟩
    unfold shM
    ((repeat' first | exact Mem.sub.refl _ | exact nomem_sub _ | refine Mem.set_sub ?_ ?_ | refine Mem.sub_set_new ?_ ?_ | refine Mem.sub_del ?_ ?_) <;> simp [Mem.set_at, Mem.del_at, nomem, *])
  · repeat' first
      | simp -dsimp (disch := omega) only [↓rulesA, rulesB, rulesC, Int.reduceLT, nth, upd, put, storeN, AV.one, Nat.reduceBEq, Nat.reduceBNe, Int.reduceBEq, Int.reduceBNe, Int.reduceLE, Int.reduceEq, Int.reduceMod, Int.reduceNeg, boolBin, strBin, intBin, unA, fillA, ne_eq, reduceCtorEq, Nat.reduceAdd, Nat.reduceSub, Nat.reduceLeDiff, Nat.reduceLT, Nat.reduceEqDiff, Int.reduceToNat, eq_self, rulesT, bne_self_eq_false, mm_min, mm_max, buOf_some, nilCheck_vp, nilCheck_ptr, nilCheck_yld, nilCheck_func, S5, Slen, Sset5, hs, *]
      | (refine allK_intro fun n hn => ?_; try simp only [fresh_set] at hn)
      | (refine ifK_intro (fun h => ?_) (fun h => ?_) <;> (try simp only [decide_eq_true_eq, decide_eq_false_iff_not, Bool.not_eq_true', Bool.not_eq_false'] at h) <;> try (exfalso; (try simp only [beq_iff_eq, beq_eq_false_iff_ne, bne_iff_ne, bne_eq_false_iff_eq, ne_eq] at h); omega))
      | (refine keeps_sub (Mem.sub_set ?_) ?_; focus (simp [Mem.set_at, nomem, *]; done))
    refine Turns.sub (m' := shM { s with there := false } N) ?_ ⟨rfl, rfl⟩
    unfold shM
    ((repeat' first | exact Mem.sub.refl _ | exact nomem_sub _ | refine Mem.set_sub ?_ ?_ | refine Mem.sub_set_new ?_ ?_ | refine Mem.sub_del ?_ ?_) <;> simp [Mem.set_at, Mem.del_at, nomem, *])
theorem C44 (s : Sheet) (N : Nat) : C Try.prog 44 [.ptr N 0] (shM s N) (fun r m' => r = .agg (if s.there then sizeR s else errR 24).cells ∧ m' = shM s N) := by
  unfold shM
  refine C.turn (C44_of ?_)
  unfold k44
  rcases hs : s.there
  · repeat' first
      | simp -dsimp (disch := omega) only [↓rulesA, rulesB, rulesC, Int.reduceLT, nth, upd, put, storeN, AV.one, Nat.reduceBEq, Nat.reduceBNe, Int.reduceBEq, Int.reduceBNe, Int.reduceLE, Int.reduceEq, Int.reduceMod, Int.reduceNeg, boolBin, strBin, intBin, unA, fillA, ne_eq, reduceCtorEq, Nat.reduceAdd, Nat.reduceSub, Nat.reduceLeDiff, Nat.reduceLT, Nat.reduceEqDiff, Int.reduceToNat, eq_self, rulesT, bne_self_eq_false, mm_min, mm_max, buOf_some, nilCheck_vp, nilCheck_ptr, nilCheck_yld, nilCheck_func, S5, hs, *]
      | (refine allK_intro fun n hn => ?_; try simp only [fresh_set] at hn)
      | (refine ifK_intro (fun h => ?_) (fun h => ?_) <;> (try simp only [decide_eq_true_eq, decide_eq_false_iff_not, Bool.not_eq_true', Bool.not_eq_false'] at h) <;> try (exfalso; (try simp only [beq_iff_eq, beq_eq_false_iff_ne, bne_iff_ne, bne_eq_false_iff_eq, ne_eq] at h); omega))
      | (refine keeps_sub (Mem.sub_set ?_) ?_; focus (simp [Mem.set_at, nomem, *]; done))
    exact Turns.sub (Mem.sub_set (by simp [Mem.set_at, *])) ⟨rfl, rfl⟩
  · repeat' first
      | simp -dsimp (disch := omega) only [↓rulesA, rulesB, rulesC, Int.reduceLT, nth, upd, put, storeN, AV.one, Nat.reduceBEq, Nat.reduceBNe, Int.reduceBEq, Int.reduceBNe, Int.reduceLE, Int.reduceEq, Int.reduceMod, Int.reduceNeg, boolBin, strBin, intBin, unA, fillA, ne_eq, reduceCtorEq, Nat.reduceAdd, Nat.reduceSub, Nat.reduceLeDiff, Nat.reduceLT, Nat.reduceEqDiff, Int.reduceToNat, eq_self, rulesT, bne_self_eq_false, mm_min, mm_max, buOf_some, nilCheck_vp, nilCheck_ptr, nilCheck_yld, nilCheck_func, S5, hs, *]
      | (refine allK_intro fun n hn => ?_; try simp only [fresh_set] at hn)
      | (refine ifK_intro (fun h => ?_) (fun h => ?_) <;> (try simp only [decide_eq_true_eq, decide_eq_false_iff_not, Bool.not_eq_true', Bool.not_eq_false'] at h) <;> try (exfalso; (try simp only [beq_iff_eq, beq_eq_false_iff_ne, bne_iff_ne, bne_eq_false_iff_eq, ne_eq] at h); omega))
      | (refine keeps_sub (Mem.sub_set ?_) ?_; focus (simp [Mem.set_at, nomem, *]; done))
    refine call_obj (C59 s N) (by simp [Mem.set_at, *]) fun r m' ⟨h1, h2⟩ => ⟨_, h2, ?_⟩
    subst h1
    repeat' first
      | simp -dsimp (disch := omega) only [↓rulesA, rulesB, rulesC, Int.reduceLT, nth, upd, put, storeN, AV.one, Nat.reduceBEq, Nat.reduceBNe, Int.reduceBEq, Int.reduceBNe, Int.reduceLE, Int.reduceEq, Int.reduceMod, Int.reduceNeg, boolBin, strBin, intBin, unA, fillA, ne_eq, reduceCtorEq, Nat.reduceAdd, Nat.reduceSub, Nat.reduceLeDiff, Nat.reduceLT, Nat.reduceEqDiff, Int.reduceToNat, eq_self, rulesT, bne_self_eq_false, mm_min, mm_max, buOf_some, nilCheck_vp, nilCheck_ptr, nilCheck_yld, nilCheck_func, Res.all, Res.len, Res.take, Res.drop, Res.sall, *]
      | (refine allK_intro fun n hn => ?_; try simp only [fresh_set] at hn)
      | (refine ifK_intro (fun h => ?_) (fun h => ?_) <;> (try simp only [decide_eq_true_eq, decide_eq_false_iff_not, Bool.not_eq_true', Bool.not_eq_false'] at h) <;> try (exfalso; (try simp only [beq_iff_eq, beq_eq_false_iff_ne, bne_iff_ne, bne_eq_false_iff_eq, ne_eq] at h); omega))
      | (refine keeps_sub (Mem.sub_set ?_) ?_; focus (simp [Mem.set_at, nomem, *]; done))
    refine Turns.sub (m' := shM s N) ?_ ⟨rfl, rfl⟩
    unfold shM
    ((repeat' first | exact Mem.sub.refl _ | exact nomem_sub _ | refine Mem.set_sub ?_ ?_ | refine Mem.sub_set_new ?_ ?_ | refine Mem.sub_del ?_ ?_) <;> simp [Mem.set_at, Mem.del_at, nomem, *])
def freeR (s : Sheet) (b : Ban) : Res := if s.there = false then errR 24 else if s.o.locked = false ∨ (⟨s.o.client, s.o.inst⟩ : Ban) ≠ b then errR 30 else sizeR s
def freeS (s : Sheet) (b : Ban) : Sheet := if s.there = false then s else if s.o.locked = false ∨ (⟨s.o.client, s.o.inst⟩ : Ban) ≠ b then s else { s with o := { s.o with locked := false, client := 0, inst := 0 } }
theorem C60 (s : Sheet) (N : Nat) (b : Ban) : C Try.prog 60 [.ptr N 0, .agg b.cells] (shM s N) (fun r m' => r = .agg (freeR s b).cells ∧ m' = shM (freeS s b) N) := by
  unfold shM
  refine C.turn (C60_of ?_)
  unfold k60
  by_cases h1 : s.there = false
  · have e1 : freeR s b = errR 24 := if_pos h1
    have e2 : freeS s b = s := if_pos h1
    rw [e1, e2]
    clear e1 e2
    repeat' first
      | simp -dsimp (disch := omega) only [↓rulesA, rulesB, rulesC, Int.reduceLT, nth, upd, put, storeN, AV.one, Nat.reduceBEq, Nat.reduceBNe, Int.reduceBEq, Int.reduceBNe, Int.reduceLE, Int.reduceEq, Int.reduceMod, Int.reduceNeg, boolBin, strBin, intBin, unA, fillA, ne_eq, reduceCtorEq, Nat.reduceAdd, Nat.reduceSub, Nat.reduceLeDiff, Nat.reduceLT, Nat.reduceEqDiff, Int.reduceToNat, eq_self, rulesT, bne_self_eq_false, mm_min, mm_max, buOf_some, nilCheck_vp, nilCheck_ptr, nilCheck_yld, nilCheck_func, S5, h1, Ban.all, Ban.take, Ban.len, Ban.drop, *]
      | (refine allK_intro fun n hn => ?_; try simp only [fresh_set] at hn)
      | (refine ifK_intro (fun h => ?_) (fun h => ?_) <;> (try simp only [decide_eq_true_eq, decide_eq_false_iff_not, Bool.not_eq_true', Bool.not_eq_false'] at h) <;> try (exfalso; (try simp only [beq_iff_eq, beq_eq_false_iff_ne, bne_iff_ne, bne_eq_false_iff_eq, ne_eq] at h); omega))
      | (refine keeps_sub (Mem.sub_set ?_) ?_; focus (simp [Mem.set_at, nomem, *]; done))
    refine Turns.sub (m' := shM s N) ?_ ⟨rfl, rfl⟩
    unfold shM
    ((repeat' first | exact Mem.sub.refl _ | exact nomem_sub _ | refine Mem.set_sub ?_ ?_ | refine Mem.sub_set_new ?_ ?_ | refine Mem.sub_del ?_ ?_) <;> simp [Mem.set_at, Mem.del_at, nomem, *])
  · have h1' : s.there = true := by simpa using h1
    by_cases h2 : s.o.locked = false ∨ (⟨s.o.client, s.o.inst⟩ : Ban) ≠ b
    · have e1 : freeR s b = errR 30 := by unfold freeR; rw [if_neg h1, if_pos h2]
      have e2 : freeS s b = s := by unfold freeS; rw [if_neg h1, if_pos h2]
      rw [e1, e2]
      clear e1 e2
      replace h2 : Kept _ := h2
      repeat' first
        | simp -dsimp (disch := omega) only [↓rulesA, rulesB, rulesC, Int.reduceLT, nth, upd, put, storeN, AV.one, Nat.reduceBEq, Nat.reduceBNe, Int.reduceBEq, Int.reduceBNe, Int.reduceLE, Int.reduceEq, Int.reduceMod, Int.reduceNeg, boolBin, strBin, intBin, unA, fillA, ne_eq, reduceCtorEq, Nat.reduceAdd, Nat.reduceSub, Nat.reduceLeDiff, Nat.reduceLT, Nat.reduceEqDiff, Int.reduceToNat, eq_self, rulesT, bne_self_eq_false, mm_min, mm_max, buOf_some, nilCheck_vp, nilCheck_ptr, nilCheck_yld, nilCheck_func, S2, S5, Slen, Shold, h1', Ban.all, Ban.take, Ban.len, Ban.drop, neb, *]
        | (refine allK_intro fun n hn => ?_; try simp only [fresh_set] at hn)
        | (refine ifK_intro (fun h => ?_) (fun h => ?_) <;> (try simp only [decide_eq_true_eq, decide_eq_false_iff_not, Bool.not_eq_true', Bool.not_eq_false'] at h) <;> try (exfalso; (try simp only [beq_iff_eq, beq_eq_false_iff_ne, bne_iff_ne, bne_eq_false_iff_eq, ne_eq] at h); omega))
        | (refine keeps_sub (Mem.sub_set ?_) ?_; focus (simp [Mem.set_at, nomem, *]; done))
      all_goals first
        | (refine Turns.sub (m' := shM s N) ?_ ⟨rfl, rfl⟩
           unfold shM
           ((repeat' first | exact Mem.sub.refl _ | exact nomem_sub _ | refine Mem.set_sub ?_ ?_ | refine Mem.sub_set_new ?_ ?_ | refine Mem.sub_del ?_ ?_) <;> simp [Mem.set_at, Mem.del_at, nomem, *]))
        | (exfalso
           have h2' : _ ∨ _ := h2
           simp_all)
    · have e1 : freeR s b = sizeR s := by unfold freeR; rw [if_neg h1, if_neg h2]
      have e2 : freeS s b = { s with o := { s.o with locked := false, client := 0, inst := 0 } } := by unfold freeS; rw [if_neg h1, if_neg h2]
      rw [e1, e2]
      clear e1 e2
      have h3 : s.o.locked = true := by
        cases h : s.o.locked with
        | true => rfl
        | false => exact absurd (.inl h) h2
      have h4 : (⟨s.o.client, s.o.inst⟩ : Ban) = b := by
        by_cases h : (⟨s.o.client, s.o.inst⟩ : Ban) = b
        · exact h
        · exact absurd (.inr h) h2
      clear h2
      repeat' first
        | simp -dsimp (disch := omega) only [↓rulesA, rulesB, rulesC, Int.reduceLT, nth, upd, put, storeN, AV.one, Nat.reduceBEq, Nat.reduceBNe, Int.reduceBEq, Int.reduceBNe, Int.reduceLE, Int.reduceEq, Int.reduceMod, Int.reduceNeg, boolBin, strBin, intBin, unA, fillA, ne_eq, reduceCtorEq, Nat.reduceAdd, Nat.reduceSub, Nat.reduceLeDiff, Nat.reduceLT, Nat.reduceEqDiff, Int.reduceToNat, eq_self, rulesT, bne_self_eq_false, mm_min, mm_max, buOf_some, nilCheck_vp, nilCheck_ptr, nilCheck_yld, nilCheck_func, S2, S5, Slen, Shold, h1', h3, Ban.all, Ban.take, Ban.len, Ban.drop, neb, decide_true, Sset2, Sset3, *]
        | (refine allK_intro fun n hn => ?_; try simp only [fresh_set] at hn)
        | (refine ifK_intro (fun h => ?_) (fun h => ?_) <;> (try simp only [decide_eq_true_eq, decide_eq_false_iff_not, Bool.not_eq_true', Bool.not_eq_false'] at h) <;> try (exfalso; (try simp only [beq_iff_eq, beq_eq_false_iff_ne, bne_iff_ne, bne_eq_false_iff_eq, ne_eq] at h); omega))
        | (refine keeps_sub (Mem.sub_set ?_) ?_; focus (simp [Mem.set_at, nomem, *]; done))
      refine call_obj (C59 { s with o := { s.o with locked := false, client := 0, inst := 0 } } N) (by simp [Mem.set_at, *]) fun r m' ⟨g1, g2⟩ => ⟨_, g2, ?_⟩
      subst g1
      repeat' first
        | simp -dsimp (disch := omega) only [↓rulesA, rulesB, rulesC, Int.reduceLT, nth, upd, put, storeN, AV.one, Nat.reduceBEq, Nat.reduceBNe, Int.reduceBEq, Int.reduceBNe, Int.reduceLE, Int.reduceEq, Int.reduceMod, Int.reduceNeg, boolBin, strBin, intBin, unA, fillA, ne_eq, reduceCtorEq, Nat.reduceAdd, Nat.reduceSub, Nat.reduceLeDiff, Nat.reduceLT, Nat.reduceEqDiff, Int.reduceToNat, eq_self, rulesT, bne_self_eq_false, mm_min, mm_max, buOf_some, nilCheck_vp, nilCheck_ptr, nilCheck_yld, nilCheck_func, Res.all, Res.len, Res.take, Res.drop, Res.sall, *]
        | (refine allK_intro fun n hn => ?_; try simp only [fresh_set] at hn)
        | (refine ifK_intro (fun h => ?_) (fun h => ?_) <;> (try simp only [decide_eq_true_eq, decide_eq_false_iff_not, Bool.not_eq_true', Bool.not_eq_false'] at h) <;> try (exfalso; (try simp only [beq_iff_eq, beq_eq_false_iff_ne, bne_iff_ne, bne_eq_false_iff_eq, ne_eq] at h); omega))
        | (refine keeps_sub (Mem.sub_set ?_) ?_; focus (simp [Mem.set_at, nomem, *]; done))
      refine Turns.sub (m' := shM { s with o := { s.o with locked := false, client := 0, inst := 0 } } N) ?_ ⟨rfl, by rw [h1']; rfl⟩
      unfold shM
      ((repeat' first | exact Mem.sub.refl _ | exact nomem_sub _ | refine Mem.set_sub ?_ ?_ | refine Mem.sub_set_new ?_ ?_ | refine Mem.sub_del ?_ ?_) <;> simp [Mem.set_at, Mem.del_at, nomem, *])
theorem C46 (s : Sheet) (N : Nat) : C Try.prog 46 [.ptr N 0] (shM s N) (fun r m' => r = .agg (freeR s s.who).cells ∧ m' = shM (freeS s s.who) N) := by
  have c60 := C60 s N s.who
  unfold shM at *
  refine C.turn (C46_of ?_)
  unfold k46
  repeat' first
    | simp -dsimp (disch := omega) only [↓rulesA, rulesB, rulesC, Int.reduceLT, nth, upd, put, storeN, AV.one, Nat.reduceBEq, Nat.reduceBNe, Int.reduceBEq, Int.reduceBNe, Int.reduceLE, Int.reduceEq, Int.reduceMod, Int.reduceNeg, boolBin, strBin, intBin, unA, fillA, ne_eq, reduceCtorEq, Nat.reduceAdd, Nat.reduceSub, Nat.reduceLeDiff, Nat.reduceLT, Nat.reduceEqDiff, Int.reduceToNat, eq_self, rulesT, bne_self_eq_false, mm_min, mm_max, buOf_some, nilCheck_vp, nilCheck_ptr, nilCheck_yld, nilCheck_func, Slen, Swho, *]
    | (refine allK_intro fun n hn => ?_; try simp only [fresh_set] at hn)
    | (refine ifK_intro (fun h => ?_) (fun h => ?_) <;> (try simp only [decide_eq_true_eq, decide_eq_false_iff_not, Bool.not_eq_true', Bool.not_eq_false'] at h) <;> try (exfalso; (try simp only [beq_iff_eq, beq_eq_false_iff_ne, bne_iff_ne, bne_eq_false_iff_eq, ne_eq] at h); omega))
    | (refine keeps_sub (Mem.sub_set ?_) ?_; focus (simp [Mem.set_at, nomem, *]; done))
  refine call_obj c60 (by simp [Mem.set_at, *]) fun r m' ⟨g1, g2⟩ => ⟨_, g2, ?_⟩
  subst g1
  repeat' first
    | simp -dsimp (disch := omega) only [↓rulesA, rulesB, rulesC, Int.reduceLT, nth, upd, put, storeN, AV.one, Nat.reduceBEq, Nat.reduceBNe, Int.reduceBEq, Int.reduceBNe, Int.reduceLE, Int.reduceEq, Int.reduceMod, Int.reduceNeg, boolBin, strBin, intBin, unA, fillA, ne_eq, reduceCtorEq, Nat.reduceAdd, Nat.reduceSub, Nat.reduceLeDiff, Nat.reduceLT, Nat.reduceEqDiff, Int.reduceToNat, eq_self, rulesT, bne_self_eq_false, mm_min, mm_max, buOf_some, nilCheck_vp, nilCheck_ptr, nilCheck_yld, nilCheck_func, Res.all, Res.len, Res.take, Res.drop, Res.sall, *]
    | (refine allK_intro fun n hn => ?_; try simp only [fresh_set] at hn)
    | (refine ifK_intro (fun h => ?_) (fun h => ?_) <;> (try simp only [decide_eq_true_eq, decide_eq_false_iff_not, Bool.not_eq_true', Bool.not_eq_false'] at h) <;> try (exfalso; (try simp only [beq_iff_eq, beq_eq_false_iff_ne, bne_iff_ne, bne_eq_false_iff_eq, ne_eq] at h); omega))
    | (refine keeps_sub (Mem.sub_set ?_) ?_; focus (simp [Mem.set_at, nomem, *]; done))
  refine Turns.sub (m' := shM (freeS s s.who) N) ?_ ⟨rfl, rfl⟩
  unfold shM
  ((repeat' first | exact Mem.sub.refl _ | exact nomem_sub _ | refine Mem.set_sub ?_ ?_ | refine Mem.sub_set_new ?_ ?_ | refine Mem.sub_del ?_ ?_) <;> simp [Mem.set_at, Mem.del_at, nomem, *])
theorem C47 (s : Sheet) (N : Nat) : C Try.prog 47 [.ptr N 0] (shM s N) (fun r m' => r = .agg (freeR s ⟨s.op.num, s.op.off⟩).cells ∧ m' = shM (freeS s ⟨s.op.num, s.op.off⟩) N) := by
  have c60 := C60 s N ⟨s.op.num, s.op.off⟩
  unfold shM at *
  refine C.turn (C47_of ?_)
  unfold k47
  repeat' first
    | simp -dsimp (disch := omega) only [↓rulesA, rulesB, rulesC, Int.reduceLT, nth, upd, put, storeN, AV.one, Nat.reduceBEq, Nat.reduceBNe, Int.reduceBEq, Int.reduceBNe, Int.reduceLE, Int.reduceEq, Int.reduceMod, Int.reduceNeg, boolBin, strBin, intBin, unA, fillA, ne_eq, reduceCtorEq, Nat.reduceAdd, Nat.reduceSub, Nat.reduceLeDiff, Nat.reduceLT, Nat.reduceEqDiff, Int.reduceToNat, eq_self, rulesT, bne_self_eq_false, mm_min, mm_max, buOf_some, nilCheck_vp, nilCheck_ptr, nilCheck_yld, nilCheck_func, S10, S11, Slen, *]
    | (refine allK_intro fun n hn => ?_; try simp only [fresh_set] at hn)
    | (refine ifK_intro (fun h => ?_) (fun h => ?_) <;> (try simp only [decide_eq_true_eq, decide_eq_false_iff_not, Bool.not_eq_true', Bool.not_eq_false'] at h) <;> try (exfalso; (try simp only [beq_iff_eq, beq_eq_false_iff_ne, bne_iff_ne, bne_eq_false_iff_eq, ne_eq] at h); omega))
    | (refine keeps_sub (Mem.sub_set ?_) ?_; focus (simp [Mem.set_at, nomem, *]; done))
  refine call_obj c60 (by simp [Mem.set_at, *]) fun r m' ⟨g1, g2⟩ => ⟨_, g2, ?_⟩
  subst g1
  repeat' first
    | simp -dsimp (disch := omega) only [↓rulesA, rulesB, rulesC, Int.reduceLT, nth, upd, put, storeN, AV.one, Nat.reduceBEq, Nat.reduceBNe, Int.reduceBEq, Int.reduceBNe, Int.reduceLE, Int.reduceEq, Int.reduceMod, Int.reduceNeg, boolBin, strBin, intBin, unA, fillA, ne_eq, reduceCtorEq, Nat.reduceAdd, Nat.reduceSub, Nat.reduceLeDiff, Nat.reduceLT, Nat.reduceEqDiff, Int.reduceToNat, eq_self, rulesT, bne_self_eq_false, mm_min, mm_max, buOf_some, nilCheck_vp, nilCheck_ptr, nilCheck_yld, nilCheck_func, Res.all, Res.len, Res.take, Res.drop, Res.sall, *]
    | (refine allK_intro fun n hn => ?_; try simp only [fresh_set] at hn)
    | (refine ifK_intro (fun h => ?_) (fun h => ?_) <;> (try simp only [decide_eq_true_eq, decide_eq_false_iff_not, Bool.not_eq_true', Bool.not_eq_false'] at h) <;> try (exfalso; (try simp only [beq_iff_eq, beq_eq_false_iff_ne, bne_iff_ne, bne_eq_false_iff_eq, ne_eq] at h); omega))
    | (refine keeps_sub (Mem.sub_set ?_) ?_; focus (simp [Mem.set_at, nomem, *]; done))
    | (refine keeps_stab ?_ ?_; focus ((repeat' first | exact stabK_nil _ _ | refine stabK_cons ?_ ?_ | (simp (disch := omega) only [quietA, Option.isSome_some, ↓rulesA, rulesB, rulesC, Int.reduceLT, nth, upd, put, storeN, AV.one, Nat.reduceBEq, Nat.reduceBNe, Int.reduceBEq, Int.reduceBNe, Int.reduceLE, Int.reduceEq, Int.reduceMod, Int.reduceNeg, boolBin, strBin, intBin, unA, fillA, ne_eq, reduceCtorEq, Nat.reduceAdd, Nat.reduceSub, Nat.reduceLeDiff, Nat.reduceLT, Nat.reduceEqDiff, Int.reduceToNat, eq_self, rulesT, bne_self_eq_false, mm_min, mm_max, buOf_some, nilCheck_vp, nilCheck_ptr, nilCheck_yld, nilCheck_func, Res.all, Res.len, Res.take, Res.drop, Res.sall, *]; done)); done))
  refine Turns.sub (m' := shM (freeS s ⟨s.op.num, s.op.off⟩) N) ?_ ⟨rfl, rfl⟩
  unfold shM
  ((repeat' first | exact Mem.sub.refl _ | exact nomem_sub _ | refine Mem.set_sub ?_ ?_ | refine Mem.sub_set_new ?_ ?_ | refine Mem.sub_del ?_ ?_) <;> simp [Mem.set_at, Mem.del_at, nomem, *])
def lockR (s : Sheet) : Res := if s.there = true ∧ s.o.locked = true ∧ (⟨s.o.client, s.o.inst⟩ : Ban) ≠ s.who then ⟨29, s.o.client, s.o.inst, []⟩ else sizeR (mk0 s)
def lockS (s : Sheet) : Sheet := if s.there = true ∧ s.o.locked = true ∧ (⟨s.o.client, s.o.inst⟩ : Ban) ≠ s.who then s else { mk0 s with o := { (mk0 s).o with locked := true, client := s.who.client, inst := s.who.inst } }
theorem C45 (s : Sheet) (N : Nat) : C Try.prog 45 [.ptr N 0] (shM s N) (fun r m' => r = .agg (lockR s).cells ∧ m' = shM (lockS s) N) := by
  have c57 := C57 s N
  have hw : (mk0 s).who = s.who := by unfold mk0; split <;> rfl
  unfold shM at *
  refine C.turn (C45_of ?_)
  unfold k45
  by_cases h : s.there = true ∧ s.o.locked = true ∧ (⟨s.o.client, s.o.inst⟩ : Ban) ≠ s.who
  · have e1 : lockR s = ⟨29, s.o.client, s.o.inst, []⟩ := if_pos h
    have e2 : lockS s = s := if_pos h
    rw [e1, e2]
    obtain ⟨h1, h2, h3⟩ := h
    have h3' := decide_eq_false h3
    clear e1 e2 c57 h3
    repeat' first
      | simp -dsimp (disch := omega) only [↓rulesA, rulesB, rulesC, Int.reduceLT, nth, upd, put, storeN, AV.one, Nat.reduceBEq, Nat.reduceBNe, Int.reduceBEq, Int.reduceBNe, Int.reduceLE, Int.reduceEq, Int.reduceMod, Int.reduceNeg, boolBin, strBin, intBin, unA, fillA, ne_eq, reduceCtorEq, Nat.reduceAdd, Nat.reduceSub, Nat.reduceLeDiff, Nat.reduceLT, Nat.reduceEqDiff, Int.reduceToNat, eq_self, rulesT, bne_self_eq_false, mm_min, mm_max, buOf_some, nilCheck_vp, nilCheck_ptr, nilCheck_yld, nilCheck_func, S2, S3, S4, S5, Slen, Shold, Swho, nebb, *]
      | (refine allK_intro fun n hn => ?_; try simp only [fresh_set] at hn)
      | (refine ifK_intro (fun h => ?_) (fun h => ?_) <;> (try simp only [decide_eq_true_eq, decide_eq_false_iff_not, Bool.not_eq_true', Bool.not_eq_false'] at h) <;> try (exfalso; (try simp only [beq_iff_eq, beq_eq_false_iff_ne, bne_iff_ne, bne_eq_false_iff_eq, ne_eq] at h); omega))
      | (refine keeps_sub (Mem.sub_set ?_) ?_; focus (simp [Mem.set_at, nomem, *]; done))
    exact Turns.sub (Mem.sub_set (by simp [Mem.set_at, *])) ⟨rfl, rfl⟩
  · have e1 : lockR s = sizeR (mk0 s) := if_neg h
    have e2 : lockS s = { mk0 s with o := { (mk0 s).o with locked := true, client := s.who.client, inst := s.who.inst } } := if_neg h
    rw [e1, e2]
    clear e1 e2
    have hno : Kept _ := h
    clear h
    replace hw : Kept _ := hw
    have htt : (mk0 s).there = true := by unfold mk0; split <;> first | assumption | rfl
    have c59 := C59 { mk0 s with o := { (mk0 s).o with locked := true, client := (mk0 s).who.client, inst := (mk0 s).who.inst } } N
    unfold shM at c59
    repeat' first
      | simp -dsimp (disch := omega) only [↓rulesA, rulesB, rulesC, Int.reduceLT, nth, upd, put, storeN, AV.one, Nat.reduceBEq, Nat.reduceBNe, Int.reduceBEq, Int.reduceBNe, Int.reduceLE, Int.reduceEq, Int.reduceMod, Int.reduceNeg, boolBin, strBin, intBin, unA, fillA, ne_eq, reduceCtorEq, Nat.reduceAdd, Nat.reduceSub, Nat.reduceLeDiff, Nat.reduceLT, Nat.reduceEqDiff, Int.reduceToNat, eq_self, rulesT, bne_self_eq_false, mm_min, mm_max, buOf_some, nilCheck_vp, nilCheck_ptr, nilCheck_yld, nilCheck_func, S2, S3, S4, S5, Slen, Shold, Swho, nebb, *]
      | (refine allK_intro fun n hn => ?_; try simp only [fresh_set] at hn)
      | (refine ifK_intro (fun h => ?_) (fun h => ?_) <;> (try simp only [decide_eq_true_eq, decide_eq_false_iff_not, Bool.not_eq_true', Bool.not_eq_false'] at h) <;> try (exfalso; (try simp only [beq_iff_eq, beq_eq_false_iff_ne, bne_iff_ne, bne_eq_false_iff_eq, ne_eq] at h); omega))
      | (refine keeps_sub (Mem.sub_set ?_) ?_; focus (simp [Mem.set_at, nomem, *]; done))
    all_goals first
      | (exfalso
         exact (hno : _ → False) ⟨by assumption, by assumption, fun e => h e⟩)
      | (refine call_obj c57 (by simp [Mem.set_at, *]) fun r m' ⟨g1, g2⟩ => ⟨_, g2, ?_⟩
         subst g1
         generalize mk0 s = q at *
         repeat' first
           | simp -dsimp (disch := omega) only [↓rulesA, rulesB, rulesC, Int.reduceLT, nth, upd, put, storeN, AV.one, Nat.reduceBEq, Nat.reduceBNe, Int.reduceBEq, Int.reduceBNe, Int.reduceLE, Int.reduceEq, Int.reduceMod, Int.reduceNeg, boolBin, strBin, intBin, unA, fillA, ne_eq, reduceCtorEq, Nat.reduceAdd, Nat.reduceSub, Nat.reduceLeDiff, Nat.reduceLT, Nat.reduceEqDiff, Int.reduceToNat, eq_self, rulesT, bne_self_eq_false, mm_min, mm_max, buOf_some, nilCheck_vp, nilCheck_ptr, nilCheck_yld, nilCheck_func, Slen, Swho, Sset2, Sset3, Ban.all, Ban.take, Ban.len, *]
           | (refine allK_intro fun n hn => ?_; try simp only [fresh_set] at hn)
           | (refine ifK_intro (fun h => ?_) (fun h => ?_) <;> (try simp only [decide_eq_true_eq, decide_eq_false_iff_not, Bool.not_eq_true', Bool.not_eq_false'] at h) <;> try (exfalso; (try simp only [beq_iff_eq, beq_eq_false_iff_ne, bne_iff_ne, bne_eq_false_iff_eq, ne_eq] at h); omega))
           | (refine keeps_sub (Mem.sub_set ?_) ?_; focus (simp [Mem.set_at, nomem, *]; done))
         refine call_obj c59 (by simp [Mem.set_at, *]) fun r m' ⟨g1, g2⟩ => ⟨_, g2, ?_⟩
         subst g1
         repeat' first
           | simp -dsimp (disch := omega) only [↓rulesA, rulesB, rulesC, Int.reduceLT, nth, upd, put, storeN, AV.one, Nat.reduceBEq, Nat.reduceBNe, Int.reduceBEq, Int.reduceBNe, Int.reduceLE, Int.reduceEq, Int.reduceMod, Int.reduceNeg, boolBin, strBin, intBin, unA, fillA, ne_eq, reduceCtorEq, Nat.reduceAdd, Nat.reduceSub, Nat.reduceLeDiff, Nat.reduceLT, Nat.reduceEqDiff, Int.reduceToNat, eq_self, rulesT, bne_self_eq_false, mm_min, mm_max, buOf_some, nilCheck_vp, nilCheck_ptr, nilCheck_yld, nilCheck_func, Res.all, Res.len, Res.take, Res.drop, Res.sall, *]
           | (refine allK_intro fun n hn => ?_; try simp only [fresh_set] at hn)
           | (refine ifK_intro (fun h => ?_) (fun h => ?_) <;> (try simp only [decide_eq_true_eq, decide_eq_false_iff_not, Bool.not_eq_true', Bool.not_eq_false'] at h) <;> try (exfalso; (try simp only [beq_iff_eq, beq_eq_false_iff_ne, bne_iff_ne, bne_eq_false_iff_eq, ne_eq] at h); omega))
           | (refine keeps_sub (Mem.sub_set ?_) ?_; focus (simp [Mem.set_at, nomem, *]; done))
         have hw' : q.who = s.who := hw
         rw [← hw']
         refine Turns.sub (m' := shM { q with o := { q.o with locked := true, client := q.who.client, inst := q.who.inst } } N) ?_ ⟨rfl, by rw [← htt]; rfl⟩
         unfold shM
         rw [htt]
         ((repeat' first | exact Mem.sub.refl _ | exact nomem_sub _ | refine Mem.set_sub ?_ ?_ | refine Mem.sub_set_new ?_ ?_ | refine Mem.sub_del ?_ ?_) <;> simp [Mem.set_at, Mem.del_at, nomem, *]))
end Go.Proofs.Ytanfgfclpjmngaa

set_option maxRecDepth 100000
set_option maxHeartbeats 1000000
set_option linter.unusedSimpArgs false
set_option linter.unusedVariables false
namespace Go.Proofs.Ytanfgfclpjmngaa
open Go.Abs
attribute [local irreducible] C X CC Y CV CW binK litK AppK PureC PureCV againK loopV rangeV allK ifK got onB condK V stepsK planK opK firstK seeE keepsK
theorem room1 (a b : Nat) (h : a + b ≤ 9223372036854775807) : ((((a + b : Nat) : Int)) ≤ 9223372036854775807) = True := eq_true (by omega)
theorem room2 (a b : Nat) (h : a + b ≤ 9223372036854775807) : (((a : Int) + (b : Int)) ≤ 9223372036854775807) = True := eq_true (by omega)
theorem thi (m : Mem) (l : List UInt8) (k : Nat) (h1 : k ≤ l.length) : sliceA Try.prog m 9 (.val (.string ⟨l.toArray⟩)) none (some (.val (.int .i64 k))) none = some (.val (.string ⟨(l.take k).toArray⟩)) := text_hi ti_9 rfl m l .i64 k (by omega) (by omega)
theorem tlo (m : Mem) (l : List UInt8) (k : Nat) (h1 : k ≤ l.length) : sliceA Try.prog m 9 (.val (.string ⟨l.toArray⟩)) (some (.val (.int .i64 k))) none none = some (.val (.string ⟨(l.drop k).toArray⟩)) := text_lo ti_9 rfl m l .i64 k (by omega) (by omega)
theorem tlohi (m : Mem) (l : List UInt8) (k k' : Nat) (h1 : k ≤ k') (h2 : k' ≤ l.length) : sliceA Try.prog m 9 (.val (.string ⟨l.toArray⟩)) (some (.val (.int .i64 k))) (some (.val (.int .i64 k'))) none = some (.val (.string ⟨((l.drop k).take (k' - k)).toArray⟩)) := text_lohi ti_9 rfl m l .i64 .i64 k k' (by omega) (by omega) (by omega)
theorem tlo2 (m : Mem) (l : List UInt8) (a b : Nat) (h1 : a + b ≤ l.length) : sliceA Try.prog m 9 (.val (.string ⟨l.toArray⟩)) (some (.val (.int .i64 ((a : Int) + (b : Int))))) none none = some (.val (.string ⟨(l.drop (a + b)).toArray⟩)) := text_lo ti_9 rfl m l .i64 ((a : Int) + (b : Int)) (by omega) (by omega)
structure Small (s : Sheet) : Prop where
  off : 0 ≤ s.op.off ∧ s.op.off ≤ 64
  num : 0 ≤ s.op.num ∧ s.op.num ≤ 64
  dat : s.op.data.length ≤ 64
  old : s.o.data.length ≤ 64
def atS (s : Sheet) : Nat := min s.op.off.toNat s.o.data.length
def endS (s : Sheet) : Nat := min (min s.op.off.toNat s.o.data.length + s.op.num.toNat) s.o.data.length
theorem atS_is {s : Sheet} (h : Small s) : (if (s.o.data.length : Int) < s.op.off then (s.o.data.length : Int) else s.op.off) = (atS s : Int) := by
  have := h.off; unfold atS; split <;> omega
theorem endS_is {s : Sheet} (h : Small s) : (if (s.o.data.length : Int) < (atS s : Int) + s.op.num then (s.o.data.length : Int) else (atS s : Int) + s.op.num) = (endS s : Int) := by
  have := h.num; unfold endS; have : atS s = min s.op.off.toNat s.o.data.length := rfl; split <;> omega
theorem endS_le (s : Sheet) : atS s ≤ endS s ∧ endS s ≤ s.o.data.length := by unfold atS endS; omega
def readR (s : Sheet) : Res := if s.there then ⟨0, s.o.data.length, 0, (s.o.data.drop (atS s)).take (endS s - atS s)⟩ else errR 24
theorem C43 (s : Sheet) (N : Nat) (hs : Small s) : C Try.prog 43 [.ptr N 0] (shM s N) (fun r m' => r = .agg (readR s).cells ∧ m' = shM s N) := by
  have c59 := C59 s N
  have ha := atS_is hs
  have he := endS_is hs
  obtain ⟨le1, le2⟩ := endS_le s
  obtain ⟨o1, o2⟩ := hs.off
  obtain ⟨o3, o4⟩ := hs.num
  have o5 := hs.old
  unfold shM at *
  refine C.turn (C43_of ?_)
  unfold k43 readR
  rcases ht : s.there
  · repeat' first
      | simp -dsimp (disch := omega) only [↓rulesA, rulesB, rulesC, Int.reduceLT, nth, upd, put, storeN, AV.one, Nat.reduceBEq, Nat.reduceBNe, Int.reduceBEq, Int.reduceBNe, Int.reduceLE, Int.reduceEq, Int.reduceMod, Int.reduceNeg, boolBin, strBin, intBin, unA, fillA, ne_eq, reduceCtorEq, Nat.reduceAdd, Nat.reduceSub, Nat.reduceLeDiff, Nat.reduceLT, Nat.reduceEqDiff, Int.reduceToNat, eq_self, rulesT, bne_self_eq_false, mm_min, mm_max, buOf_some, nilCheck_vp, nilCheck_ptr, nilCheck_yld, nilCheck_func, S5, ht, *]
      | (refine allK_intro fun n hn => ?_; try simp only [fresh_set] at hn)
      | (refine ifK_intro (fun h => ?_) (fun h => ?_) <;> (try simp only [decide_eq_true_eq, decide_eq_false_iff_not, Bool.not_eq_true', Bool.not_eq_false'] at h) <;> try (exfalso; (try simp only [beq_iff_eq, beq_eq_false_iff_ne, bne_iff_ne, bne_eq_false_iff_eq, ne_eq] at h); omega))
      | (refine keeps_sub (Mem.sub_set ?_) ?_; focus (simp [Mem.set_at, nomem, *]; done))
    exact Turns.sub (Mem.sub_set (by simp [Mem.set_at, *])) ⟨rfl, rfl⟩
  · repeat' first
      | simp -dsimp (disch := omega) only [↓rulesA, rulesB, rulesC, Int.reduceLT, nth, upd, put, storeN, AV.one, Nat.reduceBEq, Nat.reduceBNe, Int.reduceBEq, Int.reduceBNe, Int.reduceLE, Int.reduceEq, Int.reduceMod, Int.reduceNeg, boolBin, strBin, intBin, unA, fillA, ne_eq, reduceCtorEq, Nat.reduceAdd, Nat.reduceSub, Nat.reduceLeDiff, Nat.reduceLT, Nat.reduceEqDiff, Int.reduceToNat, eq_self, rulesT, bne_self_eq_false, mm_min, mm_max, buOf_some, nilCheck_vp, nilCheck_ptr, nilCheck_yld, nilCheck_func, S1, S5, S10, S11, Slen, ht, text_size, mm_min, *]
      | (refine allK_intro fun n hn => ?_; try simp only [fresh_set] at hn)
      | (refine ifK_intro (fun h => ?_) (fun h => ?_) <;> (try simp only [decide_eq_true_eq, decide_eq_false_iff_not, Bool.not_eq_true', Bool.not_eq_false'] at h) <;> try (exfalso; (try simp only [beq_iff_eq, beq_eq_false_iff_ne, bne_iff_ne, bne_eq_false_iff_eq, ne_eq] at h); omega))
      | (refine keeps_sub (Mem.sub_set ?_) ?_; focus (simp [Mem.set_at, nomem, *]; done))
    refine call_obj c59 (by simp [Mem.set_at, *]) fun r m' ⟨g1, g2⟩ => ⟨_, g2, ?_⟩
    subst g1
    repeat' first
      | simp -dsimp (disch := omega) only [↓rulesA, rulesB, rulesC, Int.reduceLT, nth, upd, put, storeN, AV.one, Nat.reduceBEq, Nat.reduceBNe, Int.reduceBEq, Int.reduceBNe, Int.reduceLE, Int.reduceEq, Int.reduceMod, Int.reduceNeg, boolBin, strBin, intBin, unA, fillA, ne_eq, reduceCtorEq, Nat.reduceAdd, Nat.reduceSub, Nat.reduceLeDiff, Nat.reduceLT, Nat.reduceEqDiff, Int.reduceToNat, eq_self, rulesT, bne_self_eq_false, mm_min, mm_max, buOf_some, nilCheck_vp, nilCheck_ptr, nilCheck_yld, nilCheck_func, S1, S5, S10, S11, Slen, ht, text_size, mm_min, tlohi, Res.all, Res.len, Res.take, Res.drop, Res.sall, Res.s3, *]
      | (refine allK_intro fun n hn => ?_; try simp only [fresh_set] at hn)
      | (refine ifK_intro (fun h => ?_) (fun h => ?_) <;> (try simp only [decide_eq_true_eq, decide_eq_false_iff_not, Bool.not_eq_true', Bool.not_eq_false'] at h) <;> try (exfalso; (try simp only [beq_iff_eq, beq_eq_false_iff_ne, bne_iff_ne, bne_eq_false_iff_eq, ne_eq] at h); omega))
      | (refine keeps_sub (Mem.sub_set ?_) ?_; focus (simp [Mem.set_at, nomem, *]; done))
      | (refine keeps_stab ?_ ?_; focus ((repeat' first | exact stabK_nil _ _ | refine stabK_cons ?_ ?_ | (simp (disch := omega) only [quietA, Option.isSome_some, ↓rulesA, rulesB, rulesC, Int.reduceLT, nth, upd, put, storeN, AV.one, Nat.reduceBEq, Nat.reduceBNe, Int.reduceBEq, Int.reduceBNe, Int.reduceLE, Int.reduceEq, Int.reduceMod, Int.reduceNeg, boolBin, strBin, intBin, unA, fillA, ne_eq, reduceCtorEq, Nat.reduceAdd, Nat.reduceSub, Nat.reduceLeDiff, Nat.reduceLT, Nat.reduceEqDiff, Int.reduceToNat, eq_self, rulesT, bne_self_eq_false, mm_min, mm_max, buOf_some, nilCheck_vp, nilCheck_ptr, nilCheck_yld, nilCheck_func, S1, S5, S10, S11, Slen, ht, text_size, mm_min, tlohi, Res.all, Res.len, Res.take, Res.drop, Res.sall, Res.s3, *]; done)); done))
    refine Turns.sub (m' := shM s N) ?_ ⟨rfl, rfl⟩
    unfold shM
    ((repeat' first | exact Mem.sub.refl _ | exact nomem_sub _ | refine Mem.set_sub ?_ ?_ | refine Mem.sub_set_new ?_ ?_ | refine Mem.sub_del ?_ ?_) <;> simp [Mem.set_at, Mem.del_at, nomem, *])
def zeroS (s : Sheet) : Sheet := if s.there then { s with o := { s.o with data := s.o.data.take (atS s) ++ zs ((endS s : Int) - atS s) ++ s.o.data.drop (endS s) } } else s
def zeroR (s : Sheet) : Res := if s.there then sizeR (zeroS s) else errR 24
theorem C40 (s : Sheet) (N : Nat) (hs : Small s) : C Try.prog 40 [.ptr N 0] (shM s N) (fun r m' => r = .agg (zeroR s).cells ∧ m' = shM (zeroS s) N) := by
  have ha := atS_is hs
  have he := endS_is hs
  obtain ⟨le1, le2⟩ := endS_le s
  obtain ⟨o1, o2⟩ := hs.off
  obtain ⟨o3, o4⟩ := hs.num
  have o5 := hs.old
  refine C.turn (C40_of ?_)
  unfold k40
  by_cases ht : s.there = true
  · have e1 : zeroR s = sizeR (zeroS s) := if_pos ht
    have e2 : zeroS s = { s with o := { s.o with data := s.o.data.take (atS s) ++ zs ((endS s : Int) - atS s) ++ s.o.data.drop (endS s) } } := if_pos ht
    rw [e1]
    clear e1
    have f58 := F58 ((endS s : Int) - atS s) (by omega)
    have z1 := zs_len ((endS s : Int) - atS s)
    have z2 : (s.o.data.take (atS s)).length ≤ 64 := by rw [List.length_take]; omega
    have z3 : (s.o.data.drop (endS s)).length ≤ 64 := by rw [List.length_drop]; omega
    have z4 : (zs ((endS s : Int) - atS s)).length ≤ 64 := by rw [z1]; omega
    have z5 : (s.o.data.take (atS s) ++ zs ((endS s : Int) - atS s)).length ≤ 128 := by rw [List.length_append]; omega
    replace e2 : Kept _ := e2
    unfold shM at *
    clear z1
    generalize zs ((endS s : Int) - atS s) = Z at *
    have c59 := C59 { s with o := { s.o with data := s.o.data.take (atS s) ++ Z ++ s.o.data.drop (endS s) } } N
    unfold shM at c59
    repeat' first
      | simp -dsimp (disch := omega) only [↓rulesA, rulesB, rulesC, Int.reduceLT, nth, upd, put, storeN, AV.one, Nat.reduceBEq, Nat.reduceBNe, Int.reduceBEq, Int.reduceBNe, Int.reduceLE, Int.reduceEq, Int.reduceMod, Int.reduceNeg, boolBin, strBin, intBin, unA, fillA, ne_eq, reduceCtorEq, Nat.reduceAdd, Nat.reduceSub, Nat.reduceLeDiff, Nat.reduceLT, Nat.reduceEqDiff, Int.reduceToNat, eq_self, rulesT, bne_self_eq_false, mm_min, mm_max, buOf_some, nilCheck_vp, nilCheck_ptr, nilCheck_yld, nilCheck_func, S1, S5, S10, S11, Slen, Sset1, text_size, mm_min, thi, tlo, text_cat, room1, room2, *]
      | (refine allK_intro fun n hn => ?_; try simp only [fresh_set] at hn)
      | (refine ifK_intro (fun h => ?_) (fun h => ?_) <;> (try simp only [decide_eq_true_eq, decide_eq_false_iff_not, Bool.not_eq_true', Bool.not_eq_false'] at h) <;> try (exfalso; (try simp only [beq_iff_eq, beq_eq_false_iff_ne, bne_iff_ne, bne_eq_false_iff_eq, ne_eq] at h); omega))
      | (refine keeps_sub (Mem.sub_set ?_) ?_; focus (simp [Mem.set_at, nomem, *]; done))
      | (refine keeps_stab ?_ ?_; focus ((repeat' first | exact stabK_nil _ _ | refine stabK_cons ?_ ?_ | (simp (disch := omega) only [quietA, Option.isSome_some, ↓rulesA, rulesB, rulesC, Int.reduceLT, nth, upd, put, storeN, AV.one, Nat.reduceBEq, Nat.reduceBNe, Int.reduceBEq, Int.reduceBNe, Int.reduceLE, Int.reduceEq, Int.reduceMod, Int.reduceNeg, boolBin, strBin, intBin, unA, fillA, ne_eq, reduceCtorEq, Nat.reduceAdd, Nat.reduceSub, Nat.reduceLeDiff, Nat.reduceLT, Nat.reduceEqDiff, Int.reduceToNat, eq_self, rulesT, bne_self_eq_false, mm_min, mm_max, buOf_some, nilCheck_vp, nilCheck_ptr, nilCheck_yld, nilCheck_func, S1, S5, S10, S11, Slen, Sset1, text_size, mm_min, thi, tlo, text_cat, room1, room2, *]; done)); done))
      | (refine call_F (f58) (Seens.refl _ _) ?_)
      | (refine pure_F (f58) (Seens.refl _ _) ?_)
    refine call_obj c59 (by simp [Mem.set_at, *]) fun r m' ⟨g1, g2⟩ => ⟨_, g2, ?_⟩
    subst g1
    repeat' first
      | simp -dsimp (disch := omega) only [↓rulesA, rulesB, rulesC, Int.reduceLT, nth, upd, put, storeN, AV.one, Nat.reduceBEq, Nat.reduceBNe, Int.reduceBEq, Int.reduceBNe, Int.reduceLE, Int.reduceEq, Int.reduceMod, Int.reduceNeg, boolBin, strBin, intBin, unA, fillA, ne_eq, reduceCtorEq, Nat.reduceAdd, Nat.reduceSub, Nat.reduceLeDiff, Nat.reduceLT, Nat.reduceEqDiff, Int.reduceToNat, eq_self, rulesT, bne_self_eq_false, mm_min, mm_max, buOf_some, nilCheck_vp, nilCheck_ptr, nilCheck_yld, nilCheck_func, Res.all, Res.len, Res.take, Res.drop, Res.sall, *]
      | (refine allK_intro fun n hn => ?_; try simp only [fresh_set] at hn)
      | (refine ifK_intro (fun h => ?_) (fun h => ?_) <;> (try simp only [decide_eq_true_eq, decide_eq_false_iff_not, Bool.not_eq_true', Bool.not_eq_false'] at h) <;> try (exfalso; (try simp only [beq_iff_eq, beq_eq_false_iff_ne, bne_iff_ne, bne_eq_false_iff_eq, ne_eq] at h); omega))
      | (refine keeps_sub (Mem.sub_set ?_) ?_; focus (simp [Mem.set_at, nomem, *]; done))
    refine Turns.sub (m' := shM { s with o := { s.o with data := s.o.data.take (atS s) ++ Z ++ s.o.data.drop (endS s) } } N) ?_ ⟨by rw [(e2 : _ = _), ht], by rw [(e2 : _ = _), ht]; rfl⟩
    unfold shM
    ((repeat' first | exact Mem.sub.refl _ | exact nomem_sub _ | refine Mem.set_sub ?_ ?_ | refine Mem.sub_set_new ?_ ?_ | refine Mem.sub_del ?_ ?_) <;> simp [Mem.set_at, Mem.del_at, nomem, *])
  · have ht' : s.there = false := by simpa using ht
    have e1 : zeroR s = errR 24 := if_neg ht
    have e2 : zeroS s = s := if_neg ht
    rw [e1, e2]
    clear e1 e2
    unfold shM
    repeat' first
      | simp -dsimp (disch := omega) only [↓rulesA, rulesB, rulesC, Int.reduceLT, nth, upd, put, storeN, AV.one, Nat.reduceBEq, Nat.reduceBNe, Int.reduceBEq, Int.reduceBNe, Int.reduceLE, Int.reduceEq, Int.reduceMod, Int.reduceNeg, boolBin, strBin, intBin, unA, fillA, ne_eq, reduceCtorEq, Nat.reduceAdd, Nat.reduceSub, Nat.reduceLeDiff, Nat.reduceLT, Nat.reduceEqDiff, Int.reduceToNat, eq_self, rulesT, bne_self_eq_false, mm_min, mm_max, buOf_some, nilCheck_vp, nilCheck_ptr, nilCheck_yld, nilCheck_func, S5, *]
      | (refine allK_intro fun n hn => ?_; try simp only [fresh_set] at hn)
      | (refine ifK_intro (fun h => ?_) (fun h => ?_) <;> (try simp only [decide_eq_true_eq, decide_eq_false_iff_not, Bool.not_eq_true', Bool.not_eq_false'] at h) <;> try (exfalso; (try simp only [beq_iff_eq, beq_eq_false_iff_ne, bne_iff_ne, bne_eq_false_iff_eq, ne_eq] at h); omega))
      | (refine keeps_sub (Mem.sub_set ?_) ?_; focus (simp [Mem.set_at, nomem, *]; done))
    exact Turns.sub (Mem.sub_set (by simp [Mem.set_at, *])) ⟨rfl, rfl⟩
def truncS (s : Sheet) : Sheet := { mk0 s with o := { (mk0 s).o with data := ((mk0 s).o.data ++ zs (s.op.num - (mk0 s).o.data.length)).take s.op.num.toNat } }
theorem mk0_is (s : Sheet) : (mk0 s).op = s.op ∧ (mk0 s).who = s.who ∧ (mk0 s).there = true := by
  unfold mk0
  cases h : s.there
  · exact ⟨rfl, rfl, rfl⟩
  · exact ⟨rfl, rfl, h⟩
theorem mk0_small {s : Sheet} (h : Small s) : Small (mk0 s) := by
  have h1 := h.off
  have h2 := h.num
  have h3 := h.dat
  have h4 := h.old
  unfold mk0
  cases s.there
  · exact ⟨h1, h2, h3, Nat.zero_le _⟩
  · exact ⟨h1, h2, h3, h4⟩
theorem C41 (s : Sheet) (N : Nat) (hs : Small s) : C Try.prog 41 [.ptr N 0] (shM s N) (fun r m' => r = .agg (sizeR (truncS s)).cells ∧ m' = shM (truncS s) N) := by
  have c57 := C57 s N
  obtain ⟨i1, i2, i3⟩ := mk0_is s
  have hs' := mk0_small hs
  have et : truncS s = { mk0 s with o := { (mk0 s).o with data := ((mk0 s).o.data ++ zs ((mk0 s).op.num - (mk0 s).o.data.length)).take (mk0 s).op.num.toNat } } := by rw [i1]; rfl
  rw [et]
  clear et
  refine C.turn (C41_of ?_)
  unfold k41
  unfold shM at c57 ⊢
  repeat' first
    | simp -dsimp (disch := omega) only [↓rulesA, rulesB, rulesC, Int.reduceLT, nth, upd, put, storeN, AV.one, Nat.reduceBEq, Nat.reduceBNe, Int.reduceBEq, Int.reduceBNe, Int.reduceLE, Int.reduceEq, Int.reduceMod, Int.reduceNeg, boolBin, strBin, intBin, unA, fillA, ne_eq, reduceCtorEq, Nat.reduceAdd, Nat.reduceSub, Nat.reduceLeDiff, Nat.reduceLT, Nat.reduceEqDiff, Int.reduceToNat, eq_self, rulesT, bne_self_eq_false, mm_min, mm_max, buOf_some, nilCheck_vp, nilCheck_ptr, nilCheck_yld, nilCheck_func, *]
    | (refine allK_intro fun n hn => ?_; try simp only [fresh_set] at hn)
    | (refine ifK_intro (fun h => ?_) (fun h => ?_) <;> (try simp only [decide_eq_true_eq, decide_eq_false_iff_not, Bool.not_eq_true', Bool.not_eq_false'] at h) <;> try (exfalso; (try simp only [beq_iff_eq, beq_eq_false_iff_ne, bne_iff_ne, bne_eq_false_iff_eq, ne_eq] at h); omega))
    | (refine keeps_sub (Mem.sub_set ?_) ?_; focus (simp [Mem.set_at, nomem, *]; done))
  refine call_obj c57 (by simp [Mem.set_at, *]) fun r m' ⟨g1, g2⟩ => ⟨_, g2, ?_⟩
  subst g1
  clear c57 i1 i2 i3 hs
  generalize mk0 s = q at *
  obtain ⟨o3, o4⟩ := hs'.num
  have o5 := hs'.old
  have f58 := F58 (q.op.num - q.o.data.length) (by omega)
  have z1 := zs_len (q.op.num - q.o.data.length)
  obtain ⟨k, hk⟩ : ∃ k : Nat, q.op.num = k := ⟨q.op.num.toNat, by omega⟩
  have hk' : q.op.num.toNat = k := by omega
  have z4 : (zs (q.op.num - q.o.data.length)).length ≤ 64 := by rw [z1]; omega
  have z5 : k ≤ (q.o.data ++ zs (q.op.num - q.o.data.length)).length := by rw [List.length_append, z1]; omega
  clear z1
  rw [hk']
  generalize zs (q.op.num - q.o.data.length) = Z at *
  have c59 := C59 { q with o := { q.o with data := (q.o.data ++ Z).take k } } N
  unfold shM at c59
  rw [hk] at f58
  repeat' first
    | simp -dsimp (disch := omega) only [↓rulesA, rulesB, rulesC, Int.reduceLT, nth, upd, put, storeN, AV.one, Nat.reduceBEq, Nat.reduceBNe, Int.reduceBEq, Int.reduceBNe, Int.reduceLE, Int.reduceEq, Int.reduceMod, Int.reduceNeg, boolBin, strBin, intBin, unA, fillA, ne_eq, reduceCtorEq, Nat.reduceAdd, Nat.reduceSub, Nat.reduceLeDiff, Nat.reduceLT, Nat.reduceEqDiff, Int.reduceToNat, eq_self, rulesT, bne_self_eq_false, mm_min, mm_max, buOf_some, nilCheck_vp, nilCheck_ptr, nilCheck_yld, nilCheck_func, S1, S5, S10, S11, Slen, Sset1, text_size, mm_min, thi, tlo, text_cat, room1, room2, *]
    | (refine allK_intro fun n hn => ?_; try simp only [fresh_set] at hn)
    | (refine ifK_intro (fun h => ?_) (fun h => ?_) <;> (try simp only [decide_eq_true_eq, decide_eq_false_iff_not, Bool.not_eq_true', Bool.not_eq_false'] at h) <;> try (exfalso; (try simp only [beq_iff_eq, beq_eq_false_iff_ne, bne_iff_ne, bne_eq_false_iff_eq, ne_eq] at h); omega))
    | (refine keeps_sub (Mem.sub_set ?_) ?_; focus (simp [Mem.set_at, nomem, *]; done))
    | (refine keeps_stab ?_ ?_; focus ((repeat' first | exact stabK_nil _ _ | refine stabK_cons ?_ ?_ | (simp (disch := omega) only [quietA, Option.isSome_some, ↓rulesA, rulesB, rulesC, Int.reduceLT, nth, upd, put, storeN, AV.one, Nat.reduceBEq, Nat.reduceBNe, Int.reduceBEq, Int.reduceBNe, Int.reduceLE, Int.reduceEq, Int.reduceMod, Int.reduceNeg, boolBin, strBin, intBin, unA, fillA, ne_eq, reduceCtorEq, Nat.reduceAdd, Nat.reduceSub, Nat.reduceLeDiff, Nat.reduceLT, Nat.reduceEqDiff, Int.reduceToNat, eq_self, rulesT, bne_self_eq_false, mm_min, mm_max, buOf_some, nilCheck_vp, nilCheck_ptr, nilCheck_yld, nilCheck_func, S1, S5, S10, S11, Slen, Sset1, text_size, mm_min, thi, tlo, text_cat, room1, room2, *]; done)); done))
    | (refine call_F (f58) (Seens.refl _ _) ?_)
    | (refine pure_F (f58) (Seens.refl _ _) ?_)
  refine call_obj c59 (by simp [Mem.set_at, *]) fun r m' ⟨g1, g2⟩ => ⟨_, g2, ?_⟩
  subst g1
  repeat' first
    | simp -dsimp (disch := omega) only [↓rulesA, rulesB, rulesC, Int.reduceLT, nth, upd, put, storeN, AV.one, Nat.reduceBEq, Nat.reduceBNe, Int.reduceBEq, Int.reduceBNe, Int.reduceLE, Int.reduceEq, Int.reduceMod, Int.reduceNeg, boolBin, strBin, intBin, unA, fillA, ne_eq, reduceCtorEq, Nat.reduceAdd, Nat.reduceSub, Nat.reduceLeDiff, Nat.reduceLT, Nat.reduceEqDiff, Int.reduceToNat, eq_self, rulesT, bne_self_eq_false, mm_min, mm_max, buOf_some, nilCheck_vp, nilCheck_ptr, nilCheck_yld, nilCheck_func, Res.all, Res.len, Res.take, Res.drop, Res.sall, *]
    | (refine allK_intro fun n hn => ?_; try simp only [fresh_set] at hn)
    | (refine ifK_intro (fun h => ?_) (fun h => ?_) <;> (try simp only [decide_eq_true_eq, decide_eq_false_iff_not, Bool.not_eq_true', Bool.not_eq_false'] at h) <;> try (exfalso; (try simp only [beq_iff_eq, beq_eq_false_iff_ne, bne_iff_ne, bne_eq_false_iff_eq, ne_eq] at h); omega))
    | (refine keeps_sub (Mem.sub_set ?_) ?_; focus (simp [Mem.set_at, nomem, *]; done))
  refine Turns.sub (m' := shM { q with o := { q.o with data := (q.o.data ++ Z).take k } } N) ?_ ⟨rfl, rfl⟩
  unfold shM
  ((repeat' first | exact Mem.sub.refl _ | exact nomem_sub _ | refine Mem.set_sub ?_ ?_ | refine Mem.sub_set_new ?_ ?_ | refine Mem.sub_del ?_ ?_) <;> simp [Mem.set_at, Mem.del_at, nomem, *])
def oldS (s : Sheet) : List UInt8 := s.o.data ++ zs (s.op.off - s.o.data.length)
def wEnd (s : Sheet) : Nat := s.op.off.toNat + s.op.data.length
def writeData (s : Sheet) : List UInt8 := (oldS s).take s.op.off.toNat ++ s.op.data ++ (oldS s).drop (wEnd s)
def writeS (s : Sheet) : Sheet := if 64 < wEnd s then s else { mk0 s with o := { (mk0 s).o with data := writeData (mk0 s) } }
def writeR (s : Sheet) : Res := if 64 < wEnd s then errR 28 else sizeR (writeS s)
theorem C39 (s : Sheet) (N : Nat) (hs : Small s) : C Try.prog 39 [.ptr N 0] (shM s N) (fun r m' => r = .agg (writeR s).cells ∧ m' = shM (writeS s) N) := by
  have c57 := C57 s N
  obtain ⟨i1, i2, i3⟩ := mk0_is s
  have hs' := mk0_small hs
  obtain ⟨o1, o2⟩ := hs.off
  have o3 := hs.dat
  obtain ⟨k, hk⟩ : ∃ k : Nat, s.op.off = k := ⟨s.op.off.toNat, by omega⟩
  have hw : wEnd s = k + s.op.data.length := by unfold wEnd; rw [hk]; rfl
  refine C.turn (C39_of ?_)
  unfold k39
  by_cases hend : 64 < wEnd s
  · have e1 : writeR s = errR 28 := if_pos hend
    have e2 : writeS s = s := if_pos hend
    rw [e1, e2]
    rw [hw] at hend
    clear e1 e2 c57 i1 i2 i3 hs' hw
    unfold shM
    repeat' first
      | simp -dsimp (disch := omega) only [↓rulesA, rulesB, rulesC, Int.reduceLT, nth, upd, put, storeN, AV.one, Nat.reduceBEq, Nat.reduceBNe, Int.reduceBEq, Int.reduceBNe, Int.reduceLE, Int.reduceEq, Int.reduceMod, Int.reduceNeg, boolBin, strBin, intBin, unA, fillA, ne_eq, reduceCtorEq, Nat.reduceAdd, Nat.reduceSub, Nat.reduceLeDiff, Nat.reduceLT, Nat.reduceEqDiff, Int.reduceToNat, eq_self, rulesT, bne_self_eq_false, mm_min, mm_max, buOf_some, nilCheck_vp, nilCheck_ptr, nilCheck_yld, nilCheck_func, S10, S12, Slen, text_size, *]
      | (refine allK_intro fun n hn => ?_; try simp only [fresh_set] at hn)
      | (refine ifK_intro (fun h => ?_) (fun h => ?_) <;> (try simp only [decide_eq_true_eq, decide_eq_false_iff_not, Bool.not_eq_true', Bool.not_eq_false'] at h) <;> try (exfalso; (try simp only [beq_iff_eq, beq_eq_false_iff_ne, bne_iff_ne, bne_eq_false_iff_eq, ne_eq] at h); omega))
      | (refine keeps_sub (Mem.sub_set ?_) ?_; focus (simp [Mem.set_at, nomem, *]; done))
    exact Turns.sub (Mem.sub_set (by simp [Mem.set_at, *])) ⟨rfl, rfl⟩
  · have e1 : writeR s = sizeR (writeS s) := if_neg hend
    have e2 : writeS s = { mk0 s with o := { (mk0 s).o with data := writeData (mk0 s) } } := if_neg hend
    rw [e1, e2]
    rw [hw] at hend
    clear e1 e2 i3 hw
    unfold shM at c57 ⊢
    clear i2
    generalize mk0 s = q at *
    have hwd : Kept (writeData q = ((q.o.data ++ zs ((k : Int) - q.o.data.length)).take k ++ s.op.data ++ (q.o.data ++ zs ((k : Int) - q.o.data.length)).drop (k + s.op.data.length))) := by
      show _ = _
      unfold writeData oldS wEnd; rw [i1, hk]; rfl
    have z1 := zs_len ((k : Int) - q.o.data.length)
    have o4 := hs'.old
    have f58 := F58 ((k : Int) - q.o.data.length) (by omega)
    generalize zs ((k : Int) - q.o.data.length) = Z at *
    have z2 : k ≤ (q.o.data ++ Z).length := by rw [List.length_append, z1]; omega
    have z3 : (q.o.data ++ Z).length ≤ 128 := by rw [List.length_append, z1]; omega
    have z4 : Z.length ≤ 64 := by rw [z1]; omega
    clear z1 hs' hs
    repeat' first
      | simp -dsimp (disch := omega) only [↓rulesA, rulesB, rulesC, Int.reduceLT, nth, upd, put, storeN, AV.one, Nat.reduceBEq, Nat.reduceBNe, Int.reduceBEq, Int.reduceBNe, Int.reduceLE, Int.reduceEq, Int.reduceMod, Int.reduceNeg, boolBin, strBin, intBin, unA, fillA, ne_eq, reduceCtorEq, Nat.reduceAdd, Nat.reduceSub, Nat.reduceLeDiff, Nat.reduceLT, Nat.reduceEqDiff, Int.reduceToNat, eq_self, rulesT, bne_self_eq_false, mm_min, mm_max, buOf_some, nilCheck_vp, nilCheck_ptr, nilCheck_yld, nilCheck_func, S10, S12, Slen, text_size, *]
      | (refine allK_intro fun n hn => ?_; try simp only [fresh_set] at hn)
      | (refine ifK_intro (fun h => ?_) (fun h => ?_) <;> (try simp only [decide_eq_true_eq, decide_eq_false_iff_not, Bool.not_eq_true', Bool.not_eq_false'] at h) <;> try (exfalso; (try simp only [beq_iff_eq, beq_eq_false_iff_ne, bne_iff_ne, bne_eq_false_iff_eq, ne_eq] at h); omega))
      | (refine keeps_sub (Mem.sub_set ?_) ?_; focus (simp [Mem.set_at, nomem, *]; done))
    refine call_obj c57 (by simp [Mem.set_at, *]) fun r m' ⟨g1, g2⟩ => ⟨_, g2, ?_⟩
    subst g1
    have z5 : ((q.o.data ++ Z).take k).length ≤ 64 := by rw [List.length_take]; omega
    have z6 : ((q.o.data ++ Z).take k ++ s.op.data).length ≤ 128 := by rw [List.length_append]; omega
    have z7 : ((q.o.data ++ Z).drop (k + s.op.data.length)).length ≤ 128 := by rw [List.length_drop]; omega
    have z8 : ¬ k + s.op.data.length < (q.o.data ++ Z).length → (q.o.data ++ Z).drop (k + s.op.data.length) = [] := fun h => List.drop_of_length_le (by omega)
    replace z8 : Kept _ := z8
    repeat' first
      | simp -dsimp (disch := omega) only [↓rulesA, rulesB, rulesC, Int.reduceLT, nth, upd, put, storeN, AV.one, Nat.reduceBEq, Nat.reduceBNe, Int.reduceBEq, Int.reduceBNe, Int.reduceLE, Int.reduceEq, Int.reduceMod, Int.reduceNeg, boolBin, strBin, intBin, unA, fillA, ne_eq, reduceCtorEq, Nat.reduceAdd, Nat.reduceSub, Nat.reduceLeDiff, Nat.reduceLT, Nat.reduceEqDiff, Int.reduceToNat, eq_self, rulesT, bne_self_eq_false, mm_min, mm_max, buOf_some, nilCheck_vp, nilCheck_ptr, nilCheck_yld, nilCheck_func, S1, S5, S10, S12, Slen, Sset1, text_size, text_cat, room1, room2, thi, tlo2, *]
      | (refine allK_intro fun n hn => ?_; try simp only [fresh_set] at hn)
      | (refine ifK_intro (fun h => ?_) (fun h => ?_) <;> (try simp only [decide_eq_true_eq, decide_eq_false_iff_not, Bool.not_eq_true', Bool.not_eq_false'] at h) <;> try (exfalso; (try simp only [beq_iff_eq, beq_eq_false_iff_ne, bne_iff_ne, bne_eq_false_iff_eq, ne_eq] at h); omega))
      | (refine keeps_sub (Mem.sub_set ?_) ?_; focus (simp [Mem.set_at, nomem, *]; done))
      | (refine keeps_stab ?_ ?_; focus ((repeat' first | exact stabK_nil _ _ | refine stabK_cons ?_ ?_ | (simp (disch := omega) only [quietA, Option.isSome_some, ↓rulesA, rulesB, rulesC, Int.reduceLT, nth, upd, put, storeN, AV.one, Nat.reduceBEq, Nat.reduceBNe, Int.reduceBEq, Int.reduceBNe, Int.reduceLE, Int.reduceEq, Int.reduceMod, Int.reduceNeg, boolBin, strBin, intBin, unA, fillA, ne_eq, reduceCtorEq, Nat.reduceAdd, Nat.reduceSub, Nat.reduceLeDiff, Nat.reduceLT, Nat.reduceEqDiff, Int.reduceToNat, eq_self, rulesT, bne_self_eq_false, mm_min, mm_max, buOf_some, nilCheck_vp, nilCheck_ptr, nilCheck_yld, nilCheck_func, S1, S5, S10, S12, Slen, Sset1, text_size, text_cat, room1, room2, thi, tlo2, *]; done)); done))
      | (refine call_F (f58) (Seens.refl _ _) ?_)
      | (refine pure_F (f58) (Seens.refl _ _) ?_)
    · have c59 := C59 ⟨⟨q.o.name, (q.o.data ++ Z).take k ++ s.op.data ++ (q.o.data ++ Z).drop (k + s.op.data.length), q.o.locked, q.o.client, q.o.inst⟩, q.there, q.who, s.op⟩ N
      unfold shM at c59
      have hwd2 : writeData q = (q.o.data ++ Z).take k ++ s.op.data ++ (q.o.data ++ Z).drop (k + s.op.data.length) := by rw [(hwd : _ = _)]
      clear hwd
      refine call_obj c59 (by simp [Mem.set_at, *]) fun r m' ⟨g1, g2⟩ => ⟨_, g2, ?_⟩
      subst g1
      replace hwd2 : Kept _ := hwd2
      repeat' first
        | simp -dsimp (disch := omega) only [↓rulesA, rulesB, rulesC, Int.reduceLT, nth, upd, put, storeN, AV.one, Nat.reduceBEq, Nat.reduceBNe, Int.reduceBEq, Int.reduceBNe, Int.reduceLE, Int.reduceEq, Int.reduceMod, Int.reduceNeg, boolBin, strBin, intBin, unA, fillA, ne_eq, reduceCtorEq, Nat.reduceAdd, Nat.reduceSub, Nat.reduceLeDiff, Nat.reduceLT, Nat.reduceEqDiff, Int.reduceToNat, eq_self, rulesT, bne_self_eq_false, mm_min, mm_max, buOf_some, nilCheck_vp, nilCheck_ptr, nilCheck_yld, nilCheck_func, Res.all, Res.len, Res.take, Res.drop, Res.sall, *]
        | (refine allK_intro fun n hn => ?_; try simp only [fresh_set] at hn)
        | (refine ifK_intro (fun h => ?_) (fun h => ?_) <;> (try simp only [decide_eq_true_eq, decide_eq_false_iff_not, Bool.not_eq_true', Bool.not_eq_false'] at h) <;> try (exfalso; (try simp only [beq_iff_eq, beq_eq_false_iff_ne, bne_iff_ne, bne_eq_false_iff_eq, ne_eq] at h); omega))
        | (refine keeps_sub (Mem.sub_set ?_) ?_; focus (simp [Mem.set_at, nomem, *]; done))
      refine Turns.sub (m' := shM ⟨⟨q.o.name, (q.o.data ++ Z).take k ++ s.op.data ++ (q.o.data ++ Z).drop (k + s.op.data.length), q.o.locked, q.o.client, q.o.inst⟩, q.there, q.who, s.op⟩ N) ?_ ⟨by rw [(hwd2 : _ = _)], by rw [(hwd2 : _ = _)]; rfl⟩
      unfold shM
      ((repeat' first | exact Mem.sub.refl _ | exact nomem_sub _ | refine Mem.set_sub ?_ ?_ | refine Mem.sub_set_new ?_ ?_ | refine Mem.sub_del ?_ ?_) <;> simp [Mem.set_at, Mem.del_at, nomem, *])
    · have c59 := C59 ⟨⟨q.o.name, (q.o.data ++ Z).take k ++ s.op.data, q.o.locked, q.o.client, q.o.inst⟩, q.there, q.who, s.op⟩ N
      unfold shM at c59
      have hwd2 : writeData q = (q.o.data ++ Z).take k ++ s.op.data := by rw [(hwd : _ = _), (z8 : _ → _) (by omega), List.append_nil]
      clear hwd
      refine call_obj c59 (by simp [Mem.set_at, *]) fun r m' ⟨g1, g2⟩ => ⟨_, g2, ?_⟩
      subst g1
      replace hwd2 : Kept _ := hwd2
      repeat' first
        | simp -dsimp (disch := omega) only [↓rulesA, rulesB, rulesC, Int.reduceLT, nth, upd, put, storeN, AV.one, Nat.reduceBEq, Nat.reduceBNe, Int.reduceBEq, Int.reduceBNe, Int.reduceLE, Int.reduceEq, Int.reduceMod, Int.reduceNeg, boolBin, strBin, intBin, unA, fillA, ne_eq, reduceCtorEq, Nat.reduceAdd, Nat.reduceSub, Nat.reduceLeDiff, Nat.reduceLT, Nat.reduceEqDiff, Int.reduceToNat, eq_self, rulesT, bne_self_eq_false, mm_min, mm_max, buOf_some, nilCheck_vp, nilCheck_ptr, nilCheck_yld, nilCheck_func, Res.all, Res.len, Res.take, Res.drop, Res.sall, *]
        | (refine allK_intro fun n hn => ?_; try simp only [fresh_set] at hn)
        | (refine ifK_intro (fun h => ?_) (fun h => ?_) <;> (try simp only [decide_eq_true_eq, decide_eq_false_iff_not, Bool.not_eq_true', Bool.not_eq_false'] at h) <;> try (exfalso; (try simp only [beq_iff_eq, beq_eq_false_iff_ne, bne_iff_ne, bne_eq_false_iff_eq, ne_eq] at h); omega))
        | (refine keeps_sub (Mem.sub_set ?_) ?_; focus (simp [Mem.set_at, nomem, *]; done))
      refine Turns.sub (m' := shM ⟨⟨q.o.name, (q.o.data ++ Z).take k ++ s.op.data, q.o.locked, q.o.client, q.o.inst⟩, q.there, q.who, s.op⟩ N) ?_ ⟨by rw [(hwd2 : _ = _)], by rw [(hwd2 : _ = _)]; rfl⟩
      unfold shM
      ((repeat' first | exact Mem.sub.refl _ | exact nomem_sub _ | refine Mem.set_sub ?_ ?_ | refine Mem.sub_set_new ?_ ?_ | refine Mem.sub_del ?_ ?_) <;> simp [Mem.set_at, Mem.del_at, nomem, *])
end Go.Proofs.Ytanfgfclpjmngaa

set_option maxRecDepth 100000
set_option maxHeartbeats 1000000
set_option linter.unusedSimpArgs false
set_option linter.unusedVariables false
namespace Go.Proofs.Ytanfgfclpjmngaa
open Go.Abs
attribute [local irreducible] C X CC Y CV CW binK litK AppK PureC PureCV againK loopV rangeV allK ifK got onB condK V stepsK planK opK firstK seeE keepsK
def three (a b c : Option AV) : Option AV := match a, b, c with
  | some a, some b, some c => some (.tup [a, b, c])
  | _, _, _ => none
theorem three_some (a b c : AV) : three (some a) (some b) (some c) = some (.tup [a, b, c]) := Eq.trans rfl rfl
theorem resL_three (P : Program) (m : Mem) (env : List AV) (x y z : ResultVar) : resL P m env [x, y, z] = three (resOne P m env x) (resOne P m env y) (resOne P m env z) := by
  simp only [resL, List.mapM_cons, List.mapM_nil, three]
  cases resOne P m env x <;> cases resOne P m env y <;> cases resOne P m env z <;> rfl
def noObj : Obj := ⟨[], [], false, 0, 0⟩
def sheetOf (o : Obj) (there : Bool) (who : Ban) (op : Opr) : Sheet := ⟨if there then o else noObj, there, who, op⟩
def actR (s : Sheet) : Res := if s.op.kind = 1 then writeR s else if s.op.kind = 2 then zeroR s else if s.op.kind = 3 then sizeR (truncS s) else if s.op.kind = 4 then errR (if s.there then 0 else 24) else if s.op.kind = 5 then readR s
  else if s.op.kind = 6 then (if s.there then sizeR s else errR 24) else if s.op.kind = 7 then lockR s else if s.op.kind = 8 then freeR s s.who else if s.op.kind = 9 then freeR s ⟨s.op.num, s.op.off⟩ else errR 0
def actS (s : Sheet) : Sheet := if s.op.kind = 1 then writeS s else if s.op.kind = 2 then zeroS s else if s.op.kind = 3 then truncS s else if s.op.kind = 4 then { s with there := false } else if s.op.kind = 5 then s
  else if s.op.kind = 6 then s else if s.op.kind = 7 then lockS s else if s.op.kind = 8 then freeS s s.who else if s.op.kind = 9 then freeS s ⟨s.op.num, s.op.off⟩ else s
def doOk (who : Ban) (op : Opr) : Bool := opOk op && whoB who
def doS (o : Obj) (there : Bool) (who : Ban) (op : Opr) : Sheet := if doOk who op then actS (sheetOf o there who op) else sheetOf o there who op
def doR (o : Obj) (there : Bool) (who : Ban) (op : Opr) : Res := if doOk who op then actR (sheetOf o there who op) else errR 27
def outO (s : Sheet) : Obj := if s.there then s.o else noObj
theorem op_small {op : Opr} (h : opOk op = true) (hk : op.kind = 1 ∨ op.kind = 2 ∨ op.kind = 3 ∨ op.kind = 5) : (0 ≤ op.off ∧ op.off ≤ 64) ∧ (0 ≤ op.num ∧ op.num ≤ 64) ∧ op.data.length ≤ 64 := by
  unfold opOk noTxt smallB at h
  rcases hk with e | e | e | e <;> simp [e] at h
  · exact ⟨⟨h.1.1.2.1, h.1.1.2.2⟩, by omega, h.1.2⟩
  · obtain ⟨⟨⟨_, h1⟩, h2⟩, h3⟩ := h
    exact ⟨h1, h2, by rw [h3]; exact Nat.zero_le _⟩
  · obtain ⟨⟨⟨_, h1⟩, h2⟩, h3⟩ := h
    exact ⟨by omega, h1, by rw [h3]; exact Nat.zero_le _⟩
  · obtain ⟨⟨⟨_, h1⟩, h2⟩, h3⟩ := h
    exact ⟨h1, h2, by rw [h3]; exact Nat.zero_le _⟩
theorem op_kind {op : Opr} (h : opOk op = true) : op.kind = 1 ∨ op.kind = 2 ∨ op.kind = 3 ∨ op.kind = 4 ∨ op.kind = 5 ∨ op.kind = 6 ∨ op.kind = 7 ∨ op.kind = 8 ∨ op.kind = 9 ∨ op.kind = 10 := by
  unfold opOk at h
  grind
theorem tkw (who : Ban) (X : List AV) : List.take 2 (who.cells ++ X) = who.cells := rfl
theorem dpw (who : Ban) (a b c d e : AV) : List.drop 7 (who.cells ++ [a, b, c, d, e]) = [] := rfl
theorem lnw (who : Ban) (a b c d e : AV) : (7 ≤ (who.cells ++ [a, b, c, d, e]).length) = True := eq_true (by show 7 ≤ 7; omega)
theorem alw (who : Ban) (op : Opr) : (who.cells ++ op.cells).all AV.one = true := rfl
theorem Sall (s : Sheet) : s.cells.all AV.one = true := rfl
theorem shc (who : Ban) (op : Opr) : AV.val (.string ⟨#[]⟩) :: AV.val (.string ⟨#[]⟩) :: AV.val (.bool false) :: AV.val (.int .i64 0) :: AV.val (.int .i64 0) :: AV.val (.bool false) :: (who.cells ++ op.cells) = Sheet.cells ⟨noObj, false, who, op⟩ := rfl
def fnRow (N : Nat) : List AV := [.val .nilFunc, .fn (.func 39) [.ptr N 0] [], .fn (.func 40) [.ptr N 0] [], .fn (.func 41) [.ptr N 0] [], .fn (.func 42) [.ptr N 0] [], .fn (.func 43) [.ptr N 0] [], .fn (.func 44) [.ptr N 0] [], .fn (.func 45) [.ptr N 0] [], .fn (.func 46) [.ptr N 0] [], .fn (.func 47) [.ptr N 0] [], .fn (.func 48) [.ptr N 0] []]
theorem lit_64 (N : Nat) : litA Try.prog 64 11 [(0, .val .nilFunc), (1, .fn (.func 39) [.ptr N 0] []), (2, .fn (.func 40) [.ptr N 0] []), (3, .fn (.func 41) [.ptr N 0] []), (4, .fn (.func 42) [.ptr N 0] []), (5, .fn (.func 43) [.ptr N 0] []), (6, .fn (.func 44) [.ptr N 0] []), (7, .fn (.func 45) [.ptr N 0] []), (8, .fn (.func 46) [.ptr N 0] []), (9, .fn (.func 47) [.ptr N 0] []), (10, .fn (.func 48) [.ptr N 0] [])] = some (63, 1, fnRow N) := by
  simp only [litA, ti_64, ti_63, z_63, fillA, List.replicate, List.flatten_cons, List.flatten_nil, List.append_nil, List.cons_append, List.nil_append]
  kernel_rfl
theorem A1 (s : Sheet) (N : Nat) (hk : s.op.kind = 1) (hs : Small s) : C Try.prog 39 [.ptr N 0] (shM s N) (fun r m' => r = .agg (actR s).cells ∧ m' = shM (actS s) N) := by
  have h := C39 s N hs
  have e1 : actR s = writeR s := by simp [actR, hk]
  have e2 : actS s = writeS s := by simp [actS, hk]
  rw [e1, e2]; exact h
theorem ix1 (N : Nat) : indexAddrA Try.prog 64 (.vs (chunk 1 11 (fnRow N)) true) (.val (.int .i64 1)) = some (.vp [.fn (.func 39) [.ptr N 0] []] 0) := by kernel_rfl
theorem A2 (s : Sheet) (N : Nat) (hk : s.op.kind = 2) (hs : Small s) : C Try.prog 40 [.ptr N 0] (shM s N) (fun r m' => r = .agg (actR s).cells ∧ m' = shM (actS s) N) := by
  have h := C40 s N hs
  have e1 : actR s = zeroR s := by simp [actR, hk]
  have e2 : actS s = zeroS s := by simp [actS, hk]
  rw [e1, e2]; exact h
theorem ix2 (N : Nat) : indexAddrA Try.prog 64 (.vs (chunk 1 11 (fnRow N)) true) (.val (.int .i64 2)) = some (.vp [.fn (.func 40) [.ptr N 0] []] 0) := by kernel_rfl
theorem A3 (s : Sheet) (N : Nat) (hk : s.op.kind = 3) (hs : Small s) : C Try.prog 41 [.ptr N 0] (shM s N) (fun r m' => r = .agg (actR s).cells ∧ m' = shM (actS s) N) := by
  have h := C41 s N hs
  have e1 : actR s = sizeR (truncS s) := by simp [actR, hk]
  have e2 : actS s = truncS s := by simp [actS, hk]
  rw [e1, e2]; exact h
theorem ix3 (N : Nat) : indexAddrA Try.prog 64 (.vs (chunk 1 11 (fnRow N)) true) (.val (.int .i64 3)) = some (.vp [.fn (.func 41) [.ptr N 0] []] 0) := by kernel_rfl
theorem A4 (s : Sheet) (N : Nat) (hk : s.op.kind = 4) : C Try.prog 42 [.ptr N 0] (shM s N) (fun r m' => r = .agg (actR s).cells ∧ m' = shM (actS s) N) := by
  have h := C42 s N
  have e1 : actR s = errR (if s.there then 0 else 24) := by simp [actR, hk]
  have e2 : actS s = { s with there := false } := by simp [actS, hk]
  rw [e1, e2]; exact h
theorem ix4 (N : Nat) : indexAddrA Try.prog 64 (.vs (chunk 1 11 (fnRow N)) true) (.val (.int .i64 4)) = some (.vp [.fn (.func 42) [.ptr N 0] []] 0) := by kernel_rfl
theorem A5 (s : Sheet) (N : Nat) (hk : s.op.kind = 5) (hs : Small s) : C Try.prog 43 [.ptr N 0] (shM s N) (fun r m' => r = .agg (actR s).cells ∧ m' = shM (actS s) N) := by
  have h := C43 s N hs
  have e1 : actR s = readR s := by simp [actR, hk]
  have e2 : actS s = s := by simp [actS, hk]
  rw [e1, e2]; exact h
theorem ix5 (N : Nat) : indexAddrA Try.prog 64 (.vs (chunk 1 11 (fnRow N)) true) (.val (.int .i64 5)) = some (.vp [.fn (.func 43) [.ptr N 0] []] 0) := by kernel_rfl
theorem A6 (s : Sheet) (N : Nat) (hk : s.op.kind = 6) : C Try.prog 44 [.ptr N 0] (shM s N) (fun r m' => r = .agg (actR s).cells ∧ m' = shM (actS s) N) := by
  have h := C44 s N
  have e1 : actR s = (if s.there then sizeR s else errR 24) := by simp [actR, hk]
  have e2 : actS s = s := by simp [actS, hk]
  rw [e1, e2]; exact h
theorem ix6 (N : Nat) : indexAddrA Try.prog 64 (.vs (chunk 1 11 (fnRow N)) true) (.val (.int .i64 6)) = some (.vp [.fn (.func 44) [.ptr N 0] []] 0) := by kernel_rfl
theorem A7 (s : Sheet) (N : Nat) (hk : s.op.kind = 7) : C Try.prog 45 [.ptr N 0] (shM s N) (fun r m' => r = .agg (actR s).cells ∧ m' = shM (actS s) N) := by
  have h := C45 s N
  have e1 : actR s = lockR s := by simp [actR, hk]
  have e2 : actS s = lockS s := by simp [actS, hk]
  rw [e1, e2]; exact h
theorem ix7 (N : Nat) : indexAddrA Try.prog 64 (.vs (chunk 1 11 (fnRow N)) true) (.val (.int .i64 7)) = some (.vp [.fn (.func 45) [.ptr N 0] []] 0) := by kernel_rfl
theorem A8 (s : Sheet) (N : Nat) (hk : s.op.kind = 8) : C Try.prog 46 [.ptr N 0] (shM s N) (fun r m' => r = .agg (actR s).cells ∧ m' = shM (actS s) N) := by
  have h := C46 s N
  have e1 : actR s = freeR s s.who := by simp [actR, hk]
  have e2 : actS s = freeS s s.who := by simp [actS, hk]
  rw [e1, e2]; exact h
theorem ix8 (N : Nat) : indexAddrA Try.prog 64 (.vs (chunk 1 11 (fnRow N)) true) (.val (.int .i64 8)) = some (.vp [.fn (.func 46) [.ptr N 0] []] 0) := by kernel_rfl
theorem A9 (s : Sheet) (N : Nat) (hk : s.op.kind = 9) : C Try.prog 47 [.ptr N 0] (shM s N) (fun r m' => r = .agg (actR s).cells ∧ m' = shM (actS s) N) := by
  have h := C47 s N
  have e1 : actR s = freeR s ⟨s.op.num, s.op.off⟩ := by simp [actR, hk]
  have e2 : actS s = freeS s ⟨s.op.num, s.op.off⟩ := by simp [actS, hk]
  rw [e1, e2]; exact h
theorem ix9 (N : Nat) : indexAddrA Try.prog 64 (.vs (chunk 1 11 (fnRow N)) true) (.val (.int .i64 9)) = some (.vp [.fn (.func 47) [.ptr N 0] []] 0) := by kernel_rfl
theorem A10 (s : Sheet) (N : Nat) (hk : s.op.kind = 10) : C Try.prog 48 [.ptr N 0] (shM s N) (fun r m' => r = .agg (actR s).cells ∧ m' = shM (actS s) N) := by
  have h := C48 s N
  have e1 : actR s = errR 0 := by simp [actR, hk]
  have e2 : actS s = s := by simp [actS, hk]
  rw [e1, e2]; exact h
theorem ix10 (N : Nat) : indexAddrA Try.prog 64 (.vs (chunk 1 11 (fnRow N)) true) (.val (.int .i64 10)) = some (.vp [.fn (.func 48) [.ptr N 0] []] 0) := by kernel_rfl
theorem F24 (o : Obj) (there : Bool) (who : Ban) (op : Opr) (hop : op.ok) (hd : there = true → o.data.length ≤ 64) : F Try.prog 24 [.agg o.cells, .val (.bool there), .agg who.cells, .agg op.cells] (.tup [.agg (outO (doS o there who op)).cells, .val (.bool (doS o there who op).there), .agg (doR o there who op).cells]) := by
  have f10 := F10 op hop
  have f31 := F31 who
  refine F24_of ?_
  unfold k24
  have hsm : opOk op = true → (op.kind = 1 ∨ op.kind = 2 ∨ op.kind = 3 ∨ op.kind = 5) → Small (sheetOf o there who op) := fun h1 h2 => by
    obtain ⟨q1, q2, q3⟩ := op_small h1 h2
    refine ⟨q1, q2, q3, ?_⟩
    unfold sheetOf
    cases there
    · exact Nat.zero_le _
    · exact hd rfl
  have hz : noObj.cells = [AV.val (.string ⟨#[]⟩), .val (.string ⟨#[]⟩), .val (.bool false), .val (.int .i64 0), .val (.int .i64 0)] := rfl
  replace hz : Kept _ := hz
  replace hsm : Kept _ := hsm
  rcases there
  all_goals
    repeat' first
      | simp -dsimp (disch := omega) only [↓rulesA, rulesB, rulesC, Int.reduceLT, nth, upd, put, storeN, AV.one, Nat.reduceBEq, Nat.reduceBNe, Int.reduceBEq, Int.reduceBNe, Int.reduceLE, Int.reduceEq, Int.reduceMod, Int.reduceNeg, boolBin, strBin, intBin, unA, fillA, ne_eq, reduceCtorEq, Nat.reduceAdd, Nat.reduceSub, Nat.reduceLeDiff, Nat.reduceLT, Nat.reduceEqDiff, Int.reduceToNat, eq_self, rulesT, bne_self_eq_false, mm_min, mm_max, buOf_some, nilCheck_vp, nilCheck_ptr, nilCheck_yld, nilCheck_func, resL_three, three_some, Obj.all, Obj.len, Obj.take, Obj.drop, Ban.all, Ban.len, Ban.take, Opr.all, Opr.len, Opr.take, tkw, dpw, lnw, alw, shc, Sall, Sset0o, Sset5, Slen, mkFnA, staticFn, S5, Sobj, *]
      | (refine allK_intro fun n hn => ?_; try simp only [fresh_set] at hn)
      | (refine ifK_intro (fun h => ?_) (fun h => ?_) <;> (try simp only [decide_eq_true_eq, decide_eq_false_iff_not, Bool.not_eq_true', Bool.not_eq_false'] at h) <;> try (exfalso; (try simp only [beq_iff_eq, beq_eq_false_iff_ne, bne_iff_ne, bne_eq_false_iff_eq, ne_eq] at h); omega))
      | (refine keeps_sub (Mem.sub_set ?_) ?_; focus (simp [Mem.set_at, nomem, *]; done))
      | (refine keeps_stab ?_ ?_; focus ((repeat' first | exact stabK_nil _ _ | refine stabK_cons ?_ ?_ | (simp (disch := omega) only [quietA, Option.isSome_some, ↓rulesA, rulesB, rulesC, Int.reduceLT, nth, upd, put, storeN, AV.one, Nat.reduceBEq, Nat.reduceBNe, Int.reduceBEq, Int.reduceBNe, Int.reduceLE, Int.reduceEq, Int.reduceMod, Int.reduceNeg, boolBin, strBin, intBin, unA, fillA, ne_eq, reduceCtorEq, Nat.reduceAdd, Nat.reduceSub, Nat.reduceLeDiff, Nat.reduceLT, Nat.reduceEqDiff, Int.reduceToNat, eq_self, rulesT, bne_self_eq_false, mm_min, mm_max, buOf_some, nilCheck_vp, nilCheck_ptr, nilCheck_yld, nilCheck_func, resL_three, three_some, Obj.all, Obj.len, Obj.take, Obj.drop, Ban.all, Ban.len, Ban.take, Opr.all, Opr.len, Opr.take, tkw, dpw, lnw, alw, shc, Sall, Sset0o, Sset5, Slen, mkFnA, staticFn, S5, Sobj, *]; done)); done))
      | (refine call_F (f10) (Seens.refl _ _) ?_)
      | (refine pure_F (f10) (Seens.refl _ _) ?_)
      | (refine call_F (f31) (Seens.refl _ _) ?_)
      | (refine pure_F (f31) (Seens.refl _ _) ?_)
  · refine lit_vs (lit_64 _) rfl ?_
    have hok : opOk op = true := by assumption
    have hdo : doOk who op = true := by unfold doOk; simp_all
    have eS : doS o false who op = actS (sheetOf o false who op) := if_pos hdo
    have eR : doR o false who op = actR (sheetOf o false who op) := if_pos hdo
    rw [eS, eR]
    have hks := op_kind hok
    clear eS eR hdo
    have hes : sheetOf o false who op = ⟨noObj, false, who, op⟩ := rfl
    rw [hes]
    have hsm' : (op.kind = 1 ∨ op.kind = 2 ∨ op.kind = 3 ∨ op.kind = 5) → Small ⟨noObj, false, who, op⟩ := (hsm : _ → _) hok
    replace hsm' : Kept _ := hsm'
    clear hes hsm
    rcases hks with hk | hk | hk | hk | hk | hk | hk | hk | hk | hk
    · repeat' first
        | simp -dsimp (disch := omega) only [↓rulesA, rulesB, rulesC, Int.reduceLT, nth, upd, put, storeN, AV.one, Nat.reduceBEq, Nat.reduceBNe, Int.reduceBEq, Int.reduceBNe, Int.reduceLE, Int.reduceEq, Int.reduceMod, Int.reduceNeg, boolBin, strBin, intBin, unA, fillA, ne_eq, reduceCtorEq, Nat.reduceAdd, Nat.reduceSub, Nat.reduceLeDiff, Nat.reduceLT, Nat.reduceEqDiff, Int.reduceToNat, eq_self, rulesT, bne_self_eq_false, mm_min, mm_max, buOf_some, nilCheck_vp, nilCheck_ptr, nilCheck_yld, nilCheck_func, Opr.g0, Opr.len, hk, ix1, *]
        | (refine allK_intro fun n hn => ?_; try simp only [fresh_set] at hn)
        | (refine ifK_intro (fun h => ?_) (fun h => ?_) <;> (try simp only [decide_eq_true_eq, decide_eq_false_iff_not, Bool.not_eq_true', Bool.not_eq_false'] at h) <;> try (exfalso; (try simp only [beq_iff_eq, beq_eq_false_iff_ne, bne_iff_ne, bne_eq_false_iff_eq, ne_eq] at h); omega))
        | (refine keeps_sub (Mem.sub_set ?_) ?_; focus (simp [Mem.set_at, nomem, *]; done))
        | (refine keeps_stab ?_ ?_; focus ((repeat' first | exact stabK_nil _ _ | refine stabK_cons ?_ ?_ | (simp (disch := omega) only [quietA, Option.isSome_some, ↓rulesA, rulesB, rulesC, Int.reduceLT, nth, upd, put, storeN, AV.one, Nat.reduceBEq, Nat.reduceBNe, Int.reduceBEq, Int.reduceBNe, Int.reduceLE, Int.reduceEq, Int.reduceMod, Int.reduceNeg, boolBin, strBin, intBin, unA, fillA, ne_eq, reduceCtorEq, Nat.reduceAdd, Nat.reduceSub, Nat.reduceLeDiff, Nat.reduceLT, Nat.reduceEqDiff, Int.reduceToNat, eq_self, rulesT, bne_self_eq_false, mm_min, mm_max, buOf_some, nilCheck_vp, nilCheck_ptr, nilCheck_yld, nilCheck_func, Opr.g0, Opr.len, hk, ix1, *]; done)); done))
      refine call_obj (A1 ⟨noObj, false, who, op⟩ _ hk ((hsm' : _ → _) (.inl hk))) (by simp [Mem.set_at, *]) fun r m' ⟨g1, g2⟩ => ⟨_, g2, ?_⟩
      subst g1
      generalize actS ⟨noObj, false, who, op⟩ = q at *
      generalize actR ⟨noObj, false, who, op⟩ = R at *
      repeat' first
        | simp -dsimp (disch := omega) only [↓rulesA, rulesB, rulesC, Int.reduceLT, nth, upd, put, storeN, AV.one, Nat.reduceBEq, Nat.reduceBNe, Int.reduceBEq, Int.reduceBNe, Int.reduceLE, Int.reduceEq, Int.reduceMod, Int.reduceNeg, boolBin, strBin, intBin, unA, fillA, ne_eq, reduceCtorEq, Nat.reduceAdd, Nat.reduceSub, Nat.reduceLeDiff, Nat.reduceLT, Nat.reduceEqDiff, Int.reduceToNat, eq_self, rulesT, bne_self_eq_false, mm_min, mm_max, buOf_some, nilCheck_vp, nilCheck_ptr, nilCheck_yld, nilCheck_func, S5, Sobj, Slen, Obj.all, Obj.len, Obj.take, Res.all, Res.len, Res.take, Res.drop, Res.sall, Obj.sall, resL_three, three_some, *]
        | (refine allK_intro fun n hn => ?_; try simp only [fresh_set] at hn)
        | (refine ifK_intro (fun h => ?_) (fun h => ?_) <;> (try simp only [decide_eq_true_eq, decide_eq_false_iff_not, Bool.not_eq_true', Bool.not_eq_false'] at h) <;> try (exfalso; (try simp only [beq_iff_eq, beq_eq_false_iff_ne, bne_iff_ne, bne_eq_false_iff_eq, ne_eq] at h); omega))
        | (refine keeps_sub (Mem.sub_set ?_) ?_; focus (simp [Mem.set_at, nomem, *]; done))
        | (refine keeps_stab ?_ ?_; focus ((repeat' first | exact stabK_nil _ _ | refine stabK_cons ?_ ?_ | (simp (disch := omega) only [quietA, Option.isSome_some, ↓rulesA, rulesB, rulesC, Int.reduceLT, nth, upd, put, storeN, AV.one, Nat.reduceBEq, Nat.reduceBNe, Int.reduceBEq, Int.reduceBNe, Int.reduceLE, Int.reduceEq, Int.reduceMod, Int.reduceNeg, boolBin, strBin, intBin, unA, fillA, ne_eq, reduceCtorEq, Nat.reduceAdd, Nat.reduceSub, Nat.reduceLeDiff, Nat.reduceLT, Nat.reduceEqDiff, Int.reduceToNat, eq_self, rulesT, bne_self_eq_false, mm_min, mm_max, buOf_some, nilCheck_vp, nilCheck_ptr, nilCheck_yld, nilCheck_func, S5, Sobj, Slen, Obj.all, Obj.len, Obj.take, Res.all, Res.len, Res.take, Res.drop, Res.sall, Obj.sall, resL_three, three_some, *]; done)); done))
      all_goals exact New.eq (by simp only [outO, h]; rfl) rfl
    · repeat' first
        | simp -dsimp (disch := omega) only [↓rulesA, rulesB, rulesC, Int.reduceLT, nth, upd, put, storeN, AV.one, Nat.reduceBEq, Nat.reduceBNe, Int.reduceBEq, Int.reduceBNe, Int.reduceLE, Int.reduceEq, Int.reduceMod, Int.reduceNeg, boolBin, strBin, intBin, unA, fillA, ne_eq, reduceCtorEq, Nat.reduceAdd, Nat.reduceSub, Nat.reduceLeDiff, Nat.reduceLT, Nat.reduceEqDiff, Int.reduceToNat, eq_self, rulesT, bne_self_eq_false, mm_min, mm_max, buOf_some, nilCheck_vp, nilCheck_ptr, nilCheck_yld, nilCheck_func, Opr.g0, Opr.len, hk, ix2, *]
        | (refine allK_intro fun n hn => ?_; try simp only [fresh_set] at hn)
        | (refine ifK_intro (fun h => ?_) (fun h => ?_) <;> (try simp only [decide_eq_true_eq, decide_eq_false_iff_not, Bool.not_eq_true', Bool.not_eq_false'] at h) <;> try (exfalso; (try simp only [beq_iff_eq, beq_eq_false_iff_ne, bne_iff_ne, bne_eq_false_iff_eq, ne_eq] at h); omega))
        | (refine keeps_sub (Mem.sub_set ?_) ?_; focus (simp [Mem.set_at, nomem, *]; done))
        | (refine keeps_stab ?_ ?_; focus ((repeat' first | exact stabK_nil _ _ | refine stabK_cons ?_ ?_ | (simp (disch := omega) only [quietA, Option.isSome_some, ↓rulesA, rulesB, rulesC, Int.reduceLT, nth, upd, put, storeN, AV.one, Nat.reduceBEq, Nat.reduceBNe, Int.reduceBEq, Int.reduceBNe, Int.reduceLE, Int.reduceEq, Int.reduceMod, Int.reduceNeg, boolBin, strBin, intBin, unA, fillA, ne_eq, reduceCtorEq, Nat.reduceAdd, Nat.reduceSub, Nat.reduceLeDiff, Nat.reduceLT, Nat.reduceEqDiff, Int.reduceToNat, eq_self, rulesT, bne_self_eq_false, mm_min, mm_max, buOf_some, nilCheck_vp, nilCheck_ptr, nilCheck_yld, nilCheck_func, Opr.g0, Opr.len, hk, ix2, *]; done)); done))
      refine call_obj (A2 ⟨noObj, false, who, op⟩ _ hk ((hsm' : _ → _) (.inr (.inl hk)))) (by simp [Mem.set_at, *]) fun r m' ⟨g1, g2⟩ => ⟨_, g2, ?_⟩
      subst g1
      generalize actS ⟨noObj, false, who, op⟩ = q at *
      generalize actR ⟨noObj, false, who, op⟩ = R at *
      repeat' first
        | simp -dsimp (disch := omega) only [↓rulesA, rulesB, rulesC, Int.reduceLT, nth, upd, put, storeN, AV.one, Nat.reduceBEq, Nat.reduceBNe, Int.reduceBEq, Int.reduceBNe, Int.reduceLE, Int.reduceEq, Int.reduceMod, Int.reduceNeg, boolBin, strBin, intBin, unA, fillA, ne_eq, reduceCtorEq, Nat.reduceAdd, Nat.reduceSub, Nat.reduceLeDiff, Nat.reduceLT, Nat.reduceEqDiff, Int.reduceToNat, eq_self, rulesT, bne_self_eq_false, mm_min, mm_max, buOf_some, nilCheck_vp, nilCheck_ptr, nilCheck_yld, nilCheck_func, S5, Sobj, Slen, Obj.all, Obj.len, Obj.take, Res.all, Res.len, Res.take, Res.drop, Res.sall, Obj.sall, resL_three, three_some, *]
        | (refine allK_intro fun n hn => ?_; try simp only [fresh_set] at hn)
        | (refine ifK_intro (fun h => ?_) (fun h => ?_) <;> (try simp only [decide_eq_true_eq, decide_eq_false_iff_not, Bool.not_eq_true', Bool.not_eq_false'] at h) <;> try (exfalso; (try simp only [beq_iff_eq, beq_eq_false_iff_ne, bne_iff_ne, bne_eq_false_iff_eq, ne_eq] at h); omega))
        | (refine keeps_sub (Mem.sub_set ?_) ?_; focus (simp [Mem.set_at, nomem, *]; done))
        | (refine keeps_stab ?_ ?_; focus ((repeat' first | exact stabK_nil _ _ | refine stabK_cons ?_ ?_ | (simp (disch := omega) only [quietA, Option.isSome_some, ↓rulesA, rulesB, rulesC, Int.reduceLT, nth, upd, put, storeN, AV.one, Nat.reduceBEq, Nat.reduceBNe, Int.reduceBEq, Int.reduceBNe, Int.reduceLE, Int.reduceEq, Int.reduceMod, Int.reduceNeg, boolBin, strBin, intBin, unA, fillA, ne_eq, reduceCtorEq, Nat.reduceAdd, Nat.reduceSub, Nat.reduceLeDiff, Nat.reduceLT, Nat.reduceEqDiff, Int.reduceToNat, eq_self, rulesT, bne_self_eq_false, mm_min, mm_max, buOf_some, nilCheck_vp, nilCheck_ptr, nilCheck_yld, nilCheck_func, S5, Sobj, Slen, Obj.all, Obj.len, Obj.take, Res.all, Res.len, Res.take, Res.drop, Res.sall, Obj.sall, resL_three, three_some, *]; done)); done))
      all_goals exact New.eq (by simp only [outO, h]; rfl) rfl
    · repeat' first
        | simp -dsimp (disch := omega) only [↓rulesA, rulesB, rulesC, Int.reduceLT, nth, upd, put, storeN, AV.one, Nat.reduceBEq, Nat.reduceBNe, Int.reduceBEq, Int.reduceBNe, Int.reduceLE, Int.reduceEq, Int.reduceMod, Int.reduceNeg, boolBin, strBin, intBin, unA, fillA, ne_eq, reduceCtorEq, Nat.reduceAdd, Nat.reduceSub, Nat.reduceLeDiff, Nat.reduceLT, Nat.reduceEqDiff, Int.reduceToNat, eq_self, rulesT, bne_self_eq_false, mm_min, mm_max, buOf_some, nilCheck_vp, nilCheck_ptr, nilCheck_yld, nilCheck_func, Opr.g0, Opr.len, hk, ix3, *]
        | (refine allK_intro fun n hn => ?_; try simp only [fresh_set] at hn)
        | (refine ifK_intro (fun h => ?_) (fun h => ?_) <;> (try simp only [decide_eq_true_eq, decide_eq_false_iff_not, Bool.not_eq_true', Bool.not_eq_false'] at h) <;> try (exfalso; (try simp only [beq_iff_eq, beq_eq_false_iff_ne, bne_iff_ne, bne_eq_false_iff_eq, ne_eq] at h); omega))
        | (refine keeps_sub (Mem.sub_set ?_) ?_; focus (simp [Mem.set_at, nomem, *]; done))
        | (refine keeps_stab ?_ ?_; focus ((repeat' first | exact stabK_nil _ _ | refine stabK_cons ?_ ?_ | (simp (disch := omega) only [quietA, Option.isSome_some, ↓rulesA, rulesB, rulesC, Int.reduceLT, nth, upd, put, storeN, AV.one, Nat.reduceBEq, Nat.reduceBNe, Int.reduceBEq, Int.reduceBNe, Int.reduceLE, Int.reduceEq, Int.reduceMod, Int.reduceNeg, boolBin, strBin, intBin, unA, fillA, ne_eq, reduceCtorEq, Nat.reduceAdd, Nat.reduceSub, Nat.reduceLeDiff, Nat.reduceLT, Nat.reduceEqDiff, Int.reduceToNat, eq_self, rulesT, bne_self_eq_false, mm_min, mm_max, buOf_some, nilCheck_vp, nilCheck_ptr, nilCheck_yld, nilCheck_func, Opr.g0, Opr.len, hk, ix3, *]; done)); done))
      refine call_obj (A3 ⟨noObj, false, who, op⟩ _ hk ((hsm' : _ → _) (.inr (.inr (.inl hk))))) (by simp [Mem.set_at, *]) fun r m' ⟨g1, g2⟩ => ⟨_, g2, ?_⟩
      subst g1
      generalize actS ⟨noObj, false, who, op⟩ = q at *
      generalize actR ⟨noObj, false, who, op⟩ = R at *
      repeat' first
        | simp -dsimp (disch := omega) only [↓rulesA, rulesB, rulesC, Int.reduceLT, nth, upd, put, storeN, AV.one, Nat.reduceBEq, Nat.reduceBNe, Int.reduceBEq, Int.reduceBNe, Int.reduceLE, Int.reduceEq, Int.reduceMod, Int.reduceNeg, boolBin, strBin, intBin, unA, fillA, ne_eq, reduceCtorEq, Nat.reduceAdd, Nat.reduceSub, Nat.reduceLeDiff, Nat.reduceLT, Nat.reduceEqDiff, Int.reduceToNat, eq_self, rulesT, bne_self_eq_false, mm_min, mm_max, buOf_some, nilCheck_vp, nilCheck_ptr, nilCheck_yld, nilCheck_func, S5, Sobj, Slen, Obj.all, Obj.len, Obj.take, Res.all, Res.len, Res.take, Res.drop, Res.sall, Obj.sall, resL_three, three_some, *]
        | (refine allK_intro fun n hn => ?_; try simp only [fresh_set] at hn)
        | (refine ifK_intro (fun h => ?_) (fun h => ?_) <;> (try simp only [decide_eq_true_eq, decide_eq_false_iff_not, Bool.not_eq_true', Bool.not_eq_false'] at h) <;> try (exfalso; (try simp only [beq_iff_eq, beq_eq_false_iff_ne, bne_iff_ne, bne_eq_false_iff_eq, ne_eq] at h); omega))
        | (refine keeps_sub (Mem.sub_set ?_) ?_; focus (simp [Mem.set_at, nomem, *]; done))
        | (refine keeps_stab ?_ ?_; focus ((repeat' first | exact stabK_nil _ _ | refine stabK_cons ?_ ?_ | (simp (disch := omega) only [quietA, Option.isSome_some, ↓rulesA, rulesB, rulesC, Int.reduceLT, nth, upd, put, storeN, AV.one, Nat.reduceBEq, Nat.reduceBNe, Int.reduceBEq, Int.reduceBNe, Int.reduceLE, Int.reduceEq, Int.reduceMod, Int.reduceNeg, boolBin, strBin, intBin, unA, fillA, ne_eq, reduceCtorEq, Nat.reduceAdd, Nat.reduceSub, Nat.reduceLeDiff, Nat.reduceLT, Nat.reduceEqDiff, Int.reduceToNat, eq_self, rulesT, bne_self_eq_false, mm_min, mm_max, buOf_some, nilCheck_vp, nilCheck_ptr, nilCheck_yld, nilCheck_func, S5, Sobj, Slen, Obj.all, Obj.len, Obj.take, Res.all, Res.len, Res.take, Res.drop, Res.sall, Obj.sall, resL_three, three_some, *]; done)); done))
      all_goals exact New.eq (by simp only [outO, h]; rfl) rfl
    · repeat' first
        | simp -dsimp (disch := omega) only [↓rulesA, rulesB, rulesC, Int.reduceLT, nth, upd, put, storeN, AV.one, Nat.reduceBEq, Nat.reduceBNe, Int.reduceBEq, Int.reduceBNe, Int.reduceLE, Int.reduceEq, Int.reduceMod, Int.reduceNeg, boolBin, strBin, intBin, unA, fillA, ne_eq, reduceCtorEq, Nat.reduceAdd, Nat.reduceSub, Nat.reduceLeDiff, Nat.reduceLT, Nat.reduceEqDiff, Int.reduceToNat, eq_self, rulesT, bne_self_eq_false, mm_min, mm_max, buOf_some, nilCheck_vp, nilCheck_ptr, nilCheck_yld, nilCheck_func, Opr.g0, Opr.len, hk, ix4, *]
        | (refine allK_intro fun n hn => ?_; try simp only [fresh_set] at hn)
        | (refine ifK_intro (fun h => ?_) (fun h => ?_) <;> (try simp only [decide_eq_true_eq, decide_eq_false_iff_not, Bool.not_eq_true', Bool.not_eq_false'] at h) <;> try (exfalso; (try simp only [beq_iff_eq, beq_eq_false_iff_ne, bne_iff_ne, bne_eq_false_iff_eq, ne_eq] at h); omega))
        | (refine keeps_sub (Mem.sub_set ?_) ?_; focus (simp [Mem.set_at, nomem, *]; done))
        | (refine keeps_stab ?_ ?_; focus ((repeat' first | exact stabK_nil _ _ | refine stabK_cons ?_ ?_ | (simp (disch := omega) only [quietA, Option.isSome_some, ↓rulesA, rulesB, rulesC, Int.reduceLT, nth, upd, put, storeN, AV.one, Nat.reduceBEq, Nat.reduceBNe, Int.reduceBEq, Int.reduceBNe, Int.reduceLE, Int.reduceEq, Int.reduceMod, Int.reduceNeg, boolBin, strBin, intBin, unA, fillA, ne_eq, reduceCtorEq, Nat.reduceAdd, Nat.reduceSub, Nat.reduceLeDiff, Nat.reduceLT, Nat.reduceEqDiff, Int.reduceToNat, eq_self, rulesT, bne_self_eq_false, mm_min, mm_max, buOf_some, nilCheck_vp, nilCheck_ptr, nilCheck_yld, nilCheck_func, Opr.g0, Opr.len, hk, ix4, *]; done)); done))
      refine call_obj (A4 ⟨noObj, false, who, op⟩ _ hk) (by simp [Mem.set_at, *]) fun r m' ⟨g1, g2⟩ => ⟨_, g2, ?_⟩
      subst g1
      generalize actS ⟨noObj, false, who, op⟩ = q at *
      generalize actR ⟨noObj, false, who, op⟩ = R at *
      repeat' first
        | simp -dsimp (disch := omega) only [↓rulesA, rulesB, rulesC, Int.reduceLT, nth, upd, put, storeN, AV.one, Nat.reduceBEq, Nat.reduceBNe, Int.reduceBEq, Int.reduceBNe, Int.reduceLE, Int.reduceEq, Int.reduceMod, Int.reduceNeg, boolBin, strBin, intBin, unA, fillA, ne_eq, reduceCtorEq, Nat.reduceAdd, Nat.reduceSub, Nat.reduceLeDiff, Nat.reduceLT, Nat.reduceEqDiff, Int.reduceToNat, eq_self, rulesT, bne_self_eq_false, mm_min, mm_max, buOf_some, nilCheck_vp, nilCheck_ptr, nilCheck_yld, nilCheck_func, S5, Sobj, Slen, Obj.all, Obj.len, Obj.take, Res.all, Res.len, Res.take, Res.drop, Res.sall, Obj.sall, resL_three, three_some, *]
        | (refine allK_intro fun n hn => ?_; try simp only [fresh_set] at hn)
        | (refine ifK_intro (fun h => ?_) (fun h => ?_) <;> (try simp only [decide_eq_true_eq, decide_eq_false_iff_not, Bool.not_eq_true', Bool.not_eq_false'] at h) <;> try (exfalso; (try simp only [beq_iff_eq, beq_eq_false_iff_ne, bne_iff_ne, bne_eq_false_iff_eq, ne_eq] at h); omega))
        | (refine keeps_sub (Mem.sub_set ?_) ?_; focus (simp [Mem.set_at, nomem, *]; done))
        | (refine keeps_stab ?_ ?_; focus ((repeat' first | exact stabK_nil _ _ | refine stabK_cons ?_ ?_ | (simp (disch := omega) only [quietA, Option.isSome_some, ↓rulesA, rulesB, rulesC, Int.reduceLT, nth, upd, put, storeN, AV.one, Nat.reduceBEq, Nat.reduceBNe, Int.reduceBEq, Int.reduceBNe, Int.reduceLE, Int.reduceEq, Int.reduceMod, Int.reduceNeg, boolBin, strBin, intBin, unA, fillA, ne_eq, reduceCtorEq, Nat.reduceAdd, Nat.reduceSub, Nat.reduceLeDiff, Nat.reduceLT, Nat.reduceEqDiff, Int.reduceToNat, eq_self, rulesT, bne_self_eq_false, mm_min, mm_max, buOf_some, nilCheck_vp, nilCheck_ptr, nilCheck_yld, nilCheck_func, S5, Sobj, Slen, Obj.all, Obj.len, Obj.take, Res.all, Res.len, Res.take, Res.drop, Res.sall, Obj.sall, resL_three, three_some, *]; done)); done))
      all_goals exact New.eq (by simp only [outO, h]; rfl) rfl
    · repeat' first
        | simp -dsimp (disch := omega) only [↓rulesA, rulesB, rulesC, Int.reduceLT, nth, upd, put, storeN, AV.one, Nat.reduceBEq, Nat.reduceBNe, Int.reduceBEq, Int.reduceBNe, Int.reduceLE, Int.reduceEq, Int.reduceMod, Int.reduceNeg, boolBin, strBin, intBin, unA, fillA, ne_eq, reduceCtorEq, Nat.reduceAdd, Nat.reduceSub, Nat.reduceLeDiff, Nat.reduceLT, Nat.reduceEqDiff, Int.reduceToNat, eq_self, rulesT, bne_self_eq_false, mm_min, mm_max, buOf_some, nilCheck_vp, nilCheck_ptr, nilCheck_yld, nilCheck_func, Opr.g0, Opr.len, hk, ix5, *]
        | (refine allK_intro fun n hn => ?_; try simp only [fresh_set] at hn)
        | (refine ifK_intro (fun h => ?_) (fun h => ?_) <;> (try simp only [decide_eq_true_eq, decide_eq_false_iff_not, Bool.not_eq_true', Bool.not_eq_false'] at h) <;> try (exfalso; (try simp only [beq_iff_eq, beq_eq_false_iff_ne, bne_iff_ne, bne_eq_false_iff_eq, ne_eq] at h); omega))
        | (refine keeps_sub (Mem.sub_set ?_) ?_; focus (simp [Mem.set_at, nomem, *]; done))
        | (refine keeps_stab ?_ ?_; focus ((repeat' first | exact stabK_nil _ _ | refine stabK_cons ?_ ?_ | (simp (disch := omega) only [quietA, Option.isSome_some, ↓rulesA, rulesB, rulesC, Int.reduceLT, nth, upd, put, storeN, AV.one, Nat.reduceBEq, Nat.reduceBNe, Int.reduceBEq, Int.reduceBNe, Int.reduceLE, Int.reduceEq, Int.reduceMod, Int.reduceNeg, boolBin, strBin, intBin, unA, fillA, ne_eq, reduceCtorEq, Nat.reduceAdd, Nat.reduceSub, Nat.reduceLeDiff, Nat.reduceLT, Nat.reduceEqDiff, Int.reduceToNat, eq_self, rulesT, bne_self_eq_false, mm_min, mm_max, buOf_some, nilCheck_vp, nilCheck_ptr, nilCheck_yld, nilCheck_func, Opr.g0, Opr.len, hk, ix5, *]; done)); done))
      refine call_obj (A5 ⟨noObj, false, who, op⟩ _ hk ((hsm' : _ → _) (.inr (.inr (.inr hk))))) (by simp [Mem.set_at, *]) fun r m' ⟨g1, g2⟩ => ⟨_, g2, ?_⟩
      subst g1
      generalize actS ⟨noObj, false, who, op⟩ = q at *
      generalize actR ⟨noObj, false, who, op⟩ = R at *
      repeat' first
        | simp -dsimp (disch := omega) only [↓rulesA, rulesB, rulesC, Int.reduceLT, nth, upd, put, storeN, AV.one, Nat.reduceBEq, Nat.reduceBNe, Int.reduceBEq, Int.reduceBNe, Int.reduceLE, Int.reduceEq, Int.reduceMod, Int.reduceNeg, boolBin, strBin, intBin, unA, fillA, ne_eq, reduceCtorEq, Nat.reduceAdd, Nat.reduceSub, Nat.reduceLeDiff, Nat.reduceLT, Nat.reduceEqDiff, Int.reduceToNat, eq_self, rulesT, bne_self_eq_false, mm_min, mm_max, buOf_some, nilCheck_vp, nilCheck_ptr, nilCheck_yld, nilCheck_func, S5, Sobj, Slen, Obj.all, Obj.len, Obj.take, Res.all, Res.len, Res.take, Res.drop, Res.sall, Obj.sall, resL_three, three_some, *]
        | (refine allK_intro fun n hn => ?_; try simp only [fresh_set] at hn)
        | (refine ifK_intro (fun h => ?_) (fun h => ?_) <;> (try simp only [decide_eq_true_eq, decide_eq_false_iff_not, Bool.not_eq_true', Bool.not_eq_false'] at h) <;> try (exfalso; (try simp only [beq_iff_eq, beq_eq_false_iff_ne, bne_iff_ne, bne_eq_false_iff_eq, ne_eq] at h); omega))
        | (refine keeps_sub (Mem.sub_set ?_) ?_; focus (simp [Mem.set_at, nomem, *]; done))
        | (refine keeps_stab ?_ ?_; focus ((repeat' first | exact stabK_nil _ _ | refine stabK_cons ?_ ?_ | (simp (disch := omega) only [quietA, Option.isSome_some, ↓rulesA, rulesB, rulesC, Int.reduceLT, nth, upd, put, storeN, AV.one, Nat.reduceBEq, Nat.reduceBNe, Int.reduceBEq, Int.reduceBNe, Int.reduceLE, Int.reduceEq, Int.reduceMod, Int.reduceNeg, boolBin, strBin, intBin, unA, fillA, ne_eq, reduceCtorEq, Nat.reduceAdd, Nat.reduceSub, Nat.reduceLeDiff, Nat.reduceLT, Nat.reduceEqDiff, Int.reduceToNat, eq_self, rulesT, bne_self_eq_false, mm_min, mm_max, buOf_some, nilCheck_vp, nilCheck_ptr, nilCheck_yld, nilCheck_func, S5, Sobj, Slen, Obj.all, Obj.len, Obj.take, Res.all, Res.len, Res.take, Res.drop, Res.sall, Obj.sall, resL_three, three_some, *]; done)); done))
      all_goals exact New.eq (by simp only [outO, h]; rfl) rfl
    · repeat' first
        | simp -dsimp (disch := omega) only [↓rulesA, rulesB, rulesC, Int.reduceLT, nth, upd, put, storeN, AV.one, Nat.reduceBEq, Nat.reduceBNe, Int.reduceBEq, Int.reduceBNe, Int.reduceLE, Int.reduceEq, Int.reduceMod, Int.reduceNeg, boolBin, strBin, intBin, unA, fillA, ne_eq, reduceCtorEq, Nat.reduceAdd, Nat.reduceSub, Nat.reduceLeDiff, Nat.reduceLT, Nat.reduceEqDiff, Int.reduceToNat, eq_self, rulesT, bne_self_eq_false, mm_min, mm_max, buOf_some, nilCheck_vp, nilCheck_ptr, nilCheck_yld, nilCheck_func, Opr.g0, Opr.len, hk, ix6, *]
        | (refine allK_intro fun n hn => ?_; try simp only [fresh_set] at hn)
        | (refine ifK_intro (fun h => ?_) (fun h => ?_) <;> (try simp only [decide_eq_true_eq, decide_eq_false_iff_not, Bool.not_eq_true', Bool.not_eq_false'] at h) <;> try (exfalso; (try simp only [beq_iff_eq, beq_eq_false_iff_ne, bne_iff_ne, bne_eq_false_iff_eq, ne_eq] at h); omega))
        | (refine keeps_sub (Mem.sub_set ?_) ?_; focus (simp [Mem.set_at, nomem, *]; done))
        | (refine keeps_stab ?_ ?_; focus ((repeat' first | exact stabK_nil _ _ | refine stabK_cons ?_ ?_ | (simp (disch := omega) only [quietA, Option.isSome_some, ↓rulesA, rulesB, rulesC, Int.reduceLT, nth, upd, put, storeN, AV.one, Nat.reduceBEq, Nat.reduceBNe, Int.reduceBEq, Int.reduceBNe, Int.reduceLE, Int.reduceEq, Int.reduceMod, Int.reduceNeg, boolBin, strBin, intBin, unA, fillA, ne_eq, reduceCtorEq, Nat.reduceAdd, Nat.reduceSub, Nat.reduceLeDiff, Nat.reduceLT, Nat.reduceEqDiff, Int.reduceToNat, eq_self, rulesT, bne_self_eq_false, mm_min, mm_max, buOf_some, nilCheck_vp, nilCheck_ptr, nilCheck_yld, nilCheck_func, Opr.g0, Opr.len, hk, ix6, *]; done)); done))
      refine call_obj (A6 ⟨noObj, false, who, op⟩ _ hk) (by simp [Mem.set_at, *]) fun r m' ⟨g1, g2⟩ => ⟨_, g2, ?_⟩
      subst g1
      generalize actS ⟨noObj, false, who, op⟩ = q at *
      generalize actR ⟨noObj, false, who, op⟩ = R at *
      repeat' first
        | simp -dsimp (disch := omega) only [↓rulesA, rulesB, rulesC, Int.reduceLT, nth, upd, put, storeN, AV.one, Nat.reduceBEq, Nat.reduceBNe, Int.reduceBEq, Int.reduceBNe, Int.reduceLE, Int.reduceEq, Int.reduceMod, Int.reduceNeg, boolBin, strBin, intBin, unA, fillA, ne_eq, reduceCtorEq, Nat.reduceAdd, Nat.reduceSub, Nat.reduceLeDiff, Nat.reduceLT, Nat.reduceEqDiff, Int.reduceToNat, eq_self, rulesT, bne_self_eq_false, mm_min, mm_max, buOf_some, nilCheck_vp, nilCheck_ptr, nilCheck_yld, nilCheck_func, S5, Sobj, Slen, Obj.all, Obj.len, Obj.take, Res.all, Res.len, Res.take, Res.drop, Res.sall, Obj.sall, resL_three, three_some, *]
        | (refine allK_intro fun n hn => ?_; try simp only [fresh_set] at hn)
        | (refine ifK_intro (fun h => ?_) (fun h => ?_) <;> (try simp only [decide_eq_true_eq, decide_eq_false_iff_not, Bool.not_eq_true', Bool.not_eq_false'] at h) <;> try (exfalso; (try simp only [beq_iff_eq, beq_eq_false_iff_ne, bne_iff_ne, bne_eq_false_iff_eq, ne_eq] at h); omega))
        | (refine keeps_sub (Mem.sub_set ?_) ?_; focus (simp [Mem.set_at, nomem, *]; done))
        | (refine keeps_stab ?_ ?_; focus ((repeat' first | exact stabK_nil _ _ | refine stabK_cons ?_ ?_ | (simp (disch := omega) only [quietA, Option.isSome_some, ↓rulesA, rulesB, rulesC, Int.reduceLT, nth, upd, put, storeN, AV.one, Nat.reduceBEq, Nat.reduceBNe, Int.reduceBEq, Int.reduceBNe, Int.reduceLE, Int.reduceEq, Int.reduceMod, Int.reduceNeg, boolBin, strBin, intBin, unA, fillA, ne_eq, reduceCtorEq, Nat.reduceAdd, Nat.reduceSub, Nat.reduceLeDiff, Nat.reduceLT, Nat.reduceEqDiff, Int.reduceToNat, eq_self, rulesT, bne_self_eq_false, mm_min, mm_max, buOf_some, nilCheck_vp, nilCheck_ptr, nilCheck_yld, nilCheck_func, S5, Sobj, Slen, Obj.all, Obj.len, Obj.take, Res.all, Res.len, Res.take, Res.drop, Res.sall, Obj.sall, resL_three, three_some, *]; done)); done))
      all_goals exact New.eq (by simp only [outO, h]; rfl) rfl
    · repeat' first
        | simp -dsimp (disch := omega) only [↓rulesA, rulesB, rulesC, Int.reduceLT, nth, upd, put, storeN, AV.one, Nat.reduceBEq, Nat.reduceBNe, Int.reduceBEq, Int.reduceBNe, Int.reduceLE, Int.reduceEq, Int.reduceMod, Int.reduceNeg, boolBin, strBin, intBin, unA, fillA, ne_eq, reduceCtorEq, Nat.reduceAdd, Nat.reduceSub, Nat.reduceLeDiff, Nat.reduceLT, Nat.reduceEqDiff, Int.reduceToNat, eq_self, rulesT, bne_self_eq_false, mm_min, mm_max, buOf_some, nilCheck_vp, nilCheck_ptr, nilCheck_yld, nilCheck_func, Opr.g0, Opr.len, hk, ix7, *]
        | (refine allK_intro fun n hn => ?_; try simp only [fresh_set] at hn)
        | (refine ifK_intro (fun h => ?_) (fun h => ?_) <;> (try simp only [decide_eq_true_eq, decide_eq_false_iff_not, Bool.not_eq_true', Bool.not_eq_false'] at h) <;> try (exfalso; (try simp only [beq_iff_eq, beq_eq_false_iff_ne, bne_iff_ne, bne_eq_false_iff_eq, ne_eq] at h); omega))
        | (refine keeps_sub (Mem.sub_set ?_) ?_; focus (simp [Mem.set_at, nomem, *]; done))
        | (refine keeps_stab ?_ ?_; focus ((repeat' first | exact stabK_nil _ _ | refine stabK_cons ?_ ?_ | (simp (disch := omega) only [quietA, Option.isSome_some, ↓rulesA, rulesB, rulesC, Int.reduceLT, nth, upd, put, storeN, AV.one, Nat.reduceBEq, Nat.reduceBNe, Int.reduceBEq, Int.reduceBNe, Int.reduceLE, Int.reduceEq, Int.reduceMod, Int.reduceNeg, boolBin, strBin, intBin, unA, fillA, ne_eq, reduceCtorEq, Nat.reduceAdd, Nat.reduceSub, Nat.reduceLeDiff, Nat.reduceLT, Nat.reduceEqDiff, Int.reduceToNat, eq_self, rulesT, bne_self_eq_false, mm_min, mm_max, buOf_some, nilCheck_vp, nilCheck_ptr, nilCheck_yld, nilCheck_func, Opr.g0, Opr.len, hk, ix7, *]; done)); done))
      refine call_obj (A7 ⟨noObj, false, who, op⟩ _ hk) (by simp [Mem.set_at, *]) fun r m' ⟨g1, g2⟩ => ⟨_, g2, ?_⟩
      subst g1
      generalize actS ⟨noObj, false, who, op⟩ = q at *
      generalize actR ⟨noObj, false, who, op⟩ = R at *
      repeat' first
        | simp -dsimp (disch := omega) only [↓rulesA, rulesB, rulesC, Int.reduceLT, nth, upd, put, storeN, AV.one, Nat.reduceBEq, Nat.reduceBNe, Int.reduceBEq, Int.reduceBNe, Int.reduceLE, Int.reduceEq, Int.reduceMod, Int.reduceNeg, boolBin, strBin, intBin, unA, fillA, ne_eq, reduceCtorEq, Nat.reduceAdd, Nat.reduceSub, Nat.reduceLeDiff, Nat.reduceLT, Nat.reduceEqDiff, Int.reduceToNat, eq_self, rulesT, bne_self_eq_false, mm_min, mm_max, buOf_some, nilCheck_vp, nilCheck_ptr, nilCheck_yld, nilCheck_func, S5, Sobj, Slen, Obj.all, Obj.len, Obj.take, Res.all, Res.len, Res.take, Res.drop, Res.sall, Obj.sall, resL_three, three_some, *]
        | (refine allK_intro fun n hn => ?_; try simp only [fresh_set] at hn)
        | (refine ifK_intro (fun h => ?_) (fun h => ?_) <;> (try simp only [decide_eq_true_eq, decide_eq_false_iff_not, Bool.not_eq_true', Bool.not_eq_false'] at h) <;> try (exfalso; (try simp only [beq_iff_eq, beq_eq_false_iff_ne, bne_iff_ne, bne_eq_false_iff_eq, ne_eq] at h); omega))
        | (refine keeps_sub (Mem.sub_set ?_) ?_; focus (simp [Mem.set_at, nomem, *]; done))
        | (refine keeps_stab ?_ ?_; focus ((repeat' first | exact stabK_nil _ _ | refine stabK_cons ?_ ?_ | (simp (disch := omega) only [quietA, Option.isSome_some, ↓rulesA, rulesB, rulesC, Int.reduceLT, nth, upd, put, storeN, AV.one, Nat.reduceBEq, Nat.reduceBNe, Int.reduceBEq, Int.reduceBNe, Int.reduceLE, Int.reduceEq, Int.reduceMod, Int.reduceNeg, boolBin, strBin, intBin, unA, fillA, ne_eq, reduceCtorEq, Nat.reduceAdd, Nat.reduceSub, Nat.reduceLeDiff, Nat.reduceLT, Nat.reduceEqDiff, Int.reduceToNat, eq_self, rulesT, bne_self_eq_false, mm_min, mm_max, buOf_some, nilCheck_vp, nilCheck_ptr, nilCheck_yld, nilCheck_func, S5, Sobj, Slen, Obj.all, Obj.len, Obj.take, Res.all, Res.len, Res.take, Res.drop, Res.sall, Obj.sall, resL_three, three_some, *]; done)); done))
      all_goals exact New.eq (by simp only [outO, h]; rfl) rfl
    · repeat' first
        | simp -dsimp (disch := omega) only [↓rulesA, rulesB, rulesC, Int.reduceLT, nth, upd, put, storeN, AV.one, Nat.reduceBEq, Nat.reduceBNe, Int.reduceBEq, Int.reduceBNe, Int.reduceLE, Int.reduceEq, Int.reduceMod, Int.reduceNeg, boolBin, strBin, intBin, unA, fillA, ne_eq, reduceCtorEq, Nat.reduceAdd, Nat.reduceSub, Nat.reduceLeDiff, Nat.reduceLT, Nat.reduceEqDiff, Int.reduceToNat, eq_self, rulesT, bne_self_eq_false, mm_min, mm_max, buOf_some, nilCheck_vp, nilCheck_ptr, nilCheck_yld, nilCheck_func, Opr.g0, Opr.len, hk, ix8, *]
        | (refine allK_intro fun n hn => ?_; try simp only [fresh_set] at hn)
        | (refine ifK_intro (fun h => ?_) (fun h => ?_) <;> (try simp only [decide_eq_true_eq, decide_eq_false_iff_not, Bool.not_eq_true', Bool.not_eq_false'] at h) <;> try (exfalso; (try simp only [beq_iff_eq, beq_eq_false_iff_ne, bne_iff_ne, bne_eq_false_iff_eq, ne_eq] at h); omega))
        | (refine keeps_sub (Mem.sub_set ?_) ?_; focus (simp [Mem.set_at, nomem, *]; done))
        | (refine keeps_stab ?_ ?_; focus ((repeat' first | exact stabK_nil _ _ | refine stabK_cons ?_ ?_ | (simp (disch := omega) only [quietA, Option.isSome_some, ↓rulesA, rulesB, rulesC, Int.reduceLT, nth, upd, put, storeN, AV.one, Nat.reduceBEq, Nat.reduceBNe, Int.reduceBEq, Int.reduceBNe, Int.reduceLE, Int.reduceEq, Int.reduceMod, Int.reduceNeg, boolBin, strBin, intBin, unA, fillA, ne_eq, reduceCtorEq, Nat.reduceAdd, Nat.reduceSub, Nat.reduceLeDiff, Nat.reduceLT, Nat.reduceEqDiff, Int.reduceToNat, eq_self, rulesT, bne_self_eq_false, mm_min, mm_max, buOf_some, nilCheck_vp, nilCheck_ptr, nilCheck_yld, nilCheck_func, Opr.g0, Opr.len, hk, ix8, *]; done)); done))
      refine call_obj (A8 ⟨noObj, false, who, op⟩ _ hk) (by simp [Mem.set_at, *]) fun r m' ⟨g1, g2⟩ => ⟨_, g2, ?_⟩
      subst g1
      generalize actS ⟨noObj, false, who, op⟩ = q at *
      generalize actR ⟨noObj, false, who, op⟩ = R at *
      repeat' first
        | simp -dsimp (disch := omega) only [↓rulesA, rulesB, rulesC, Int.reduceLT, nth, upd, put, storeN, AV.one, Nat.reduceBEq, Nat.reduceBNe, Int.reduceBEq, Int.reduceBNe, Int.reduceLE, Int.reduceEq, Int.reduceMod, Int.reduceNeg, boolBin, strBin, intBin, unA, fillA, ne_eq, reduceCtorEq, Nat.reduceAdd, Nat.reduceSub, Nat.reduceLeDiff, Nat.reduceLT, Nat.reduceEqDiff, Int.reduceToNat, eq_self, rulesT, bne_self_eq_false, mm_min, mm_max, buOf_some, nilCheck_vp, nilCheck_ptr, nilCheck_yld, nilCheck_func, S5, Sobj, Slen, Obj.all, Obj.len, Obj.take, Res.all, Res.len, Res.take, Res.drop, Res.sall, Obj.sall, resL_three, three_some, *]
        | (refine allK_intro fun n hn => ?_; try simp only [fresh_set] at hn)
        | (refine ifK_intro (fun h => ?_) (fun h => ?_) <;> (try simp only [decide_eq_true_eq, decide_eq_false_iff_not, Bool.not_eq_true', Bool.not_eq_false'] at h) <;> try (exfalso; (try simp only [beq_iff_eq, beq_eq_false_iff_ne, bne_iff_ne, bne_eq_false_iff_eq, ne_eq] at h); omega))
        | (refine keeps_sub (Mem.sub_set ?_) ?_; focus (simp [Mem.set_at, nomem, *]; done))
        | (refine keeps_stab ?_ ?_; focus ((repeat' first | exact stabK_nil _ _ | refine stabK_cons ?_ ?_ | (simp (disch := omega) only [quietA, Option.isSome_some, ↓rulesA, rulesB, rulesC, Int.reduceLT, nth, upd, put, storeN, AV.one, Nat.reduceBEq, Nat.reduceBNe, Int.reduceBEq, Int.reduceBNe, Int.reduceLE, Int.reduceEq, Int.reduceMod, Int.reduceNeg, boolBin, strBin, intBin, unA, fillA, ne_eq, reduceCtorEq, Nat.reduceAdd, Nat.reduceSub, Nat.reduceLeDiff, Nat.reduceLT, Nat.reduceEqDiff, Int.reduceToNat, eq_self, rulesT, bne_self_eq_false, mm_min, mm_max, buOf_some, nilCheck_vp, nilCheck_ptr, nilCheck_yld, nilCheck_func, S5, Sobj, Slen, Obj.all, Obj.len, Obj.take, Res.all, Res.len, Res.take, Res.drop, Res.sall, Obj.sall, resL_three, three_some, *]; done)); done))
      all_goals exact New.eq (by simp only [outO, h]; rfl) rfl
    · repeat' first
        | simp -dsimp (disch := omega) only [↓rulesA, rulesB, rulesC, Int.reduceLT, nth, upd, put, storeN, AV.one, Nat.reduceBEq, Nat.reduceBNe, Int.reduceBEq, Int.reduceBNe, Int.reduceLE, Int.reduceEq, Int.reduceMod, Int.reduceNeg, boolBin, strBin, intBin, unA, fillA, ne_eq, reduceCtorEq, Nat.reduceAdd, Nat.reduceSub, Nat.reduceLeDiff, Nat.reduceLT, Nat.reduceEqDiff, Int.reduceToNat, eq_self, rulesT, bne_self_eq_false, mm_min, mm_max, buOf_some, nilCheck_vp, nilCheck_ptr, nilCheck_yld, nilCheck_func, Opr.g0, Opr.len, hk, ix9, *]
        | (refine allK_intro fun n hn => ?_; try simp only [fresh_set] at hn)
        | (refine ifK_intro (fun h => ?_) (fun h => ?_) <;> (try simp only [decide_eq_true_eq, decide_eq_false_iff_not, Bool.not_eq_true', Bool.not_eq_false'] at h) <;> try (exfalso; (try simp only [beq_iff_eq, beq_eq_false_iff_ne, bne_iff_ne, bne_eq_false_iff_eq, ne_eq] at h); omega))
        | (refine keeps_sub (Mem.sub_set ?_) ?_; focus (simp [Mem.set_at, nomem, *]; done))
        | (refine keeps_stab ?_ ?_; focus ((repeat' first | exact stabK_nil _ _ | refine stabK_cons ?_ ?_ | (simp (disch := omega) only [quietA, Option.isSome_some, ↓rulesA, rulesB, rulesC, Int.reduceLT, nth, upd, put, storeN, AV.one, Nat.reduceBEq, Nat.reduceBNe, Int.reduceBEq, Int.reduceBNe, Int.reduceLE, Int.reduceEq, Int.reduceMod, Int.reduceNeg, boolBin, strBin, intBin, unA, fillA, ne_eq, reduceCtorEq, Nat.reduceAdd, Nat.reduceSub, Nat.reduceLeDiff, Nat.reduceLT, Nat.reduceEqDiff, Int.reduceToNat, eq_self, rulesT, bne_self_eq_false, mm_min, mm_max, buOf_some, nilCheck_vp, nilCheck_ptr, nilCheck_yld, nilCheck_func, Opr.g0, Opr.len, hk, ix9, *]; done)); done))
      refine call_obj (A9 ⟨noObj, false, who, op⟩ _ hk) (by simp [Mem.set_at, *]) fun r m' ⟨g1, g2⟩ => ⟨_, g2, ?_⟩
      subst g1
      generalize actS ⟨noObj, false, who, op⟩ = q at *
      generalize actR ⟨noObj, false, who, op⟩ = R at *
      repeat' first
        | simp -dsimp (disch := omega) only [↓rulesA, rulesB, rulesC, Int.reduceLT, nth, upd, put, storeN, AV.one, Nat.reduceBEq, Nat.reduceBNe, Int.reduceBEq, Int.reduceBNe, Int.reduceLE, Int.reduceEq, Int.reduceMod, Int.reduceNeg, boolBin, strBin, intBin, unA, fillA, ne_eq, reduceCtorEq, Nat.reduceAdd, Nat.reduceSub, Nat.reduceLeDiff, Nat.reduceLT, Nat.reduceEqDiff, Int.reduceToNat, eq_self, rulesT, bne_self_eq_false, mm_min, mm_max, buOf_some, nilCheck_vp, nilCheck_ptr, nilCheck_yld, nilCheck_func, S5, Sobj, Slen, Obj.all, Obj.len, Obj.take, Res.all, Res.len, Res.take, Res.drop, Res.sall, Obj.sall, resL_three, three_some, *]
        | (refine allK_intro fun n hn => ?_; try simp only [fresh_set] at hn)
        | (refine ifK_intro (fun h => ?_) (fun h => ?_) <;> (try simp only [decide_eq_true_eq, decide_eq_false_iff_not, Bool.not_eq_true', Bool.not_eq_false'] at h) <;> try (exfalso; (try simp only [beq_iff_eq, beq_eq_false_iff_ne, bne_iff_ne, bne_eq_false_iff_eq, ne_eq] at h); omega))
        | (refine keeps_sub (Mem.sub_set ?_) ?_; focus (simp [Mem.set_at, nomem, *]; done))
        | (refine keeps_stab ?_ ?_; focus ((repeat' first | exact stabK_nil _ _ | refine stabK_cons ?_ ?_ | (simp (disch := omega) only [quietA, Option.isSome_some, ↓rulesA, rulesB, rulesC, Int.reduceLT, nth, upd, put, storeN, AV.one, Nat.reduceBEq, Nat.reduceBNe, Int.reduceBEq, Int.reduceBNe, Int.reduceLE, Int.reduceEq, Int.reduceMod, Int.reduceNeg, boolBin, strBin, intBin, unA, fillA, ne_eq, reduceCtorEq, Nat.reduceAdd, Nat.reduceSub, Nat.reduceLeDiff, Nat.reduceLT, Nat.reduceEqDiff, Int.reduceToNat, eq_self, rulesT, bne_self_eq_false, mm_min, mm_max, buOf_some, nilCheck_vp, nilCheck_ptr, nilCheck_yld, nilCheck_func, S5, Sobj, Slen, Obj.all, Obj.len, Obj.take, Res.all, Res.len, Res.take, Res.drop, Res.sall, Obj.sall, resL_three, three_some, *]; done)); done))
      all_goals exact New.eq (by simp only [outO, h]; rfl) rfl
    · repeat' first
        | simp -dsimp (disch := omega) only [↓rulesA, rulesB, rulesC, Int.reduceLT, nth, upd, put, storeN, AV.one, Nat.reduceBEq, Nat.reduceBNe, Int.reduceBEq, Int.reduceBNe, Int.reduceLE, Int.reduceEq, Int.reduceMod, Int.reduceNeg, boolBin, strBin, intBin, unA, fillA, ne_eq, reduceCtorEq, Nat.reduceAdd, Nat.reduceSub, Nat.reduceLeDiff, Nat.reduceLT, Nat.reduceEqDiff, Int.reduceToNat, eq_self, rulesT, bne_self_eq_false, mm_min, mm_max, buOf_some, nilCheck_vp, nilCheck_ptr, nilCheck_yld, nilCheck_func, Opr.g0, Opr.len, hk, ix10, *]
        | (refine allK_intro fun n hn => ?_; try simp only [fresh_set] at hn)
        | (refine ifK_intro (fun h => ?_) (fun h => ?_) <;> (try simp only [decide_eq_true_eq, decide_eq_false_iff_not, Bool.not_eq_true', Bool.not_eq_false'] at h) <;> try (exfalso; (try simp only [beq_iff_eq, beq_eq_false_iff_ne, bne_iff_ne, bne_eq_false_iff_eq, ne_eq] at h); omega))
        | (refine keeps_sub (Mem.sub_set ?_) ?_; focus (simp [Mem.set_at, nomem, *]; done))
        | (refine keeps_stab ?_ ?_; focus ((repeat' first | exact stabK_nil _ _ | refine stabK_cons ?_ ?_ | (simp (disch := omega) only [quietA, Option.isSome_some, ↓rulesA, rulesB, rulesC, Int.reduceLT, nth, upd, put, storeN, AV.one, Nat.reduceBEq, Nat.reduceBNe, Int.reduceBEq, Int.reduceBNe, Int.reduceLE, Int.reduceEq, Int.reduceMod, Int.reduceNeg, boolBin, strBin, intBin, unA, fillA, ne_eq, reduceCtorEq, Nat.reduceAdd, Nat.reduceSub, Nat.reduceLeDiff, Nat.reduceLT, Nat.reduceEqDiff, Int.reduceToNat, eq_self, rulesT, bne_self_eq_false, mm_min, mm_max, buOf_some, nilCheck_vp, nilCheck_ptr, nilCheck_yld, nilCheck_func, Opr.g0, Opr.len, hk, ix10, *]; done)); done))
      refine call_obj (A10 ⟨noObj, false, who, op⟩ _ hk) (by simp [Mem.set_at, *]) fun r m' ⟨g1, g2⟩ => ⟨_, g2, ?_⟩
      subst g1
      generalize actS ⟨noObj, false, who, op⟩ = q at *
      generalize actR ⟨noObj, false, who, op⟩ = R at *
      repeat' first
        | simp -dsimp (disch := omega) only [↓rulesA, rulesB, rulesC, Int.reduceLT, nth, upd, put, storeN, AV.one, Nat.reduceBEq, Nat.reduceBNe, Int.reduceBEq, Int.reduceBNe, Int.reduceLE, Int.reduceEq, Int.reduceMod, Int.reduceNeg, boolBin, strBin, intBin, unA, fillA, ne_eq, reduceCtorEq, Nat.reduceAdd, Nat.reduceSub, Nat.reduceLeDiff, Nat.reduceLT, Nat.reduceEqDiff, Int.reduceToNat, eq_self, rulesT, bne_self_eq_false, mm_min, mm_max, buOf_some, nilCheck_vp, nilCheck_ptr, nilCheck_yld, nilCheck_func, S5, Sobj, Slen, Obj.all, Obj.len, Obj.take, Res.all, Res.len, Res.take, Res.drop, Res.sall, Obj.sall, resL_three, three_some, *]
        | (refine allK_intro fun n hn => ?_; try simp only [fresh_set] at hn)
        | (refine ifK_intro (fun h => ?_) (fun h => ?_) <;> (try simp only [decide_eq_true_eq, decide_eq_false_iff_not, Bool.not_eq_true', Bool.not_eq_false'] at h) <;> try (exfalso; (try simp only [beq_iff_eq, beq_eq_false_iff_ne, bne_iff_ne, bne_eq_false_iff_eq, ne_eq] at h); omega))
        | (refine keeps_sub (Mem.sub_set ?_) ?_; focus (simp [Mem.set_at, nomem, *]; done))
        | (refine keeps_stab ?_ ?_; focus ((repeat' first | exact stabK_nil _ _ | refine stabK_cons ?_ ?_ | (simp (disch := omega) only [quietA, Option.isSome_some, ↓rulesA, rulesB, rulesC, Int.reduceLT, nth, upd, put, storeN, AV.one, Nat.reduceBEq, Nat.reduceBNe, Int.reduceBEq, Int.reduceBNe, Int.reduceLE, Int.reduceEq, Int.reduceMod, Int.reduceNeg, boolBin, strBin, intBin, unA, fillA, ne_eq, reduceCtorEq, Nat.reduceAdd, Nat.reduceSub, Nat.reduceLeDiff, Nat.reduceLT, Nat.reduceEqDiff, Int.reduceToNat, eq_self, rulesT, bne_self_eq_false, mm_min, mm_max, buOf_some, nilCheck_vp, nilCheck_ptr, nilCheck_yld, nilCheck_func, S5, Sobj, Slen, Obj.all, Obj.len, Obj.take, Res.all, Res.len, Res.take, Res.drop, Res.sall, Obj.sall, resL_three, three_some, *]; done)); done))
      all_goals exact New.eq (by simp only [outO, h]; rfl) rfl
  · have hdo : doOk who op = false := by unfold doOk; simp_all
    have eS : doS o false who op = sheetOf o false who op := if_neg (by rw [hdo]; decide)
    have eR : doR o false who op = errR 27 := if_neg (by rw [hdo]; decide)
    rw [eS, eR]
    exact New.eq rfl rfl
  · have hdo : doOk who op = false := by unfold doOk; simp_all
    have eS : doS o false who op = sheetOf o false who op := if_neg (by rw [hdo]; decide)
    have eR : doR o false who op = errR 27 := if_neg (by rw [hdo]; decide)
    rw [eS, eR]
    exact New.eq rfl rfl
  · refine lit_vs (lit_64 _) rfl ?_
    have hok : opOk op = true := by assumption
    have hdo : doOk who op = true := by unfold doOk; simp_all
    have eS : doS o true who op = actS (sheetOf o true who op) := if_pos hdo
    have eR : doR o true who op = actR (sheetOf o true who op) := if_pos hdo
    rw [eS, eR]
    have hks := op_kind hok
    clear eS eR hdo
    have hes : sheetOf o true who op = ⟨o, true, who, op⟩ := rfl
    rw [hes]
    have hsm' : (op.kind = 1 ∨ op.kind = 2 ∨ op.kind = 3 ∨ op.kind = 5) → Small ⟨o, true, who, op⟩ := (hsm : _ → _) hok
    replace hsm' : Kept _ := hsm'
    clear hes hsm
    rcases hks with hk | hk | hk | hk | hk | hk | hk | hk | hk | hk
    · repeat' first
        | simp -dsimp (disch := omega) only [↓rulesA, rulesB, rulesC, Int.reduceLT, nth, upd, put, storeN, AV.one, Nat.reduceBEq, Nat.reduceBNe, Int.reduceBEq, Int.reduceBNe, Int.reduceLE, Int.reduceEq, Int.reduceMod, Int.reduceNeg, boolBin, strBin, intBin, unA, fillA, ne_eq, reduceCtorEq, Nat.reduceAdd, Nat.reduceSub, Nat.reduceLeDiff, Nat.reduceLT, Nat.reduceEqDiff, Int.reduceToNat, eq_self, rulesT, bne_self_eq_false, mm_min, mm_max, buOf_some, nilCheck_vp, nilCheck_ptr, nilCheck_yld, nilCheck_func, Opr.g0, Opr.len, hk, ix1, *]
        | (refine allK_intro fun n hn => ?_; try simp only [fresh_set] at hn)
        | (refine ifK_intro (fun h => ?_) (fun h => ?_) <;> (try simp only [decide_eq_true_eq, decide_eq_false_iff_not, Bool.not_eq_true', Bool.not_eq_false'] at h) <;> try (exfalso; (try simp only [beq_iff_eq, beq_eq_false_iff_ne, bne_iff_ne, bne_eq_false_iff_eq, ne_eq] at h); omega))
        | (refine keeps_sub (Mem.sub_set ?_) ?_; focus (simp [Mem.set_at, nomem, *]; done))
        | (refine keeps_stab ?_ ?_; focus ((repeat' first | exact stabK_nil _ _ | refine stabK_cons ?_ ?_ | (simp (disch := omega) only [quietA, Option.isSome_some, ↓rulesA, rulesB, rulesC, Int.reduceLT, nth, upd, put, storeN, AV.one, Nat.reduceBEq, Nat.reduceBNe, Int.reduceBEq, Int.reduceBNe, Int.reduceLE, Int.reduceEq, Int.reduceMod, Int.reduceNeg, boolBin, strBin, intBin, unA, fillA, ne_eq, reduceCtorEq, Nat.reduceAdd, Nat.reduceSub, Nat.reduceLeDiff, Nat.reduceLT, Nat.reduceEqDiff, Int.reduceToNat, eq_self, rulesT, bne_self_eq_false, mm_min, mm_max, buOf_some, nilCheck_vp, nilCheck_ptr, nilCheck_yld, nilCheck_func, Opr.g0, Opr.len, hk, ix1, *]; done)); done))
      refine call_obj (A1 ⟨o, true, who, op⟩ _ hk ((hsm' : _ → _) (.inl hk))) (by simp [Mem.set_at, *]) fun r m' ⟨g1, g2⟩ => ⟨_, g2, ?_⟩
      subst g1
      generalize actS ⟨o, true, who, op⟩ = q at *
      generalize actR ⟨o, true, who, op⟩ = R at *
      repeat' first
        | simp -dsimp (disch := omega) only [↓rulesA, rulesB, rulesC, Int.reduceLT, nth, upd, put, storeN, AV.one, Nat.reduceBEq, Nat.reduceBNe, Int.reduceBEq, Int.reduceBNe, Int.reduceLE, Int.reduceEq, Int.reduceMod, Int.reduceNeg, boolBin, strBin, intBin, unA, fillA, ne_eq, reduceCtorEq, Nat.reduceAdd, Nat.reduceSub, Nat.reduceLeDiff, Nat.reduceLT, Nat.reduceEqDiff, Int.reduceToNat, eq_self, rulesT, bne_self_eq_false, mm_min, mm_max, buOf_some, nilCheck_vp, nilCheck_ptr, nilCheck_yld, nilCheck_func, S5, Sobj, Slen, Obj.all, Obj.len, Obj.take, Res.all, Res.len, Res.take, Res.drop, Res.sall, Obj.sall, resL_three, three_some, *]
        | (refine allK_intro fun n hn => ?_; try simp only [fresh_set] at hn)
        | (refine ifK_intro (fun h => ?_) (fun h => ?_) <;> (try simp only [decide_eq_true_eq, decide_eq_false_iff_not, Bool.not_eq_true', Bool.not_eq_false'] at h) <;> try (exfalso; (try simp only [beq_iff_eq, beq_eq_false_iff_ne, bne_iff_ne, bne_eq_false_iff_eq, ne_eq] at h); omega))
        | (refine keeps_sub (Mem.sub_set ?_) ?_; focus (simp [Mem.set_at, nomem, *]; done))
        | (refine keeps_stab ?_ ?_; focus ((repeat' first | exact stabK_nil _ _ | refine stabK_cons ?_ ?_ | (simp (disch := omega) only [quietA, Option.isSome_some, ↓rulesA, rulesB, rulesC, Int.reduceLT, nth, upd, put, storeN, AV.one, Nat.reduceBEq, Nat.reduceBNe, Int.reduceBEq, Int.reduceBNe, Int.reduceLE, Int.reduceEq, Int.reduceMod, Int.reduceNeg, boolBin, strBin, intBin, unA, fillA, ne_eq, reduceCtorEq, Nat.reduceAdd, Nat.reduceSub, Nat.reduceLeDiff, Nat.reduceLT, Nat.reduceEqDiff, Int.reduceToNat, eq_self, rulesT, bne_self_eq_false, mm_min, mm_max, buOf_some, nilCheck_vp, nilCheck_ptr, nilCheck_yld, nilCheck_func, S5, Sobj, Slen, Obj.all, Obj.len, Obj.take, Res.all, Res.len, Res.take, Res.drop, Res.sall, Obj.sall, resL_three, three_some, *]; done)); done))
      all_goals exact New.eq (by simp only [outO, h]; rfl) rfl
    · repeat' first
        | simp -dsimp (disch := omega) only [↓rulesA, rulesB, rulesC, Int.reduceLT, nth, upd, put, storeN, AV.one, Nat.reduceBEq, Nat.reduceBNe, Int.reduceBEq, Int.reduceBNe, Int.reduceLE, Int.reduceEq, Int.reduceMod, Int.reduceNeg, boolBin, strBin, intBin, unA, fillA, ne_eq, reduceCtorEq, Nat.reduceAdd, Nat.reduceSub, Nat.reduceLeDiff, Nat.reduceLT, Nat.reduceEqDiff, Int.reduceToNat, eq_self, rulesT, bne_self_eq_false, mm_min, mm_max, buOf_some, nilCheck_vp, nilCheck_ptr, nilCheck_yld, nilCheck_func, Opr.g0, Opr.len, hk, ix2, *]
        | (refine allK_intro fun n hn => ?_; try simp only [fresh_set] at hn)
        | (refine ifK_intro (fun h => ?_) (fun h => ?_) <;> (try simp only [decide_eq_true_eq, decide_eq_false_iff_not, Bool.not_eq_true', Bool.not_eq_false'] at h) <;> try (exfalso; (try simp only [beq_iff_eq, beq_eq_false_iff_ne, bne_iff_ne, bne_eq_false_iff_eq, ne_eq] at h); omega))
        | (refine keeps_sub (Mem.sub_set ?_) ?_; focus (simp [Mem.set_at, nomem, *]; done))
        | (refine keeps_stab ?_ ?_; focus ((repeat' first | exact stabK_nil _ _ | refine stabK_cons ?_ ?_ | (simp (disch := omega) only [quietA, Option.isSome_some, ↓rulesA, rulesB, rulesC, Int.reduceLT, nth, upd, put, storeN, AV.one, Nat.reduceBEq, Nat.reduceBNe, Int.reduceBEq, Int.reduceBNe, Int.reduceLE, Int.reduceEq, Int.reduceMod, Int.reduceNeg, boolBin, strBin, intBin, unA, fillA, ne_eq, reduceCtorEq, Nat.reduceAdd, Nat.reduceSub, Nat.reduceLeDiff, Nat.reduceLT, Nat.reduceEqDiff, Int.reduceToNat, eq_self, rulesT, bne_self_eq_false, mm_min, mm_max, buOf_some, nilCheck_vp, nilCheck_ptr, nilCheck_yld, nilCheck_func, Opr.g0, Opr.len, hk, ix2, *]; done)); done))
      refine call_obj (A2 ⟨o, true, who, op⟩ _ hk ((hsm' : _ → _) (.inr (.inl hk)))) (by simp [Mem.set_at, *]) fun r m' ⟨g1, g2⟩ => ⟨_, g2, ?_⟩
      subst g1
      generalize actS ⟨o, true, who, op⟩ = q at *
      generalize actR ⟨o, true, who, op⟩ = R at *
      repeat' first
        | simp -dsimp (disch := omega) only [↓rulesA, rulesB, rulesC, Int.reduceLT, nth, upd, put, storeN, AV.one, Nat.reduceBEq, Nat.reduceBNe, Int.reduceBEq, Int.reduceBNe, Int.reduceLE, Int.reduceEq, Int.reduceMod, Int.reduceNeg, boolBin, strBin, intBin, unA, fillA, ne_eq, reduceCtorEq, Nat.reduceAdd, Nat.reduceSub, Nat.reduceLeDiff, Nat.reduceLT, Nat.reduceEqDiff, Int.reduceToNat, eq_self, rulesT, bne_self_eq_false, mm_min, mm_max, buOf_some, nilCheck_vp, nilCheck_ptr, nilCheck_yld, nilCheck_func, S5, Sobj, Slen, Obj.all, Obj.len, Obj.take, Res.all, Res.len, Res.take, Res.drop, Res.sall, Obj.sall, resL_three, three_some, *]
        | (refine allK_intro fun n hn => ?_; try simp only [fresh_set] at hn)
        | (refine ifK_intro (fun h => ?_) (fun h => ?_) <;> (try simp only [decide_eq_true_eq, decide_eq_false_iff_not, Bool.not_eq_true', Bool.not_eq_false'] at h) <;> try (exfalso; (try simp only [beq_iff_eq, beq_eq_false_iff_ne, bne_iff_ne, bne_eq_false_iff_eq, ne_eq] at h); omega))
        | (refine keeps_sub (Mem.sub_set ?_) ?_; focus (simp [Mem.set_at, nomem, *]; done))
        | (refine keeps_stab ?_ ?_; focus ((repeat' first | exact stabK_nil _ _ | refine stabK_cons ?_ ?_ | (simp (disch := omega) only [quietA, Option.isSome_some, ↓rulesA, rulesB, rulesC, Int.reduceLT, nth, upd, put, storeN, AV.one, Nat.reduceBEq, Nat.reduceBNe, Int.reduceBEq, Int.reduceBNe, Int.reduceLE, Int.reduceEq, Int.reduceMod, Int.reduceNeg, boolBin, strBin, intBin, unA, fillA, ne_eq, reduceCtorEq, Nat.reduceAdd, Nat.reduceSub, Nat.reduceLeDiff, Nat.reduceLT, Nat.reduceEqDiff, Int.reduceToNat, eq_self, rulesT, bne_self_eq_false, mm_min, mm_max, buOf_some, nilCheck_vp, nilCheck_ptr, nilCheck_yld, nilCheck_func, S5, Sobj, Slen, Obj.all, Obj.len, Obj.take, Res.all, Res.len, Res.take, Res.drop, Res.sall, Obj.sall, resL_three, three_some, *]; done)); done))
      all_goals exact New.eq (by simp only [outO, h]; rfl) rfl
    · repeat' first
        | simp -dsimp (disch := omega) only [↓rulesA, rulesB, rulesC, Int.reduceLT, nth, upd, put, storeN, AV.one, Nat.reduceBEq, Nat.reduceBNe, Int.reduceBEq, Int.reduceBNe, Int.reduceLE, Int.reduceEq, Int.reduceMod, Int.reduceNeg, boolBin, strBin, intBin, unA, fillA, ne_eq, reduceCtorEq, Nat.reduceAdd, Nat.reduceSub, Nat.reduceLeDiff, Nat.reduceLT, Nat.reduceEqDiff, Int.reduceToNat, eq_self, rulesT, bne_self_eq_false, mm_min, mm_max, buOf_some, nilCheck_vp, nilCheck_ptr, nilCheck_yld, nilCheck_func, Opr.g0, Opr.len, hk, ix3, *]
        | (refine allK_intro fun n hn => ?_; try simp only [fresh_set] at hn)
        | (refine ifK_intro (fun h => ?_) (fun h => ?_) <;> (try simp only [decide_eq_true_eq, decide_eq_false_iff_not, Bool.not_eq_true', Bool.not_eq_false'] at h) <;> try (exfalso; (try simp only [beq_iff_eq, beq_eq_false_iff_ne, bne_iff_ne, bne_eq_false_iff_eq, ne_eq] at h); omega))
        | (refine keeps_sub (Mem.sub_set ?_) ?_; focus (simp [Mem.set_at, nomem, *]; done))
        | (refine keeps_stab ?_ ?_; focus ((repeat' first | exact stabK_nil _ _ | refine stabK_cons ?_ ?_ | (simp (disch := omega) only [quietA, Option.isSome_some, ↓rulesA, rulesB, rulesC, Int.reduceLT, nth, upd, put, storeN, AV.one, Nat.reduceBEq, Nat.reduceBNe, Int.reduceBEq, Int.reduceBNe, Int.reduceLE, Int.reduceEq, Int.reduceMod, Int.reduceNeg, boolBin, strBin, intBin, unA, fillA, ne_eq, reduceCtorEq, Nat.reduceAdd, Nat.reduceSub, Nat.reduceLeDiff, Nat.reduceLT, Nat.reduceEqDiff, Int.reduceToNat, eq_self, rulesT, bne_self_eq_false, mm_min, mm_max, buOf_some, nilCheck_vp, nilCheck_ptr, nilCheck_yld, nilCheck_func, Opr.g0, Opr.len, hk, ix3, *]; done)); done))
      refine call_obj (A3 ⟨o, true, who, op⟩ _ hk ((hsm' : _ → _) (.inr (.inr (.inl hk))))) (by simp [Mem.set_at, *]) fun r m' ⟨g1, g2⟩ => ⟨_, g2, ?_⟩
      subst g1
      generalize actS ⟨o, true, who, op⟩ = q at *
      generalize actR ⟨o, true, who, op⟩ = R at *
      repeat' first
        | simp -dsimp (disch := omega) only [↓rulesA, rulesB, rulesC, Int.reduceLT, nth, upd, put, storeN, AV.one, Nat.reduceBEq, Nat.reduceBNe, Int.reduceBEq, Int.reduceBNe, Int.reduceLE, Int.reduceEq, Int.reduceMod, Int.reduceNeg, boolBin, strBin, intBin, unA, fillA, ne_eq, reduceCtorEq, Nat.reduceAdd, Nat.reduceSub, Nat.reduceLeDiff, Nat.reduceLT, Nat.reduceEqDiff, Int.reduceToNat, eq_self, rulesT, bne_self_eq_false, mm_min, mm_max, buOf_some, nilCheck_vp, nilCheck_ptr, nilCheck_yld, nilCheck_func, S5, Sobj, Slen, Obj.all, Obj.len, Obj.take, Res.all, Res.len, Res.take, Res.drop, Res.sall, Obj.sall, resL_three, three_some, *]
        | (refine allK_intro fun n hn => ?_; try simp only [fresh_set] at hn)
        | (refine ifK_intro (fun h => ?_) (fun h => ?_) <;> (try simp only [decide_eq_true_eq, decide_eq_false_iff_not, Bool.not_eq_true', Bool.not_eq_false'] at h) <;> try (exfalso; (try simp only [beq_iff_eq, beq_eq_false_iff_ne, bne_iff_ne, bne_eq_false_iff_eq, ne_eq] at h); omega))
        | (refine keeps_sub (Mem.sub_set ?_) ?_; focus (simp [Mem.set_at, nomem, *]; done))
        | (refine keeps_stab ?_ ?_; focus ((repeat' first | exact stabK_nil _ _ | refine stabK_cons ?_ ?_ | (simp (disch := omega) only [quietA, Option.isSome_some, ↓rulesA, rulesB, rulesC, Int.reduceLT, nth, upd, put, storeN, AV.one, Nat.reduceBEq, Nat.reduceBNe, Int.reduceBEq, Int.reduceBNe, Int.reduceLE, Int.reduceEq, Int.reduceMod, Int.reduceNeg, boolBin, strBin, intBin, unA, fillA, ne_eq, reduceCtorEq, Nat.reduceAdd, Nat.reduceSub, Nat.reduceLeDiff, Nat.reduceLT, Nat.reduceEqDiff, Int.reduceToNat, eq_self, rulesT, bne_self_eq_false, mm_min, mm_max, buOf_some, nilCheck_vp, nilCheck_ptr, nilCheck_yld, nilCheck_func, S5, Sobj, Slen, Obj.all, Obj.len, Obj.take, Res.all, Res.len, Res.take, Res.drop, Res.sall, Obj.sall, resL_three, three_some, *]; done)); done))
      all_goals exact New.eq (by simp only [outO, h]; rfl) rfl
    · repeat' first
        | simp -dsimp (disch := omega) only [↓rulesA, rulesB, rulesC, Int.reduceLT, nth, upd, put, storeN, AV.one, Nat.reduceBEq, Nat.reduceBNe, Int.reduceBEq, Int.reduceBNe, Int.reduceLE, Int.reduceEq, Int.reduceMod, Int.reduceNeg, boolBin, strBin, intBin, unA, fillA, ne_eq, reduceCtorEq, Nat.reduceAdd, Nat.reduceSub, Nat.reduceLeDiff, Nat.reduceLT, Nat.reduceEqDiff, Int.reduceToNat, eq_self, rulesT, bne_self_eq_false, mm_min, mm_max, buOf_some, nilCheck_vp, nilCheck_ptr, nilCheck_yld, nilCheck_func, Opr.g0, Opr.len, hk, ix4, *]
        | (refine allK_intro fun n hn => ?_; try simp only [fresh_set] at hn)
        | (refine ifK_intro (fun h => ?_) (fun h => ?_) <;> (try simp only [decide_eq_true_eq, decide_eq_false_iff_not, Bool.not_eq_true', Bool.not_eq_false'] at h) <;> try (exfalso; (try simp only [beq_iff_eq, beq_eq_false_iff_ne, bne_iff_ne, bne_eq_false_iff_eq, ne_eq] at h); omega))
        | (refine keeps_sub (Mem.sub_set ?_) ?_; focus (simp [Mem.set_at, nomem, *]; done))
        | (refine keeps_stab ?_ ?_; focus ((repeat' first | exact stabK_nil _ _ | refine stabK_cons ?_ ?_ | (simp (disch := omega) only [quietA, Option.isSome_some, ↓rulesA, rulesB, rulesC, Int.reduceLT, nth, upd, put, storeN, AV.one, Nat.reduceBEq, Nat.reduceBNe, Int.reduceBEq, Int.reduceBNe, Int.reduceLE, Int.reduceEq, Int.reduceMod, Int.reduceNeg, boolBin, strBin, intBin, unA, fillA, ne_eq, reduceCtorEq, Nat.reduceAdd, Nat.reduceSub, Nat.reduceLeDiff, Nat.reduceLT, Nat.reduceEqDiff, Int.reduceToNat, eq_self, rulesT, bne_self_eq_false, mm_min, mm_max, buOf_some, nilCheck_vp, nilCheck_ptr, nilCheck_yld, nilCheck_func, Opr.g0, Opr.len, hk, ix4, *]; done)); done))
      refine call_obj (A4 ⟨o, true, who, op⟩ _ hk) (by simp [Mem.set_at, *]) fun r m' ⟨g1, g2⟩ => ⟨_, g2, ?_⟩
      subst g1
      generalize actS ⟨o, true, who, op⟩ = q at *
      generalize actR ⟨o, true, who, op⟩ = R at *
      repeat' first
        | simp -dsimp (disch := omega) only [↓rulesA, rulesB, rulesC, Int.reduceLT, nth, upd, put, storeN, AV.one, Nat.reduceBEq, Nat.reduceBNe, Int.reduceBEq, Int.reduceBNe, Int.reduceLE, Int.reduceEq, Int.reduceMod, Int.reduceNeg, boolBin, strBin, intBin, unA, fillA, ne_eq, reduceCtorEq, Nat.reduceAdd, Nat.reduceSub, Nat.reduceLeDiff, Nat.reduceLT, Nat.reduceEqDiff, Int.reduceToNat, eq_self, rulesT, bne_self_eq_false, mm_min, mm_max, buOf_some, nilCheck_vp, nilCheck_ptr, nilCheck_yld, nilCheck_func, S5, Sobj, Slen, Obj.all, Obj.len, Obj.take, Res.all, Res.len, Res.take, Res.drop, Res.sall, Obj.sall, resL_three, three_some, *]
        | (refine allK_intro fun n hn => ?_; try simp only [fresh_set] at hn)
        | (refine ifK_intro (fun h => ?_) (fun h => ?_) <;> (try simp only [decide_eq_true_eq, decide_eq_false_iff_not, Bool.not_eq_true', Bool.not_eq_false'] at h) <;> try (exfalso; (try simp only [beq_iff_eq, beq_eq_false_iff_ne, bne_iff_ne, bne_eq_false_iff_eq, ne_eq] at h); omega))
        | (refine keeps_sub (Mem.sub_set ?_) ?_; focus (simp [Mem.set_at, nomem, *]; done))
        | (refine keeps_stab ?_ ?_; focus ((repeat' first | exact stabK_nil _ _ | refine stabK_cons ?_ ?_ | (simp (disch := omega) only [quietA, Option.isSome_some, ↓rulesA, rulesB, rulesC, Int.reduceLT, nth, upd, put, storeN, AV.one, Nat.reduceBEq, Nat.reduceBNe, Int.reduceBEq, Int.reduceBNe, Int.reduceLE, Int.reduceEq, Int.reduceMod, Int.reduceNeg, boolBin, strBin, intBin, unA, fillA, ne_eq, reduceCtorEq, Nat.reduceAdd, Nat.reduceSub, Nat.reduceLeDiff, Nat.reduceLT, Nat.reduceEqDiff, Int.reduceToNat, eq_self, rulesT, bne_self_eq_false, mm_min, mm_max, buOf_some, nilCheck_vp, nilCheck_ptr, nilCheck_yld, nilCheck_func, S5, Sobj, Slen, Obj.all, Obj.len, Obj.take, Res.all, Res.len, Res.take, Res.drop, Res.sall, Obj.sall, resL_three, three_some, *]; done)); done))
      all_goals exact New.eq (by simp only [outO, h]; rfl) rfl
    · repeat' first
        | simp -dsimp (disch := omega) only [↓rulesA, rulesB, rulesC, Int.reduceLT, nth, upd, put, storeN, AV.one, Nat.reduceBEq, Nat.reduceBNe, Int.reduceBEq, Int.reduceBNe, Int.reduceLE, Int.reduceEq, Int.reduceMod, Int.reduceNeg, boolBin, strBin, intBin, unA, fillA, ne_eq, reduceCtorEq, Nat.reduceAdd, Nat.reduceSub, Nat.reduceLeDiff, Nat.reduceLT, Nat.reduceEqDiff, Int.reduceToNat, eq_self, rulesT, bne_self_eq_false, mm_min, mm_max, buOf_some, nilCheck_vp, nilCheck_ptr, nilCheck_yld, nilCheck_func, Opr.g0, Opr.len, hk, ix5, *]
        | (refine allK_intro fun n hn => ?_; try simp only [fresh_set] at hn)
        | (refine ifK_intro (fun h => ?_) (fun h => ?_) <;> (try simp only [decide_eq_true_eq, decide_eq_false_iff_not, Bool.not_eq_true', Bool.not_eq_false'] at h) <;> try (exfalso; (try simp only [beq_iff_eq, beq_eq_false_iff_ne, bne_iff_ne, bne_eq_false_iff_eq, ne_eq] at h); omega))
        | (refine keeps_sub (Mem.sub_set ?_) ?_; focus (simp [Mem.set_at, nomem, *]; done))
        | (refine keeps_stab ?_ ?_; focus ((repeat' first | exact stabK_nil _ _ | refine stabK_cons ?_ ?_ | (simp (disch := omega) only [quietA, Option.isSome_some, ↓rulesA, rulesB, rulesC, Int.reduceLT, nth, upd, put, storeN, AV.one, Nat.reduceBEq, Nat.reduceBNe, Int.reduceBEq, Int.reduceBNe, Int.reduceLE, Int.reduceEq, Int.reduceMod, Int.reduceNeg, boolBin, strBin, intBin, unA, fillA, ne_eq, reduceCtorEq, Nat.reduceAdd, Nat.reduceSub, Nat.reduceLeDiff, Nat.reduceLT, Nat.reduceEqDiff, Int.reduceToNat, eq_self, rulesT, bne_self_eq_false, mm_min, mm_max, buOf_some, nilCheck_vp, nilCheck_ptr, nilCheck_yld, nilCheck_func, Opr.g0, Opr.len, hk, ix5, *]; done)); done))
      refine call_obj (A5 ⟨o, true, who, op⟩ _ hk ((hsm' : _ → _) (.inr (.inr (.inr hk))))) (by simp [Mem.set_at, *]) fun r m' ⟨g1, g2⟩ => ⟨_, g2, ?_⟩
      subst g1
      generalize actS ⟨o, true, who, op⟩ = q at *
      generalize actR ⟨o, true, who, op⟩ = R at *
      repeat' first
        | simp -dsimp (disch := omega) only [↓rulesA, rulesB, rulesC, Int.reduceLT, nth, upd, put, storeN, AV.one, Nat.reduceBEq, Nat.reduceBNe, Int.reduceBEq, Int.reduceBNe, Int.reduceLE, Int.reduceEq, Int.reduceMod, Int.reduceNeg, boolBin, strBin, intBin, unA, fillA, ne_eq, reduceCtorEq, Nat.reduceAdd, Nat.reduceSub, Nat.reduceLeDiff, Nat.reduceLT, Nat.reduceEqDiff, Int.reduceToNat, eq_self, rulesT, bne_self_eq_false, mm_min, mm_max, buOf_some, nilCheck_vp, nilCheck_ptr, nilCheck_yld, nilCheck_func, S5, Sobj, Slen, Obj.all, Obj.len, Obj.take, Res.all, Res.len, Res.take, Res.drop, Res.sall, Obj.sall, resL_three, three_some, *]
        | (refine allK_intro fun n hn => ?_; try simp only [fresh_set] at hn)
        | (refine ifK_intro (fun h => ?_) (fun h => ?_) <;> (try simp only [decide_eq_true_eq, decide_eq_false_iff_not, Bool.not_eq_true', Bool.not_eq_false'] at h) <;> try (exfalso; (try simp only [beq_iff_eq, beq_eq_false_iff_ne, bne_iff_ne, bne_eq_false_iff_eq, ne_eq] at h); omega))
        | (refine keeps_sub (Mem.sub_set ?_) ?_; focus (simp [Mem.set_at, nomem, *]; done))
        | (refine keeps_stab ?_ ?_; focus ((repeat' first | exact stabK_nil _ _ | refine stabK_cons ?_ ?_ | (simp (disch := omega) only [quietA, Option.isSome_some, ↓rulesA, rulesB, rulesC, Int.reduceLT, nth, upd, put, storeN, AV.one, Nat.reduceBEq, Nat.reduceBNe, Int.reduceBEq, Int.reduceBNe, Int.reduceLE, Int.reduceEq, Int.reduceMod, Int.reduceNeg, boolBin, strBin, intBin, unA, fillA, ne_eq, reduceCtorEq, Nat.reduceAdd, Nat.reduceSub, Nat.reduceLeDiff, Nat.reduceLT, Nat.reduceEqDiff, Int.reduceToNat, eq_self, rulesT, bne_self_eq_false, mm_min, mm_max, buOf_some, nilCheck_vp, nilCheck_ptr, nilCheck_yld, nilCheck_func, S5, Sobj, Slen, Obj.all, Obj.len, Obj.take, Res.all, Res.len, Res.take, Res.drop, Res.sall, Obj.sall, resL_three, three_some, *]; done)); done))
      all_goals exact New.eq (by simp only [outO, h]; rfl) rfl
    · repeat' first
        | simp -dsimp (disch := omega) only [↓rulesA, rulesB, rulesC, Int.reduceLT, nth, upd, put, storeN, AV.one, Nat.reduceBEq, Nat.reduceBNe, Int.reduceBEq, Int.reduceBNe, Int.reduceLE, Int.reduceEq, Int.reduceMod, Int.reduceNeg, boolBin, strBin, intBin, unA, fillA, ne_eq, reduceCtorEq, Nat.reduceAdd, Nat.reduceSub, Nat.reduceLeDiff, Nat.reduceLT, Nat.reduceEqDiff, Int.reduceToNat, eq_self, rulesT, bne_self_eq_false, mm_min, mm_max, buOf_some, nilCheck_vp, nilCheck_ptr, nilCheck_yld, nilCheck_func, Opr.g0, Opr.len, hk, ix6, *]
        | (refine allK_intro fun n hn => ?_; try simp only [fresh_set] at hn)
        | (refine ifK_intro (fun h => ?_) (fun h => ?_) <;> (try simp only [decide_eq_true_eq, decide_eq_false_iff_not, Bool.not_eq_true', Bool.not_eq_false'] at h) <;> try (exfalso; (try simp only [beq_iff_eq, beq_eq_false_iff_ne, bne_iff_ne, bne_eq_false_iff_eq, ne_eq] at h); omega))
        | (refine keeps_sub (Mem.sub_set ?_) ?_; focus (simp [Mem.set_at, nomem, *]; done))
        | (refine keeps_stab ?_ ?_; focus ((repeat' first | exact stabK_nil _ _ | refine stabK_cons ?_ ?_ | (simp (disch := omega) only [quietA, Option.isSome_some, ↓rulesA, rulesB, rulesC, Int.reduceLT, nth, upd, put, storeN, AV.one, Nat.reduceBEq, Nat.reduceBNe, Int.reduceBEq, Int.reduceBNe, Int.reduceLE, Int.reduceEq, Int.reduceMod, Int.reduceNeg, boolBin, strBin, intBin, unA, fillA, ne_eq, reduceCtorEq, Nat.reduceAdd, Nat.reduceSub, Nat.reduceLeDiff, Nat.reduceLT, Nat.reduceEqDiff, Int.reduceToNat, eq_self, rulesT, bne_self_eq_false, mm_min, mm_max, buOf_some, nilCheck_vp, nilCheck_ptr, nilCheck_yld, nilCheck_func, Opr.g0, Opr.len, hk, ix6, *]; done)); done))
      refine call_obj (A6 ⟨o, true, who, op⟩ _ hk) (by simp [Mem.set_at, *]) fun r m' ⟨g1, g2⟩ => ⟨_, g2, ?_⟩
      subst g1
      generalize actS ⟨o, true, who, op⟩ = q at *
      generalize actR ⟨o, true, who, op⟩ = R at *
      repeat' first
        | simp -dsimp (disch := omega) only [↓rulesA, rulesB, rulesC, Int.reduceLT, nth, upd, put, storeN, AV.one, Nat.reduceBEq, Nat.reduceBNe, Int.reduceBEq, Int.reduceBNe, Int.reduceLE, Int.reduceEq, Int.reduceMod, Int.reduceNeg, boolBin, strBin, intBin, unA, fillA, ne_eq, reduceCtorEq, Nat.reduceAdd, Nat.reduceSub, Nat.reduceLeDiff, Nat.reduceLT, Nat.reduceEqDiff, Int.reduceToNat, eq_self, rulesT, bne_self_eq_false, mm_min, mm_max, buOf_some, nilCheck_vp, nilCheck_ptr, nilCheck_yld, nilCheck_func, S5, Sobj, Slen, Obj.all, Obj.len, Obj.take, Res.all, Res.len, Res.take, Res.drop, Res.sall, Obj.sall, resL_three, three_some, *]
        | (refine allK_intro fun n hn => ?_; try simp only [fresh_set] at hn)
        | (refine ifK_intro (fun h => ?_) (fun h => ?_) <;> (try simp only [decide_eq_true_eq, decide_eq_false_iff_not, Bool.not_eq_true', Bool.not_eq_false'] at h) <;> try (exfalso; (try simp only [beq_iff_eq, beq_eq_false_iff_ne, bne_iff_ne, bne_eq_false_iff_eq, ne_eq] at h); omega))
        | (refine keeps_sub (Mem.sub_set ?_) ?_; focus (simp [Mem.set_at, nomem, *]; done))
        | (refine keeps_stab ?_ ?_; focus ((repeat' first | exact stabK_nil _ _ | refine stabK_cons ?_ ?_ | (simp (disch := omega) only [quietA, Option.isSome_some, ↓rulesA, rulesB, rulesC, Int.reduceLT, nth, upd, put, storeN, AV.one, Nat.reduceBEq, Nat.reduceBNe, Int.reduceBEq, Int.reduceBNe, Int.reduceLE, Int.reduceEq, Int.reduceMod, Int.reduceNeg, boolBin, strBin, intBin, unA, fillA, ne_eq, reduceCtorEq, Nat.reduceAdd, Nat.reduceSub, Nat.reduceLeDiff, Nat.reduceLT, Nat.reduceEqDiff, Int.reduceToNat, eq_self, rulesT, bne_self_eq_false, mm_min, mm_max, buOf_some, nilCheck_vp, nilCheck_ptr, nilCheck_yld, nilCheck_func, S5, Sobj, Slen, Obj.all, Obj.len, Obj.take, Res.all, Res.len, Res.take, Res.drop, Res.sall, Obj.sall, resL_three, three_some, *]; done)); done))
      all_goals exact New.eq (by simp only [outO, h]; rfl) rfl
    · repeat' first
        | simp -dsimp (disch := omega) only [↓rulesA, rulesB, rulesC, Int.reduceLT, nth, upd, put, storeN, AV.one, Nat.reduceBEq, Nat.reduceBNe, Int.reduceBEq, Int.reduceBNe, Int.reduceLE, Int.reduceEq, Int.reduceMod, Int.reduceNeg, boolBin, strBin, intBin, unA, fillA, ne_eq, reduceCtorEq, Nat.reduceAdd, Nat.reduceSub, Nat.reduceLeDiff, Nat.reduceLT, Nat.reduceEqDiff, Int.reduceToNat, eq_self, rulesT, bne_self_eq_false, mm_min, mm_max, buOf_some, nilCheck_vp, nilCheck_ptr, nilCheck_yld, nilCheck_func, Opr.g0, Opr.len, hk, ix7, *]
        | (refine allK_intro fun n hn => ?_; try simp only [fresh_set] at hn)
        | (refine ifK_intro (fun h => ?_) (fun h => ?_) <;> (try simp only [decide_eq_true_eq, decide_eq_false_iff_not, Bool.not_eq_true', Bool.not_eq_false'] at h) <;> try (exfalso; (try simp only [beq_iff_eq, beq_eq_false_iff_ne, bne_iff_ne, bne_eq_false_iff_eq, ne_eq] at h); omega))
        | (refine keeps_sub (Mem.sub_set ?_) ?_; focus (simp [Mem.set_at, nomem, *]; done))
        | (refine keeps_stab ?_ ?_; focus ((repeat' first | exact stabK_nil _ _ | refine stabK_cons ?_ ?_ | (simp (disch := omega) only [quietA, Option.isSome_some, ↓rulesA, rulesB, rulesC, Int.reduceLT, nth, upd, put, storeN, AV.one, Nat.reduceBEq, Nat.reduceBNe, Int.reduceBEq, Int.reduceBNe, Int.reduceLE, Int.reduceEq, Int.reduceMod, Int.reduceNeg, boolBin, strBin, intBin, unA, fillA, ne_eq, reduceCtorEq, Nat.reduceAdd, Nat.reduceSub, Nat.reduceLeDiff, Nat.reduceLT, Nat.reduceEqDiff, Int.reduceToNat, eq_self, rulesT, bne_self_eq_false, mm_min, mm_max, buOf_some, nilCheck_vp, nilCheck_ptr, nilCheck_yld, nilCheck_func, Opr.g0, Opr.len, hk, ix7, *]; done)); done))
      refine call_obj (A7 ⟨o, true, who, op⟩ _ hk) (by simp [Mem.set_at, *]) fun r m' ⟨g1, g2⟩ => ⟨_, g2, ?_⟩
      subst g1
      generalize actS ⟨o, true, who, op⟩ = q at *
      generalize actR ⟨o, true, who, op⟩ = R at *
      repeat' first
        | simp -dsimp (disch := omega) only [↓rulesA, rulesB, rulesC, Int.reduceLT, nth, upd, put, storeN, AV.one, Nat.reduceBEq, Nat.reduceBNe, Int.reduceBEq, Int.reduceBNe, Int.reduceLE, Int.reduceEq, Int.reduceMod, Int.reduceNeg, boolBin, strBin, intBin, unA, fillA, ne_eq, reduceCtorEq, Nat.reduceAdd, Nat.reduceSub, Nat.reduceLeDiff, Nat.reduceLT, Nat.reduceEqDiff, Int.reduceToNat, eq_self, rulesT, bne_self_eq_false, mm_min, mm_max, buOf_some, nilCheck_vp, nilCheck_ptr, nilCheck_yld, nilCheck_func, S5, Sobj, Slen, Obj.all, Obj.len, Obj.take, Res.all, Res.len, Res.take, Res.drop, Res.sall, Obj.sall, resL_three, three_some, *]
        | (refine allK_intro fun n hn => ?_; try simp only [fresh_set] at hn)
        | (refine ifK_intro (fun h => ?_) (fun h => ?_) <;> (try simp only [decide_eq_true_eq, decide_eq_false_iff_not, Bool.not_eq_true', Bool.not_eq_false'] at h) <;> try (exfalso; (try simp only [beq_iff_eq, beq_eq_false_iff_ne, bne_iff_ne, bne_eq_false_iff_eq, ne_eq] at h); omega))
        | (refine keeps_sub (Mem.sub_set ?_) ?_; focus (simp [Mem.set_at, nomem, *]; done))
        | (refine keeps_stab ?_ ?_; focus ((repeat' first | exact stabK_nil _ _ | refine stabK_cons ?_ ?_ | (simp (disch := omega) only [quietA, Option.isSome_some, ↓rulesA, rulesB, rulesC, Int.reduceLT, nth, upd, put, storeN, AV.one, Nat.reduceBEq, Nat.reduceBNe, Int.reduceBEq, Int.reduceBNe, Int.reduceLE, Int.reduceEq, Int.reduceMod, Int.reduceNeg, boolBin, strBin, intBin, unA, fillA, ne_eq, reduceCtorEq, Nat.reduceAdd, Nat.reduceSub, Nat.reduceLeDiff, Nat.reduceLT, Nat.reduceEqDiff, Int.reduceToNat, eq_self, rulesT, bne_self_eq_false, mm_min, mm_max, buOf_some, nilCheck_vp, nilCheck_ptr, nilCheck_yld, nilCheck_func, S5, Sobj, Slen, Obj.all, Obj.len, Obj.take, Res.all, Res.len, Res.take, Res.drop, Res.sall, Obj.sall, resL_three, three_some, *]; done)); done))
      all_goals exact New.eq (by simp only [outO, h]; rfl) rfl
    · repeat' first
        | simp -dsimp (disch := omega) only [↓rulesA, rulesB, rulesC, Int.reduceLT, nth, upd, put, storeN, AV.one, Nat.reduceBEq, Nat.reduceBNe, Int.reduceBEq, Int.reduceBNe, Int.reduceLE, Int.reduceEq, Int.reduceMod, Int.reduceNeg, boolBin, strBin, intBin, unA, fillA, ne_eq, reduceCtorEq, Nat.reduceAdd, Nat.reduceSub, Nat.reduceLeDiff, Nat.reduceLT, Nat.reduceEqDiff, Int.reduceToNat, eq_self, rulesT, bne_self_eq_false, mm_min, mm_max, buOf_some, nilCheck_vp, nilCheck_ptr, nilCheck_yld, nilCheck_func, Opr.g0, Opr.len, hk, ix8, *]
        | (refine allK_intro fun n hn => ?_; try simp only [fresh_set] at hn)
        | (refine ifK_intro (fun h => ?_) (fun h => ?_) <;> (try simp only [decide_eq_true_eq, decide_eq_false_iff_not, Bool.not_eq_true', Bool.not_eq_false'] at h) <;> try (exfalso; (try simp only [beq_iff_eq, beq_eq_false_iff_ne, bne_iff_ne, bne_eq_false_iff_eq, ne_eq] at h); omega))
        | (refine keeps_sub (Mem.sub_set ?_) ?_; focus (simp [Mem.set_at, nomem, *]; done))
        | (refine keeps_stab ?_ ?_; focus ((repeat' first | exact stabK_nil _ _ | refine stabK_cons ?_ ?_ | (simp (disch := omega) only [quietA, Option.isSome_some, ↓rulesA, rulesB, rulesC, Int.reduceLT, nth, upd, put, storeN, AV.one, Nat.reduceBEq, Nat.reduceBNe, Int.reduceBEq, Int.reduceBNe, Int.reduceLE, Int.reduceEq, Int.reduceMod, Int.reduceNeg, boolBin, strBin, intBin, unA, fillA, ne_eq, reduceCtorEq, Nat.reduceAdd, Nat.reduceSub, Nat.reduceLeDiff, Nat.reduceLT, Nat.reduceEqDiff, Int.reduceToNat, eq_self, rulesT, bne_self_eq_false, mm_min, mm_max, buOf_some, nilCheck_vp, nilCheck_ptr, nilCheck_yld, nilCheck_func, Opr.g0, Opr.len, hk, ix8, *]; done)); done))
      refine call_obj (A8 ⟨o, true, who, op⟩ _ hk) (by simp [Mem.set_at, *]) fun r m' ⟨g1, g2⟩ => ⟨_, g2, ?_⟩
      subst g1
      generalize actS ⟨o, true, who, op⟩ = q at *
      generalize actR ⟨o, true, who, op⟩ = R at *
      repeat' first
        | simp -dsimp (disch := omega) only [↓rulesA, rulesB, rulesC, Int.reduceLT, nth, upd, put, storeN, AV.one, Nat.reduceBEq, Nat.reduceBNe, Int.reduceBEq, Int.reduceBNe, Int.reduceLE, Int.reduceEq, Int.reduceMod, Int.reduceNeg, boolBin, strBin, intBin, unA, fillA, ne_eq, reduceCtorEq, Nat.reduceAdd, Nat.reduceSub, Nat.reduceLeDiff, Nat.reduceLT, Nat.reduceEqDiff, Int.reduceToNat, eq_self, rulesT, bne_self_eq_false, mm_min, mm_max, buOf_some, nilCheck_vp, nilCheck_ptr, nilCheck_yld, nilCheck_func, S5, Sobj, Slen, Obj.all, Obj.len, Obj.take, Res.all, Res.len, Res.take, Res.drop, Res.sall, Obj.sall, resL_three, three_some, *]
        | (refine allK_intro fun n hn => ?_; try simp only [fresh_set] at hn)
        | (refine ifK_intro (fun h => ?_) (fun h => ?_) <;> (try simp only [decide_eq_true_eq, decide_eq_false_iff_not, Bool.not_eq_true', Bool.not_eq_false'] at h) <;> try (exfalso; (try simp only [beq_iff_eq, beq_eq_false_iff_ne, bne_iff_ne, bne_eq_false_iff_eq, ne_eq] at h); omega))
        | (refine keeps_sub (Mem.sub_set ?_) ?_; focus (simp [Mem.set_at, nomem, *]; done))
        | (refine keeps_stab ?_ ?_; focus ((repeat' first | exact stabK_nil _ _ | refine stabK_cons ?_ ?_ | (simp (disch := omega) only [quietA, Option.isSome_some, ↓rulesA, rulesB, rulesC, Int.reduceLT, nth, upd, put, storeN, AV.one, Nat.reduceBEq, Nat.reduceBNe, Int.reduceBEq, Int.reduceBNe, Int.reduceLE, Int.reduceEq, Int.reduceMod, Int.reduceNeg, boolBin, strBin, intBin, unA, fillA, ne_eq, reduceCtorEq, Nat.reduceAdd, Nat.reduceSub, Nat.reduceLeDiff, Nat.reduceLT, Nat.reduceEqDiff, Int.reduceToNat, eq_self, rulesT, bne_self_eq_false, mm_min, mm_max, buOf_some, nilCheck_vp, nilCheck_ptr, nilCheck_yld, nilCheck_func, S5, Sobj, Slen, Obj.all, Obj.len, Obj.take, Res.all, Res.len, Res.take, Res.drop, Res.sall, Obj.sall, resL_three, three_some, *]; done)); done))
      all_goals exact New.eq (by simp only [outO, h]; rfl) rfl
    · repeat' first
        | simp -dsimp (disch := omega) only [↓rulesA, rulesB, rulesC, Int.reduceLT, nth, upd, put, storeN, AV.one, Nat.reduceBEq, Nat.reduceBNe, Int.reduceBEq, Int.reduceBNe, Int.reduceLE, Int.reduceEq, Int.reduceMod, Int.reduceNeg, boolBin, strBin, intBin, unA, fillA, ne_eq, reduceCtorEq, Nat.reduceAdd, Nat.reduceSub, Nat.reduceLeDiff, Nat.reduceLT, Nat.reduceEqDiff, Int.reduceToNat, eq_self, rulesT, bne_self_eq_false, mm_min, mm_max, buOf_some, nilCheck_vp, nilCheck_ptr, nilCheck_yld, nilCheck_func, Opr.g0, Opr.len, hk, ix9, *]
        | (refine allK_intro fun n hn => ?_; try simp only [fresh_set] at hn)
        | (refine ifK_intro (fun h => ?_) (fun h => ?_) <;> (try simp only [decide_eq_true_eq, decide_eq_false_iff_not, Bool.not_eq_true', Bool.not_eq_false'] at h) <;> try (exfalso; (try simp only [beq_iff_eq, beq_eq_false_iff_ne, bne_iff_ne, bne_eq_false_iff_eq, ne_eq] at h); omega))
        | (refine keeps_sub (Mem.sub_set ?_) ?_; focus (simp [Mem.set_at, nomem, *]; done))
        | (refine keeps_stab ?_ ?_; focus ((repeat' first | exact stabK_nil _ _ | refine stabK_cons ?_ ?_ | (simp (disch := omega) only [quietA, Option.isSome_some, ↓rulesA, rulesB, rulesC, Int.reduceLT, nth, upd, put, storeN, AV.one, Nat.reduceBEq, Nat.reduceBNe, Int.reduceBEq, Int.reduceBNe, Int.reduceLE, Int.reduceEq, Int.reduceMod, Int.reduceNeg, boolBin, strBin, intBin, unA, fillA, ne_eq, reduceCtorEq, Nat.reduceAdd, Nat.reduceSub, Nat.reduceLeDiff, Nat.reduceLT, Nat.reduceEqDiff, Int.reduceToNat, eq_self, rulesT, bne_self_eq_false, mm_min, mm_max, buOf_some, nilCheck_vp, nilCheck_ptr, nilCheck_yld, nilCheck_func, Opr.g0, Opr.len, hk, ix9, *]; done)); done))
      refine call_obj (A9 ⟨o, true, who, op⟩ _ hk) (by simp [Mem.set_at, *]) fun r m' ⟨g1, g2⟩ => ⟨_, g2, ?_⟩
      subst g1
      generalize actS ⟨o, true, who, op⟩ = q at *
      generalize actR ⟨o, true, who, op⟩ = R at *
      repeat' first
        | simp -dsimp (disch := omega) only [↓rulesA, rulesB, rulesC, Int.reduceLT, nth, upd, put, storeN, AV.one, Nat.reduceBEq, Nat.reduceBNe, Int.reduceBEq, Int.reduceBNe, Int.reduceLE, Int.reduceEq, Int.reduceMod, Int.reduceNeg, boolBin, strBin, intBin, unA, fillA, ne_eq, reduceCtorEq, Nat.reduceAdd, Nat.reduceSub, Nat.reduceLeDiff, Nat.reduceLT, Nat.reduceEqDiff, Int.reduceToNat, eq_self, rulesT, bne_self_eq_false, mm_min, mm_max, buOf_some, nilCheck_vp, nilCheck_ptr, nilCheck_yld, nilCheck_func, S5, Sobj, Slen, Obj.all, Obj.len, Obj.take, Res.all, Res.len, Res.take, Res.drop, Res.sall, Obj.sall, resL_three, three_some, *]
        | (refine allK_intro fun n hn => ?_; try simp only [fresh_set] at hn)
        | (refine ifK_intro (fun h => ?_) (fun h => ?_) <;> (try simp only [decide_eq_true_eq, decide_eq_false_iff_not, Bool.not_eq_true', Bool.not_eq_false'] at h) <;> try (exfalso; (try simp only [beq_iff_eq, beq_eq_false_iff_ne, bne_iff_ne, bne_eq_false_iff_eq, ne_eq] at h); omega))
        | (refine keeps_sub (Mem.sub_set ?_) ?_; focus (simp [Mem.set_at, nomem, *]; done))
        | (refine keeps_stab ?_ ?_; focus ((repeat' first | exact stabK_nil _ _ | refine stabK_cons ?_ ?_ | (simp (disch := omega) only [quietA, Option.isSome_some, ↓rulesA, rulesB, rulesC, Int.reduceLT, nth, upd, put, storeN, AV.one, Nat.reduceBEq, Nat.reduceBNe, Int.reduceBEq, Int.reduceBNe, Int.reduceLE, Int.reduceEq, Int.reduceMod, Int.reduceNeg, boolBin, strBin, intBin, unA, fillA, ne_eq, reduceCtorEq, Nat.reduceAdd, Nat.reduceSub, Nat.reduceLeDiff, Nat.reduceLT, Nat.reduceEqDiff, Int.reduceToNat, eq_self, rulesT, bne_self_eq_false, mm_min, mm_max, buOf_some, nilCheck_vp, nilCheck_ptr, nilCheck_yld, nilCheck_func, S5, Sobj, Slen, Obj.all, Obj.len, Obj.take, Res.all, Res.len, Res.take, Res.drop, Res.sall, Obj.sall, resL_three, three_some, *]; done)); done))
      all_goals exact New.eq (by simp only [outO, h]; rfl) rfl
    · repeat' first
        | simp -dsimp (disch := omega) only [↓rulesA, rulesB, rulesC, Int.reduceLT, nth, upd, put, storeN, AV.one, Nat.reduceBEq, Nat.reduceBNe, Int.reduceBEq, Int.reduceBNe, Int.reduceLE, Int.reduceEq, Int.reduceMod, Int.reduceNeg, boolBin, strBin, intBin, unA, fillA, ne_eq, reduceCtorEq, Nat.reduceAdd, Nat.reduceSub, Nat.reduceLeDiff, Nat.reduceLT, Nat.reduceEqDiff, Int.reduceToNat, eq_self, rulesT, bne_self_eq_false, mm_min, mm_max, buOf_some, nilCheck_vp, nilCheck_ptr, nilCheck_yld, nilCheck_func, Opr.g0, Opr.len, hk, ix10, *]
        | (refine allK_intro fun n hn => ?_; try simp only [fresh_set] at hn)
        | (refine ifK_intro (fun h => ?_) (fun h => ?_) <;> (try simp only [decide_eq_true_eq, decide_eq_false_iff_not, Bool.not_eq_true', Bool.not_eq_false'] at h) <;> try (exfalso; (try simp only [beq_iff_eq, beq_eq_false_iff_ne, bne_iff_ne, bne_eq_false_iff_eq, ne_eq] at h); omega))
        | (refine keeps_sub (Mem.sub_set ?_) ?_; focus (simp [Mem.set_at, nomem, *]; done))
        | (refine keeps_stab ?_ ?_; focus ((repeat' first | exact stabK_nil _ _ | refine stabK_cons ?_ ?_ | (simp (disch := omega) only [quietA, Option.isSome_some, ↓rulesA, rulesB, rulesC, Int.reduceLT, nth, upd, put, storeN, AV.one, Nat.reduceBEq, Nat.reduceBNe, Int.reduceBEq, Int.reduceBNe, Int.reduceLE, Int.reduceEq, Int.reduceMod, Int.reduceNeg, boolBin, strBin, intBin, unA, fillA, ne_eq, reduceCtorEq, Nat.reduceAdd, Nat.reduceSub, Nat.reduceLeDiff, Nat.reduceLT, Nat.reduceEqDiff, Int.reduceToNat, eq_self, rulesT, bne_self_eq_false, mm_min, mm_max, buOf_some, nilCheck_vp, nilCheck_ptr, nilCheck_yld, nilCheck_func, Opr.g0, Opr.len, hk, ix10, *]; done)); done))
      refine call_obj (A10 ⟨o, true, who, op⟩ _ hk) (by simp [Mem.set_at, *]) fun r m' ⟨g1, g2⟩ => ⟨_, g2, ?_⟩
      subst g1
      generalize actS ⟨o, true, who, op⟩ = q at *
      generalize actR ⟨o, true, who, op⟩ = R at *
      repeat' first
        | simp -dsimp (disch := omega) only [↓rulesA, rulesB, rulesC, Int.reduceLT, nth, upd, put, storeN, AV.one, Nat.reduceBEq, Nat.reduceBNe, Int.reduceBEq, Int.reduceBNe, Int.reduceLE, Int.reduceEq, Int.reduceMod, Int.reduceNeg, boolBin, strBin, intBin, unA, fillA, ne_eq, reduceCtorEq, Nat.reduceAdd, Nat.reduceSub, Nat.reduceLeDiff, Nat.reduceLT, Nat.reduceEqDiff, Int.reduceToNat, eq_self, rulesT, bne_self_eq_false, mm_min, mm_max, buOf_some, nilCheck_vp, nilCheck_ptr, nilCheck_yld, nilCheck_func, S5, Sobj, Slen, Obj.all, Obj.len, Obj.take, Res.all, Res.len, Res.take, Res.drop, Res.sall, Obj.sall, resL_three, three_some, *]
        | (refine allK_intro fun n hn => ?_; try simp only [fresh_set] at hn)
        | (refine ifK_intro (fun h => ?_) (fun h => ?_) <;> (try simp only [decide_eq_true_eq, decide_eq_false_iff_not, Bool.not_eq_true', Bool.not_eq_false'] at h) <;> try (exfalso; (try simp only [beq_iff_eq, beq_eq_false_iff_ne, bne_iff_ne, bne_eq_false_iff_eq, ne_eq] at h); omega))
        | (refine keeps_sub (Mem.sub_set ?_) ?_; focus (simp [Mem.set_at, nomem, *]; done))
        | (refine keeps_stab ?_ ?_; focus ((repeat' first | exact stabK_nil _ _ | refine stabK_cons ?_ ?_ | (simp (disch := omega) only [quietA, Option.isSome_some, ↓rulesA, rulesB, rulesC, Int.reduceLT, nth, upd, put, storeN, AV.one, Nat.reduceBEq, Nat.reduceBNe, Int.reduceBEq, Int.reduceBNe, Int.reduceLE, Int.reduceEq, Int.reduceMod, Int.reduceNeg, boolBin, strBin, intBin, unA, fillA, ne_eq, reduceCtorEq, Nat.reduceAdd, Nat.reduceSub, Nat.reduceLeDiff, Nat.reduceLT, Nat.reduceEqDiff, Int.reduceToNat, eq_self, rulesT, bne_self_eq_false, mm_min, mm_max, buOf_some, nilCheck_vp, nilCheck_ptr, nilCheck_yld, nilCheck_func, S5, Sobj, Slen, Obj.all, Obj.len, Obj.take, Res.all, Res.len, Res.take, Res.drop, Res.sall, Obj.sall, resL_three, three_some, *]; done)); done))
      all_goals exact New.eq (by simp only [outO, h]; rfl) rfl
  · have hdo : doOk who op = false := by unfold doOk; simp_all
    have eS : doS o true who op = sheetOf o true who op := if_neg (by rw [hdo]; decide)
    have eR : doR o true who op = errR 27 := if_neg (by rw [hdo]; decide)
    rw [eS, eR]
    exact New.eq rfl rfl
  · have hdo : doOk who op = false := by unfold doOk; simp_all
    have eS : doS o true who op = sheetOf o true who op := if_neg (by rw [hdo]; decide)
    have eR : doR o true who op = errR 27 := if_neg (by rw [hdo]; decide)
    rw [eS, eR]
    exact New.eq rfl rfl
end Go.Proofs.Ytanfgfclpjmngaa

set_option maxRecDepth 100000
set_option maxHeartbeats 1000000
set_option linter.unusedSimpArgs false
set_option linter.unusedVariables false
namespace Go.Proofs.Ytanfgfclpjmngaa
open Go.Abs
attribute [local irreducible] C X CC Y CV CW binK litK AppK PureC PureCV againK loopV rangeV allK ifK got onB condK V stepsK planK opK firstK seeE keepsK
def w11 : Ban := ⟨1, 1⟩
def w21 : Ban := ⟨2, 1⟩
def op1 : Opr := ⟨1, [120], 3, 0, [97, 98]⟩
def op2 : Opr := ⟨2, [120], 4, 9, []⟩
def op3 : Opr := ⟨1, [120], 60, 0, [97, 98, 99, 100, 101]⟩
def op7 : Opr := ⟨7, [120], 0, 0, []⟩
def ob1 : Obj := ⟨[120], [0, 0, 0, 97, 98], false, 0, 0⟩
def ob2 : Obj := ⟨[120], [0, 0, 0, 97, 0], false, 0, 0⟩
def ob3 : Obj := ⟨[120], [], true, 1, 1⟩
theorem c1 : F Try.prog 24 [.agg noObj.cells, .val (.bool false), .agg w11.cells, .agg op1.cells] (.tup [.agg ob1.cells, .val (.bool true), .agg (Res.cells ⟨0, 5, 0, []⟩)]) := by
  have h := F24 noObj false w11 op1 (by unfold Opr.ok; decide) (fun h => by cases h)
  rw [show doR noObj false w11 op1 = ⟨0, 5, 0, []⟩ by decide +kernel, show outO (doS noObj false w11 op1) = ob1 by decide +kernel, show (doS noObj false w11 op1).there = true by decide +kernel] at h
  exact h
theorem c2 : F Try.prog 24 [.agg ob1.cells, .val (.bool true), .agg w11.cells, .agg op2.cells] (.tup [.agg ob2.cells, .val (.bool true), .agg (Res.cells ⟨0, 5, 0, []⟩)]) := by
  have h := F24 ob1 true w11 op2 (by unfold Opr.ok; decide) (fun h => by decide)
  rw [show doR ob1 true w11 op2 = ⟨0, 5, 0, []⟩ by decide +kernel, show outO (doS ob1 true w11 op2) = ob2 by decide +kernel, show (doS ob1 true w11 op2).there = true by decide +kernel] at h
  exact h
theorem c3 : F Try.prog 24 [.agg ob2.cells, .val (.bool true), .agg w11.cells, .agg op3.cells] (.tup [.agg ob2.cells, .val (.bool true), .agg (Res.cells ⟨28, 0, 0, []⟩)]) := by
  have h := F24 ob2 true w11 op3 (by unfold Opr.ok; decide) (fun h => by decide)
  rw [show doR ob2 true w11 op3 = ⟨28, 0, 0, []⟩ by decide +kernel, show outO (doS ob2 true w11 op3) = ob2 by decide +kernel, show (doS ob2 true w11 op3).there = true by decide +kernel] at h
  exact h
theorem c4 : F Try.prog 24 [.agg noObj.cells, .val (.bool false), .agg w11.cells, .agg op7.cells] (.tup [.agg ob3.cells, .val (.bool true), .agg (Res.cells ⟨0, 0, 0, []⟩)]) := by
  have h := F24 noObj false w11 op7 (by unfold Opr.ok; decide) (fun h => by cases h)
  rw [show doR noObj false w11 op7 = ⟨0, 0, 0, []⟩ by decide +kernel, show outO (doS noObj false w11 op7) = ob3 by decide +kernel, show (doS noObj false w11 op7).there = true by decide +kernel] at h
  exact h
theorem c5 : F Try.prog 24 [.agg ob3.cells, .val (.bool true), .agg w21.cells, .agg op7.cells] (.tup [.agg ob3.cells, .val (.bool true), .agg (Res.cells ⟨29, 1, 1, []⟩)]) := by
  have h := F24 ob3 true w21 op7 (by unfold Opr.ok; decide) (fun h => by decide)
  rw [show doR ob3 true w21 op7 = ⟨29, 1, 1, []⟩ by decide +kernel, show outO (doS ob3 true w21 op7) = ob3 by decide +kernel, show (doS ob3 true w21 op7).there = true by decide +kernel] at h
  exact h
theorem tl5 (a b c d e : UInt8) : (⟨#[a, b, c, d, e]⟩ : ByteArray).toList = [a, b, c, d, e] := text_tl [a, b, c, d, e]
theorem ob1d : ob1.data = [0, 0, 0, 97, 98] := rfl
theorem ob2d : ob2.data = [0, 0, 0, 97, 0] := rfl
theorem eqr1 : cmpA Try.prog 39 .eql (.agg (Res.cells ⟨0, 5, 0, []⟩)) (.agg [.val (.int .i64 0), .val (.int .i64 5), .val (.int .i64 0), .val (.string ⟨#[]⟩)]) = some (.val (.bool true)) := by
  have h := eq_39 ⟨0, 5, 0, []⟩ ⟨0, 5, 0, []⟩
  rw [decide_eq_true rfl] at h; exact h
theorem eqr2 : cmpA Try.prog 39 .eql (.agg (Res.cells ⟨29, 1, 1, []⟩)) (.agg [.val (.int .i64 29), .val (.int .i64 1), .val (.int .i64 1), .val (.string ⟨#[]⟩)]) = some (.val (.bool true)) := by
  have h := eq_39 ⟨29, 1, 1, []⟩ ⟨29, 1, 1, []⟩
  rw [decide_eq_true rfl] at h; exact h
theorem F18 : F Try.prog 18 [] (.val (.bool true)) := by
  refine F18_of ?_
  unfold k18
  repeat' first
    | simp -dsimp (disch := omega) only [↓rulesA, rulesB, rulesC, Int.reduceLT, nth, upd, put, storeN, AV.one, Nat.reduceBEq, Nat.reduceBNe, Int.reduceBEq, Int.reduceBNe, Int.reduceLE, Int.reduceEq, Int.reduceMod, Int.reduceNeg, boolBin, strBin, intBin, unA, fillA, ne_eq, reduceCtorEq, Nat.reduceAdd, Nat.reduceSub, Nat.reduceLeDiff, Nat.reduceLT, Nat.reduceEqDiff, Int.reduceToNat, eq_self, rulesT, bne_self_eq_false, mm_min, mm_max, buOf_some, nilCheck_vp, nilCheck_ptr, nilCheck_yld, nilCheck_func, Obj.g1, Obj.len, Obj.all, Obj.take, Obj.drop, Obj.sall, Res.g0, Res.len, Res.all, Res.take, Res.drop, Res.sall, text_tl, tl5, ob1d, ob2d, eqr1, eqr2, beq_self_eq_true, *]
    | (refine allK_intro fun n hn => ?_; try simp only [fresh_set] at hn)
    | (refine ifK_intro (fun h => ?_) (fun h => ?_) <;> (try simp only [decide_eq_true_eq, decide_eq_false_iff_not, Bool.not_eq_true', Bool.not_eq_false'] at h) <;> try (exfalso; (try simp only [beq_iff_eq, beq_eq_false_iff_ne, bne_iff_ne, bne_eq_false_iff_eq, ne_eq] at h); omega))
    | (refine keeps_sub (Mem.sub_set ?_) ?_; focus (simp [Mem.set_at, nomem, *]; done))
    | (refine call_F (c1) (Seens.refl _ _) ?_)
    | (refine pure_F (c1) (Seens.refl _ _) ?_)
    | (refine call_F (c2) (Seens.refl _ _) ?_)
    | (refine pure_F (c2) (Seens.refl _ _) ?_)
    | (refine call_F (c3) (Seens.refl _ _) ?_)
    | (refine pure_F (c3) (Seens.refl _ _) ?_)
    | (refine call_F (c4) (Seens.refl _ _) ?_)
    | (refine pure_F (c4) (Seens.refl _ _) ?_)
    | (refine call_F (c5) (Seens.refl _ _) ?_)
    | (refine pure_F (c5) (Seens.refl _ _) ?_)
  exact .val
end Go.Proofs.Ytanfgfclpjmngaa

set_option maxRecDepth 100000
set_option maxHeartbeats 1000000
set_option linter.unusedSimpArgs false
set_option linter.unusedVariables false
namespace Go.Proofs.Ytanfgfclpjmngaa
open Go.Abs
attribute [local irreducible] C X CC Y CV CW binK litK AppK PureC PureCV againK loopV rangeV allK ifK got onB condK V stepsK planK opK firstK seeE keepsK
theorem objs_of {x : AV} (h : ShapedV Try.prog 24 x) : ∃ l : List Obj, x = .vs (l.map Obj.cells) false ∧ l.length * 56 ≤ 140737488351232 ∧ ∀ o ∈ l, o.ok := by
  obtain ⟨l, e, h1, _, h2⟩ := Shaped.rows Obj.cells Obj.ok ti_24 rfl ti_43 rfl (fun x hx hl => by
    obtain ⟨d, e, hd⟩ := Obj.of_shaped hx hl
    exact ⟨d, e, hd⟩) (h.one ti_24 rfl)
  exact ⟨l, e, h1, h2⟩
end Go.Proofs.Ytanfgfclpjmngaa

set_option maxRecDepth 100000
set_option maxHeartbeats 1000000
set_option linter.unusedSimpArgs false
set_option linter.unusedVariables false
namespace Go.Proofs.Ytanfgfclpjmngaa
open Go.Abs
attribute [local irreducible] C X CC Y CV CW binK litK AppK PureC PureCV againK loopV rangeV allK ifK got onB condK V stepsK planK opK firstK seeE keepsK
theorem less_cons (a b : UInt8) (u v : List UInt8) : lessT (a :: u) (b :: v) = (decide (a < b) || (a == b && lessT u v)) := rfl
theorem less_nil (u : List UInt8) : lessT u [] = false := by cases u <;> rfl
theorem less_nilc (b : UInt8) (v : List UInt8) : lessT [] (b :: v) = true := rfl
theorem less_irrefl : ∀ a : List UInt8, lessT a a = false
  | [] => rfl
  | a :: l => by rw [less_cons, less_irrefl l]; simp
theorem cmp_spec : ∀ a b : List UInt8, (Lib.compareBytes a b < 0 ↔ lessT a b = true) ∧ (Lib.compareBytes a b = 0 ↔ a = b)
  | [], [] => by unfold Lib.compareBytes; simp [less_nil]
  | [], _ :: _ => by unfold Lib.compareBytes; simp [less_nilc]
  | _ :: _, [] => by unfold Lib.compareBytes; simp [less_nil]
  | a :: u, b :: v => by
    obtain ⟨h1, h2⟩ := cmp_spec u v
    rw [less_cons]
    unfold Lib.compareBytes
    by_cases hab : a < b
    · have hne : a ≠ b := fun e => by rw [e] at hab; exact absurd hab (UInt8.lt_irrefl b)
      simp [hab, hne]
    · by_cases hba : b < a
      · have hne : a ≠ b := fun e => by rw [e] at hba; exact absurd hba (UInt8.lt_irrefl b)
        simp [hab, hba, hne]
      · have he : a = b := by
          have h3 : ¬ a.toNat < b.toNat := hab
          have h4 : ¬ b.toNat < a.toNat := hba
          exact UInt8.toNat_inj.1 (by omega)
        subst he
        simp [h1, h2]
theorem less_total : ∀ a b : List UInt8, lessT a b = false → a ≠ b → lessT b a = true
  | [], [], _, h => absurd rfl h
  | [], b :: v, h, _ => by rw [less_nilc] at h; cases h
  | a :: u, [], _, _ => rfl
  | a :: u, b :: v, h1, h2 => by
    have ih := less_total u v
    rw [less_cons] at h1 ⊢
    by_cases hab : a = b
    · subst hab
      simp at h1
      have := ih h1 (fun e => h2 (by rw [e]))
      simp [this]
    · have h3 : ¬ a < b := fun h => by simp [h] at h1
      have h4 : b.toNat < a.toNat := by
        have q1 : ¬ a.toNat < b.toNat := h3
        have q2 : a.toNat ≠ b.toNat := fun e => hab (UInt8.toNat_inj.1 e)
        omega
      have h5 : b < a := h4
      simp [h5]
theorem less_trans : ∀ a b c : List UInt8, lessT a b = true → lessT b c = true → lessT a c = true
  | a, b, [], _, h => by rw [less_nil] at h; cases h
  | a, [], c :: w, h, _ => by rw [less_nil] at h; cases h
  | [], b :: v, c :: w, _, _ => rfl
  | a :: u, b :: v, c :: w, h1, h2 => by
    have ih := less_trans u v w
    rw [less_cons] at h1 h2 ⊢
    simp only [Bool.or_eq_true, decide_eq_true_eq, Bool.and_eq_true, beq_iff_eq] at *
    rcases h1 with h1 | ⟨h1, h1'⟩ <;> rcases h2 with h2 | ⟨h2, h2'⟩
    · exact .inl (UInt8.lt_trans h1 h2)
    · subst h2; exact .inl h1
    · subst h1; exact .inl h2
    · subst h1 h2; exact .inr ⟨rfl, ih h1' h2'⟩
theorem F53 (o : Obj) (nm : List UInt8) : F Try.prog 53 [.agg o.cells, .val (.string ⟨nm.toArray⟩)] (.val (.int .i64 (Lib.compareBytes o.name nm))) := by
  refine F53_of ?_
  unfold k53
  repeat' first
    | simp -dsimp (disch := omega) only [↓rulesA, rulesB, rulesC, Int.reduceLT, nth, upd, put, storeN, AV.one, Nat.reduceBEq, Nat.reduceBNe, Int.reduceBEq, Int.reduceBNe, Int.reduceLE, Int.reduceEq, Int.reduceMod, Int.reduceNeg, boolBin, strBin, intBin, unA, fillA, ne_eq, reduceCtorEq, Nat.reduceAdd, Nat.reduceSub, Nat.reduceLeDiff, Nat.reduceLT, Nat.reduceEqDiff, Int.reduceToNat, eq_self, rulesT, bne_self_eq_false, mm_min, mm_max, buOf_some, nilCheck_vp, nilCheck_ptr, nilCheck_yld, nilCheck_func, Obj.g0, Obj.len, Obj.all, Obj.take, *]
    | (refine allK_intro fun n hn => ?_; try simp only [fresh_set] at hn)
    | (refine ifK_intro (fun h => ?_) (fun h => ?_) <;> (try simp only [decide_eq_true_eq, decide_eq_false_iff_not, Bool.not_eq_true', Bool.not_eq_false'] at h) <;> try (exfalso; (try simp only [beq_iff_eq, beq_eq_false_iff_ne, bne_iff_ne, bne_eq_false_iff_eq, ne_eq] at h); omega))
    | (refine keeps_sub (Mem.sub_set ?_) ?_; focus (simp [Mem.set_at, nomem, *]; done))
    | (refine call_F (F54 o.name nm) (Seens.refl _ _) ?_)
    | (refine pure_F (F54 o.name nm) (Seens.refl _ _) ?_)
  exact .val
structure Place (l : List Obj) (n : List UInt8) (k : Nat) : Prop where
  le : k ≤ l.length
  lo : ∀ i, i < k → lessT (l.getD i default).name n = true
  hi : ∀ i, k ≤ i → i < l.length → lessT (l.getD i default).name n = false
def foundB (l : List Obj) (n : List UInt8) (k : Nat) : Bool := decide (k < l.length) && decide ((l.getD k default).name = n)
theorem F52 (l : List Obj) (x : Bool) (nm : List UInt8) (hl : l.length ≤ 140737488355328) (k : Nat) (hp : Place l nm k) : F Try.prog 52 [.vs (l.map Obj.cells) x, .val (.string ⟨nm.toArray⟩), .fn (.func 53) [] []] (.tup [.val (.int .i64 k), .val (.bool (foundB l nm k))]) := by
  obtain ⟨hle, hlo, hhi⟩ := hp
  refine F52_of ?_
  unfold k52
  repeat' first
    | simp -dsimp (disch := omega) only [↓rulesA, rulesB, rulesC, Int.reduceLT, nth, upd, put, storeN, AV.one, Nat.reduceBEq, Nat.reduceBNe, Int.reduceBEq, Int.reduceBNe, Int.reduceLE, Int.reduceEq, Int.reduceMod, Int.reduceNeg, boolBin, strBin, intBin, unA, fillA, ne_eq, reduceCtorEq, Nat.reduceAdd, Nat.reduceSub, Nat.reduceLeDiff, Nat.reduceLT, Nat.reduceEqDiff, Int.reduceToNat, eq_self, rulesT, bne_self_eq_false, mm_min, mm_max, buOf_some, nilCheck_vp, nilCheck_ptr, nilCheck_yld, nilCheck_func, *]
    | (refine allK_intro fun n hn => ?_; try simp only [fresh_set] at hn)
    | (refine ifK_intro (fun h => ?_) (fun h => ?_) <;> (try simp only [decide_eq_true_eq, decide_eq_false_iff_not, Bool.not_eq_true', Bool.not_eq_false'] at h) <;> try (exfalso; (try simp only [beq_iff_eq, beq_eq_false_iff_ne, bne_iff_ne, bne_eq_false_iff_eq, ne_eq] at h); omega))
    | (refine keeps_sub (Mem.sub_set ?_) ?_; focus (simp [Mem.set_at, nomem, *]; done))
  refine loop_intro (fun j env m => ∃ lo hi : Nat, lo ≤ k ∧ k ≤ hi ∧ hi ≤ l.length ∧ j = hi - lo ∧ m = nomem ∧ env.length = 49 ∧ nth env 0 = .vs (l.map Obj.cells) x ∧ nth env 1 = .val (.string ⟨nm.toArray⟩) ∧ nth env 2 = .fn (.func 53) [] [] ∧ nth env 8 = .val (.int .i64 l.length) ∧ nth env 9 = .val (.int .i64 lo) ∧ nth env 10 = .val (.int .i64 hi)) l.length nomem (fun _ _ h => h) ⟨0, l.length, by omega, hle, by omega, by omega, rfl, rfl, rfl, rfl, rfl, rfl, rfl, rfl⟩ ?_
  rintro j env m ⟨lo, hi, h1, h2, h3, rfl, rfl, hlen, e0, e1, e2, e8, e9, e10⟩
  replace hlo : Kept _ := hlo
  replace hhi : Kept _ := hhi
  have hmid : ((lo : Int) + hi) / 2 = ((lo + hi) / 2 : Nat) := by omega
  generalize hm : (lo + hi) / 2 = mid at hmid
  have c1 := F53 (l.getD mid default) nm
  have c2 := F53 (l.getD lo default) nm
  have q1 := cmp_spec (l.getD mid default).name nm
  have q2 := cmp_spec (l.getD lo default).name nm
  replace q1 : Kept _ := q1
  replace q2 : Kept _ := q2
  repeat' first
    | simp -dsimp (disch := omega) only [↓rulesA, rulesB, rulesC, Int.reduceLT, nth, upd, put, storeN, AV.one, Nat.reduceBEq, Nat.reduceBNe, Int.reduceBEq, Int.reduceBNe, Int.reduceLE, Int.reduceEq, Int.reduceMod, Int.reduceNeg, boolBin, strBin, intBin, unA, fillA, ne_eq, reduceCtorEq, Nat.reduceAdd, Nat.reduceSub, Nat.reduceLeDiff, Nat.reduceLT, Nat.reduceEqDiff, Int.reduceToNat, eq_self, rulesT, bne_self_eq_false, mm_min, mm_max, buOf_some, nilCheck_vp, nilCheck_ptr, nilCheck_yld, nilCheck_func, ix_24, cv_3_74, cv_74_3, hmid, Obj.len, Obj.all, Obj.take, *]
    | (refine allK_intro fun n hn => ?_; try simp only [fresh_set] at hn)
    | (refine ifK_intro (fun h => ?_) (fun h => ?_) <;> (try simp only [decide_eq_true_eq, decide_eq_false_iff_not, Bool.not_eq_true', Bool.not_eq_false'] at h) <;> try (exfalso; (try simp only [beq_iff_eq, beq_eq_false_iff_ne, bne_iff_ne, bne_eq_false_iff_eq, ne_eq] at h); omega))
    | (refine keeps_sub (Mem.sub_set ?_) ?_; focus (simp [Mem.set_at, nomem, *]; done))
    | (refine call_F (c1) (Seens.refl _ _) ?_)
    | (refine pure_F (c1) (Seens.refl _ _) ?_)
    | (refine call_F (c2) (Seens.refl _ _) ?_)
    | (refine pure_F (c2) (Seens.refl _ _) ?_)
  · have hlt : lessT (l.getD mid default).name nm = true := (q1 : _ ∧ _).1.1 (by omega)
    have hk1 : mid < k := by
      rcases Nat.lt_or_ge mid k with h' | h'
      · exact h'
      · have := (hhi : ∀ _, _) mid h' (by omega); rw [hlt] at this; cases this
    clear c1 c2 q1 q2 hmid
    refine again_intro (hi - (mid + 1)) (by omega) nomem (nomem_sub _) ⟨mid + 1, hi, by omega, by omega, by omega, rfl, rfl, ?_, ?_, ?_, ?_, ?_, ?_, ?_⟩
    all_goals try (simp (disch := omega) only [nth_upd, pickB_true, pickB_false, inB_lt, upd_len, cast_succ, Int.cast_ofNat_Int, Nat.reduceBEq, beq_self_eq_true, reduceCtorEq, *]; done)
  · have hge : lessT (l.getD mid default).name nm = false := by
      cases hq : lessT (l.getD mid default).name nm with
      | false => rfl
      | true => have := (q1 : _ ∧ _).1.2 hq; omega
    have hk1 : k ≤ mid := by
      rcases Nat.lt_or_ge mid k with h' | h'
      · have := (hlo : ∀ _, _) mid h'; rw [hge] at this; cases this
      · exact h'
    clear c1 c2 q1 q2 hmid
    refine again_intro (mid - lo) (by omega) nomem (nomem_sub _) ⟨lo, mid, by omega, by omega, by omega, rfl, rfl, ?_, ?_, ?_, ?_, ?_, ?_, ?_⟩
    all_goals try (simp (disch := omega) only [nth_upd, pickB_true, pickB_false, inB_lt, upd_len, cast_succ, Int.cast_ofNat_Int, Nat.reduceBEq, beq_self_eq_true, reduceCtorEq, *]; done)
  · have hlk : lo = k := by omega
    subst hlk
    have e : (Lib.compareBytes (l.getD lo default).name nm == 0) = foundB l nm lo := by
      unfold foundB
      rw [decide_eq_true (show lo < l.length by omega), Bool.true_and, Bool.eq_iff_iff, beq_iff_eq, decide_eq_true_eq]
      exact (q2 : _ ∧ _).2
    rw [e]
    exact .flat rfl
  · have hlk : lo = k := by omega
    subst hlk
    have e : foundB l nm lo = false := by unfold foundB; rw [decide_eq_false (by omega)]; rfl
    rw [e]
    exact .flat rfl
theorem F35 (l : List Obj) (x : Bool) (nm : List UInt8) (hl : l.length ≤ 140737488355328) (k : Nat) (hp : Place l nm k) : F Try.prog 35 [.vs (l.map Obj.cells) x, .val (.string ⟨nm.toArray⟩)] (.tup [.val (.int .i64 k), .val (.bool (foundB l nm k))]) := by
  refine F35_of ?_
  unfold k35
  repeat' first
    | simp -dsimp (disch := omega) only [↓rulesA, rulesB, rulesC, Int.reduceLT, nth, upd, put, storeN, AV.one, Nat.reduceBEq, Nat.reduceBNe, Int.reduceBEq, Int.reduceBNe, Int.reduceLE, Int.reduceEq, Int.reduceMod, Int.reduceNeg, boolBin, strBin, intBin, unA, fillA, ne_eq, reduceCtorEq, Nat.reduceAdd, Nat.reduceSub, Nat.reduceLeDiff, Nat.reduceLT, Nat.reduceEqDiff, Int.reduceToNat, eq_self, rulesT, bne_self_eq_false, mm_min, mm_max, buOf_some, nilCheck_vp, nilCheck_ptr, nilCheck_yld, nilCheck_func, *]
    | (refine allK_intro fun n hn => ?_; try simp only [fresh_set] at hn)
    | (refine ifK_intro (fun h => ?_) (fun h => ?_) <;> (try simp only [decide_eq_true_eq, decide_eq_false_iff_not, Bool.not_eq_true', Bool.not_eq_false'] at h) <;> try (exfalso; (try simp only [beq_iff_eq, beq_eq_false_iff_ne, bne_iff_ne, bne_eq_false_iff_eq, ne_eq] at h); omega))
    | (refine keeps_sub (Mem.sub_set ?_) ?_; focus (simp [Mem.set_at, nomem, *]; done))
    | (refine call_F (F52 l x nm hl k hp) (Seens.refl _ _) ?_)
    | (refine pure_F (F52 l x nm hl k hp) (Seens.refl _ _) ?_)
  exact .flat rfl
def placeN (l : List Obj) (nm : List UInt8) : Nat := l.findIdx fun o => !lessT o.name nm
theorem fit_at {l : List Obj} (h : fitB l = true) : ∀ i, i < l.length → okAt l i = true := by
  intro i hi
  unfold fitB at h
  have h2 : fitTo l l.length = true := by simp at h; exact h.2
  cases hk : okAt l i with
  | true => rfl
  | false => rw [fitTo_false hk _ hi] at h2; cases h2
theorem fit_len {l : List Obj} (h : fitB l = true) : l.length ≤ 16 := by unfold fitB at h; simp at h; exact h.1
theorem fit_less {l : List Obj} (h : fitB l = true) : ∀ j i, i < j → j < l.length → lessT (l.getD i default).name (l.getD j default).name = true
  | j + 1, i, hij, hj => by
    have hk := fit_at h (j + 1) hj
    unfold okAt at hk
    simp at hk
    have h1 : lessT (l.getD j default).name (l.getD (j + 1) default).name = true := by simpa [List.getD_eq_getElem?_getD] using hk.2
    by_cases e : i = j
    · subst e; exact h1
    · exact less_trans _ _ _ (fit_less h j i (by omega) (by omega)) h1
theorem place_fit {l : List Obj} (h : fitB l = true) (nm : List UInt8) : Place l nm (placeN l nm) := by
  have hle : placeN l nm ≤ l.length := List.findIdx_le_length
  have hlo : ∀ i, i < placeN l nm → lessT (l.getD i default).name nm = true := fun i hi => by
    have := List.not_of_lt_findIdx hi
    rw [List.getD_eq_getElem?_getD, List.getElem?_eq_getElem (by omega)]
    simpa using this
  refine ⟨hle, hlo, fun i h1 h2 => ?_⟩
  have hp : placeN l nm < l.length := by omega
  have hat : lessT (l.getD (placeN l nm) default).name nm = false := by
    have h2 := List.findIdx_getElem (xs := l) (p := fun o : Obj => !lessT o.name nm) (w := hp)
    rw [List.getD_eq_getElem?_getD, List.getElem?_eq_getElem hp]
    simp only [Bool.not_eq_true'] at h2
    exact h2
  by_cases e : i = placeN l nm
  · rw [e]; exact hat
  · have h3 := fit_less h i (placeN l nm) (by omega) h2
    cases hq : lessT (l.getD i default).name nm with
    | false => rfl
    | true => rw [less_trans _ _ _ h3 hq] at hat; cases hat
end Go.Proofs.Ytanfgfclpjmngaa

set_option maxRecDepth 100000
set_option maxHeartbeats 1000000
set_option linter.unusedSimpArgs false
set_option linter.unusedVariables false
namespace Go.Proofs.Ytanfgfclpjmngaa
open Go.Abs
attribute [local irreducible] C X CC Y CV CW binK litK AppK PureC PureCV againK loopV rangeV allK ifK got onB condK V stepsK planK opK firstK seeE keepsK
theorem ocell (d : Obj) : d.cells.length = 5 ∧ d.cells.all AV.one = true := ⟨rfl, rfl⟩
theorem oflat (d : Obj) : AV.flat.flats d.cells = true := rfl
theorem obj_vals (l : List Obj) : ∀ c ∈ (l.map Obj.cells).flatten, ∃ v, c = .val v := vals_row Obj.cells (fun a c hc => by
  simp only [Obj.cells, List.mem_cons, List.not_mem_nil, or_false] at hc
  rcases hc with h | h | h | h | h <;> exact ⟨_, h⟩) l
theorem O34 (l : List Obj) (x : Bool) (hl : l.length * 56 ≤ 140737488355328) : O Try.prog 34 [.vs (l.map Obj.cells) x] 43 l.length (l.map Obj.cells).flatten := clone_O Obj.cells is34 T_24 ocell l x hl
theorem ov_55 : OvOK Try.prog 55 Obj.cells := fun m d x n off len cap opn bt cs K' hm hbt hoff hk =>
  X.overlaps (rt := 4) Try.func55 (by kernel_rfl) (by kernel_rfl) (by kernel_rfl) (by kernel_rfl) ti_24 rfl ti_43 (fun y hy => by simp only [List.mem_singleton] at hy; subst hy; exact Nat.zero_lt_succ _) hm hbt hoff hk
theorem C36 (l : List Obj) (d : Obj) (k : Nat) (hk : k ≤ l.length) {m : Mem} {n : Nat} (hm : m n = some (.cells true 43 (l.map Obj.cells).flatten)) (hl : (l.length + 1) * 56 ≤ 140737488355328) :
    C Try.prog 36 [.sl n 0 l.length l.length, .val (.int .i64 k), .vs [d.cells] true] m (fun r m' => ∃ N, r = .sl N 0 (l.length + 1) (l.length + 1) ∧ m' N = some (.cells true 43 ((l.take k ++ d :: l.drop k).map Obj.cells).flatten)) :=
  insert_C Obj.cells is36 T_24 ti_3 rfl ov_55 ocell l d k hk hm hl (by omega)
theorem C37 (l : List Obj) (k : Nat) (hk : k < l.length) {m : Mem} {n : Nat} (hm : m n = some (.cells true 43 (l.map Obj.cells).flatten)) (hl : l.length * 56 ≤ 140737488355328) :
    C Try.prog 37 [.sl n 0 l.length l.length, .val (.int .i64 k), .val (.int .i64 ((k : Int) + 1))] m (fun r m' => ∃ N c rest, r = .sl N 0 (l.take k ++ l.drop (k + 1)).length c ∧ m' N = some (.cells false 43 (((l.take k ++ l.drop (k + 1)).map Obj.cells).flatten ++ rest))) :=
  delete_C Obj.cells is37 ti_3 T_24 ocell l hk hm hl (by omega)
def oAt (l : List Obj) (nm : List UInt8) : Obj := if foundB l nm (placeN l nm) then l.getD (placeN l nm) default else noObj
def inDo (l : List Obj) (who : Ban) (op : Opr) : Sheet := doS (oAt l op.name) (foundB l op.name (placeN l op.name)) who op
def inRes (l : List Obj) (who : Ban) (op : Opr) : Res := doR (oAt l op.name) (foundB l op.name (placeN l op.name)) who op
def inL (l : List Obj) (who : Ban) (op : Opr) : List Obj :=
  if doOk who op = false then l else if op.kind = 10 then l
  else if (inDo l who op).there then (if foundB l op.name (placeN l op.name) then l.set (placeN l op.name) (inDo l who op).o else if 16 ≤ l.length then l else l.take (placeN l op.name) ++ (inDo l who op).o :: l.drop (placeN l op.name))
  else if foundB l op.name (placeN l op.name) then l.take (placeN l op.name) ++ l.drop (placeN l op.name + 1) else l
def inR (l : List Obj) (who : Ban) (op : Opr) : Res :=
  if doOk who op = false then errR 27 else if op.kind = 10 then errR 0
  else if (inDo l who op).there = true ∧ foundB l op.name (placeN l op.name) = false ∧ 16 ≤ l.length then errR 23 else inRes l who op
theorem lit1_24 (d : Obj) : litA Try.prog 24 1 [(0, .agg d.cells)] = some (43, 5, d.cells) := by
  simp only [litA, ti_24, ti_43, z_43, fillA, cells_agg, Obj.all, if_true]
  rfl
theorem in_res {m : Mem} {nc cap : Nat} {opn : Bool} {L : List Obj} {R : Res} {rest : List AV} {r : List AV} (hm : m nc = some (.cells opn 43 ((L.map Obj.cells).flatten ++ rest))) (hr : r = R.cells) : New m (.tup [.sl nc 0 L.length cap, .agg r]) (.tup [.vs (L.map Obj.cells) false, .agg R.cells]) :=
  New.two (New.rowPre Obj.cells (s := 5) (fun _ => rfl) oflat L hm) (by subst hr; exact New.eq rfl rfl)
theorem in_res0 {m : Mem} {nc cap : Nat} {opn : Bool} {L : List Obj} {R : Res} {r : List AV} (hm : m nc = some (.cells opn 43 (L.map Obj.cells).flatten)) (hr : r = R.cells) : New m (.tup [.sl nc 0 L.length cap, .agg r]) (.tup [.vs (L.map Obj.cells) false, .agg R.cells]) :=
  in_res (rest := []) (by rw [List.append_nil]; exact hm) hr
theorem okAt_dat {l : List Obj} {i : Nat} (h : okAt l i = true) : (l.getD i default).data.length ≤ 64 := by
  unfold okAt objOk at h
  simp only [Bool.and_eq_true, decide_eq_true_eq] at h
  exact h.1.1.2
theorem F20 (l : List Obj) (x : Bool) (who : Ban) (op : Opr) (hop : op.ok) (hfit : fitB l = true) : F Try.prog 20 [.vs (l.map Obj.cells) x, .agg who.cells, .agg op.cells] (.tup [.vs ((inL l who op).map Obj.cells) false, .agg (inR l who op).cells]) := by
  have hl16 := fit_len hfit
  have f10 := F10 op hop
  have f31 := F31 who
  have hpl := place_fit hfit op.name
  have f35 := F35 l x op.name (by omega) _ hpl
  have hk : placeN l op.name ≤ l.length := hpl.le
  have hdat : foundB l op.name (placeN l op.name) = true → (oAt l op.name).data.length ≤ 64 := fun h => by
    unfold oAt
    rw [if_pos h]
    unfold foundB at h
    simp only [Bool.and_eq_true, decide_eq_true_eq] at h
    exact okAt_dat (fit_at hfit _ h.1)
  have f24 := F24 (oAt l op.name) (foundB l op.name (placeN l op.name)) who op hop hdat
  refine F20_of ?_
  unfold k20
  by_cases hdo : doOk who op = true
  · by_cases h10 : op.kind = 10
    · have e1 : inL l who op = l := by unfold inL; rw [if_neg (by rw [hdo]; decide), if_pos h10]
      have e2 : inR l who op = errR 0 := by unfold inR; rw [if_neg (by rw [hdo]; decide), if_pos h10]
      have hd2 : opOk op = true ∧ whoB who = true := by unfold doOk at hdo; simpa using hdo
      rw [e1, e2]
      rw [hd2.1] at f10
      rw [hd2.2] at f31
      clear e1 e2 hdo f35 f24 hpl hdat hfit
      repeat' first
        | simp -dsimp (disch := omega) only [↓rulesA, rulesB, rulesC, Int.reduceLT, nth, upd, put, storeN, AV.one, Nat.reduceBEq, Nat.reduceBNe, Int.reduceBEq, Int.reduceBNe, Int.reduceLE, Int.reduceEq, Int.reduceMod, Int.reduceNeg, boolBin, strBin, intBin, unA, fillA, ne_eq, reduceCtorEq, Nat.reduceAdd, Nat.reduceSub, Nat.reduceLeDiff, Nat.reduceLT, Nat.reduceEqDiff, Int.reduceToNat, eq_self, rulesT, bne_self_eq_false, mm_min, mm_max, buOf_some, nilCheck_vp, nilCheck_ptr, nilCheck_yld, nilCheck_func, Ban.all, Ban.len, Ban.take, Opr.all, Opr.len, Opr.take, Opr.drop, Opr.g0, Opr.g1, *]
        | (refine allK_intro fun n hn => ?_; try simp only [fresh_set] at hn)
        | (refine ifK_intro (fun h => ?_) (fun h => ?_) <;> (try simp only [decide_eq_true_eq, decide_eq_false_iff_not, Bool.not_eq_true', Bool.not_eq_false'] at h) <;> try (exfalso; (try simp only [beq_iff_eq, beq_eq_false_iff_ne, bne_iff_ne, bne_eq_false_iff_eq, ne_eq] at h); omega))
        | (refine keeps_sub (Mem.sub_set ?_) ?_; focus (simp [Mem.set_at, nomem, *]; done))
      refine call_O (O34 l x (by omega)) (Seens.refl _ _) (obj_vals _) fun nc hnc => ?_
      simp only [fresh_set] at hnc
      repeat' first
        | simp -dsimp (disch := omega) only [↓rulesA, rulesB, rulesC, Int.reduceLT, nth, upd, put, storeN, AV.one, Nat.reduceBEq, Nat.reduceBNe, Int.reduceBEq, Int.reduceBNe, Int.reduceLE, Int.reduceEq, Int.reduceMod, Int.reduceNeg, boolBin, strBin, intBin, unA, fillA, ne_eq, reduceCtorEq, Nat.reduceAdd, Nat.reduceSub, Nat.reduceLeDiff, Nat.reduceLT, Nat.reduceEqDiff, Int.reduceToNat, eq_self, rulesT, bne_self_eq_false, mm_min, mm_max, buOf_some, nilCheck_vp, nilCheck_ptr, nilCheck_yld, nilCheck_func, Ban.all, Ban.len, Ban.take, Opr.all, Opr.len, Opr.take, Opr.drop, Opr.g0, Opr.g1, *]
        | (refine allK_intro fun n hn => ?_; try simp only [fresh_set] at hn)
        | (refine ifK_intro (fun h => ?_) (fun h => ?_) <;> (try simp only [decide_eq_true_eq, decide_eq_false_iff_not, Bool.not_eq_true', Bool.not_eq_false'] at h) <;> try (exfalso; (try simp only [beq_iff_eq, beq_eq_false_iff_ne, bne_iff_ne, bne_eq_false_iff_eq, ne_eq] at h); omega))
        | (refine keeps_sub (Mem.sub_set ?_) ?_; focus (simp [Mem.set_at, nomem, *]; done))
        | (refine call_F (f10) (Seens.refl _ _) ?_)
        | (refine pure_F (f10) (Seens.refl _ _) ?_)
        | (refine call_F (f31) (Seens.refl _ _) ?_)
        | (refine pure_F (f31) (Seens.refl _ _) ?_)
      exact in_res0 (opn := true) (by simp [Mem.set_at, *]) rfl
    · have hd2 : opOk op = true ∧ whoB who = true := by unfold doOk at hdo; simpa using hdo
      have hdf : ¬ (doOk who op = false) := by rw [hdo]; decide
      have e1 : Kept (inL l who op = if (inDo l who op).there then (if foundB l op.name (placeN l op.name) then l.set (placeN l op.name) (inDo l who op).o else if 16 ≤ l.length then l else l.take (placeN l op.name) ++ (inDo l who op).o :: l.drop (placeN l op.name)) else if foundB l op.name (placeN l op.name) then l.take (placeN l op.name) ++ l.drop (placeN l op.name + 1) else l) := by
        show _ = _; unfold inL; rw [if_neg hdf, if_neg h10]
      have e2 : Kept (inR l who op = if (inDo l who op).there = true ∧ foundB l op.name (placeN l op.name) = false ∧ 16 ≤ l.length then errR 23 else inRes l who op) := by
        show _ = _; unfold inR; rw [if_neg hdf, if_neg h10]
      have hoA : Kept (oAt l op.name = if foundB l op.name (placeN l op.name) then l.getD (placeN l op.name) default else noObj) := rfl
      have hfk : Kept (foundB l op.name (placeN l op.name) = true → placeN l op.name < l.length) := fun (h : foundB l op.name (placeN l op.name) = true) => by
        unfold foundB at h
        simp only [Bool.and_eq_true, decide_eq_true_eq] at h
        exact h.1
      change F Try.prog 24 _ (.tup [.agg (outO (inDo l who op)).cells, .val (.bool (inDo l who op).there), .agg (inRes l who op).cells]) at f24
      rw [hd2.1] at f10
      rw [hd2.2] at f31
      clear hdo hpl hdat hfit hdf hd2
      generalize inDo l who op = S at *
      generalize inRes l who op = R at *
      generalize oAt l op.name = o at *
      generalize foundB l op.name (placeN l op.name) = fb at *
      generalize placeN l op.name = k at *
      cases fb
      · repeat' first
          | simp -dsimp (disch := omega) only [↓rulesA, rulesB, rulesC, Int.reduceLT, nth, upd, put, storeN, AV.one, Nat.reduceBEq, Nat.reduceBNe, Int.reduceBEq, Int.reduceBNe, Int.reduceLE, Int.reduceEq, Int.reduceMod, Int.reduceNeg, boolBin, strBin, intBin, unA, fillA, ne_eq, reduceCtorEq, Nat.reduceAdd, Nat.reduceSub, Nat.reduceLeDiff, Nat.reduceLT, Nat.reduceEqDiff, Int.reduceToNat, eq_self, rulesT, bne_self_eq_false, mm_min, mm_max, buOf_some, nilCheck_vp, nilCheck_ptr, nilCheck_yld, nilCheck_func, Ban.all, Ban.len, Ban.take, Opr.all, Opr.len, Opr.take, Opr.drop, Opr.g0, Opr.g1, *]
          | (refine allK_intro fun n hn => ?_; try simp only [fresh_set] at hn)
          | (refine ifK_intro (fun h => ?_) (fun h => ?_) <;> (try simp only [decide_eq_true_eq, decide_eq_false_iff_not, Bool.not_eq_true', Bool.not_eq_false'] at h) <;> try (exfalso; (try simp only [beq_iff_eq, beq_eq_false_iff_ne, bne_iff_ne, bne_eq_false_iff_eq, ne_eq] at h); omega))
          | (refine keeps_sub (Mem.sub_set ?_) ?_; focus (simp [Mem.set_at, nomem, *]; done))
        revert n
        intro nR hR
        refine call_O (O34 l x (by omega)) (Seens.refl _ _) (obj_vals _) fun nc hnc => ?_
        simp only [fresh_set] at hnc
        have ho : o = noObj := hoA
        subst ho
        repeat' first
          | simp -dsimp (disch := omega) only [↓rulesA, rulesB, rulesC, Int.reduceLT, nth, upd, put, storeN, AV.one, Nat.reduceBEq, Nat.reduceBNe, Int.reduceBEq, Int.reduceBNe, Int.reduceLE, Int.reduceEq, Int.reduceMod, Int.reduceNeg, boolBin, strBin, intBin, unA, fillA, ne_eq, reduceCtorEq, Nat.reduceAdd, Nat.reduceSub, Nat.reduceLeDiff, Nat.reduceLT, Nat.reduceEqDiff, Int.reduceToNat, eq_self, rulesT, bne_self_eq_false, mm_min, mm_max, buOf_some, nilCheck_vp, nilCheck_ptr, nilCheck_yld, nilCheck_func, Ban.all, Ban.len, Ban.take, Opr.all, Opr.len, Opr.take, Opr.drop, Opr.g0, Opr.g1, Obj.all, Obj.len, Obj.take, Obj.sall, Res.all, Res.len, Res.take, Res.sall, *]
          | (refine allK_intro fun n hn => ?_; try simp only [fresh_set] at hn)
          | (refine ifK_intro (fun h => ?_) (fun h => ?_) <;> (try simp only [decide_eq_true_eq, decide_eq_false_iff_not, Bool.not_eq_true', Bool.not_eq_false'] at h) <;> try (exfalso; (try simp only [beq_iff_eq, beq_eq_false_iff_ne, bne_iff_ne, bne_eq_false_iff_eq, ne_eq] at h); omega))
          | (refine keeps_sub (Mem.sub_set ?_) ?_; focus (simp [Mem.set_at, nomem, *]; done))
          | (refine call_F (f10) (Seens.refl _ _) ?_)
          | (refine pure_F (f10) (Seens.refl _ _) ?_)
          | (refine call_F (f31) (Seens.refl _ _) ?_)
          | (refine pure_F (f31) (Seens.refl _ _) ?_)
          | (refine call_F (f35) (Seens.refl _ _) ?_)
          | (refine pure_F (f35) (Seens.refl _ _) ?_)
          | (refine call_F (f24) (Seens.refl _ _) ?_)
          | (refine pure_F (f24) (Seens.refl _ _) ?_)
        · rename_i hS
          have x1 : inL l who op = l := by rw [(e1 : _ = _), if_pos hS, if_neg (by decide), if_pos (by omega)]
          have x2 : inR l who op = errR 23 := by rw [(e2 : _ = _), if_pos ⟨hS, rfl, by omega⟩]
          rw [x1, x2]
          exact in_res0 (opn := true) (by simp [Mem.set_at, *]) rfl
        · rename_i hS
          have x1 : inL l who op = l.take k ++ S.o :: l.drop k := by rw [(e1 : _ = _), if_pos hS, if_neg (by decide), if_neg (by omega)]
          have x2 : inR l who op = R := by rw [(e2 : _ = _), if_neg (fun q => by omega)]
          have eo : outO S = S.o := if_pos hS
          rw [x1, x2, eo]
          clear x1 x2 eo e1 e2 hoA
          refine lit_vs (lit1_24 _) rfl ?_
          repeat' first
            | simp -dsimp (disch := omega) only [↓rulesA, rulesB, rulesC, Int.reduceLT, nth, upd, put, storeN, AV.one, Nat.reduceBEq, Nat.reduceBNe, Int.reduceBEq, Int.reduceBNe, Int.reduceLE, Int.reduceEq, Int.reduceMod, Int.reduceNeg, boolBin, strBin, intBin, unA, fillA, ne_eq, reduceCtorEq, Nat.reduceAdd, Nat.reduceSub, Nat.reduceLeDiff, Nat.reduceLT, Nat.reduceEqDiff, Int.reduceToNat, eq_self, rulesT, bne_self_eq_false, mm_min, mm_max, buOf_some, nilCheck_vp, nilCheck_ptr, nilCheck_yld, nilCheck_func, *]
            | (refine allK_intro fun n hn => ?_; try simp only [fresh_set] at hn)
            | (refine ifK_intro (fun h => ?_) (fun h => ?_) <;> (try simp only [decide_eq_true_eq, decide_eq_false_iff_not, Bool.not_eq_true', Bool.not_eq_false'] at h) <;> try (exfalso; (try simp only [beq_iff_eq, beq_eq_false_iff_ne, bne_iff_ne, bne_eq_false_iff_eq, ne_eq] at h); omega))
            | (refine keeps_sub (Mem.sub_set ?_) ?_; focus (simp [Mem.set_at, nomem, *]; done))
          revert n
          intro nS hnS
          refine call_at (C36 l S.o k hk (m := nomem.set nc (.cells true 43 (l.map Obj.cells).flatten)) (n := nc) (Mem.set_same _ _ _) (by omega)) (nomem_set_sub (by simp [Mem.set_at, *])) fun r m' M' ⟨N, hr, hN⟩ s' hl => ?_
          subst hr
          have g1 := (hl nR _ (by rw [Mem.set_ne _ _ (by simp [*])]; rfl) (by simp [Mem.set_at, *]; rfl)).2
          have g2 := (hl nS _ (by rw [Mem.set_ne _ _ (by simp [*])]; rfl) (by simp [Mem.set_at, *]; rfl)).2
          have g3 := s' _ _ hN
          have hll : (l.take k ++ S.o :: l.drop k).length = l.length + 1 := by simp; omega
          rw [← hll]
          clear hll hl s' hN
          repeat' first
            | simp -dsimp (disch := omega) only [↓rulesA, rulesB, rulesC, Int.reduceLT, nth, upd, put, storeN, AV.one, Nat.reduceBEq, Nat.reduceBNe, Int.reduceBEq, Int.reduceBNe, Int.reduceLE, Int.reduceEq, Int.reduceMod, Int.reduceNeg, boolBin, strBin, intBin, unA, fillA, ne_eq, reduceCtorEq, Nat.reduceAdd, Nat.reduceSub, Nat.reduceLeDiff, Nat.reduceLT, Nat.reduceEqDiff, Int.reduceToNat, eq_self, rulesT, bne_self_eq_false, mm_min, mm_max, buOf_some, nilCheck_vp, nilCheck_ptr, nilCheck_yld, nilCheck_func, Res.all, Res.len, Res.take, Res.sall, *]
            | (refine allK_intro fun n hn => ?_; try simp only [fresh_set] at hn)
            | (refine ifK_intro (fun h => ?_) (fun h => ?_) <;> (try simp only [decide_eq_true_eq, decide_eq_false_iff_not, Bool.not_eq_true', Bool.not_eq_false'] at h) <;> try (exfalso; (try simp only [beq_iff_eq, beq_eq_false_iff_ne, bne_iff_ne, bne_eq_false_iff_eq, ne_eq] at h); omega))
            | (refine keeps_sub (Mem.sub_set ?_) ?_; focus (simp [Mem.set_at, nomem, *]; done))
          have hne : N ≠ nR := fun e => by rw [e, g1] at g3; cases g3
          exact in_res0 (opn := true) (by rw [Mem.set_ne _ _ hne]; exact g3) rfl
        · have x1 : inL l who op = l := by rw [(e1 : _ = _), if_neg (by rw [h]; decide), if_neg (by decide)]
          have x2 : inR l who op = R := by rw [(e2 : _ = _), if_neg (fun q => by rw [h] at q; cases q.1)]
          rw [x1, x2]
          exact in_res0 (opn := true) (by simp [Mem.set_at, *]) rfl
      · have hkl : k < l.length := (hfk : _ → _) rfl
        repeat' first
          | simp -dsimp (disch := omega) only [↓rulesA, rulesB, rulesC, Int.reduceLT, nth, upd, put, storeN, AV.one, Nat.reduceBEq, Nat.reduceBNe, Int.reduceBEq, Int.reduceBNe, Int.reduceLE, Int.reduceEq, Int.reduceMod, Int.reduceNeg, boolBin, strBin, intBin, unA, fillA, ne_eq, reduceCtorEq, Nat.reduceAdd, Nat.reduceSub, Nat.reduceLeDiff, Nat.reduceLT, Nat.reduceEqDiff, Int.reduceToNat, eq_self, rulesT, bne_self_eq_false, mm_min, mm_max, buOf_some, nilCheck_vp, nilCheck_ptr, nilCheck_yld, nilCheck_func, Ban.all, Ban.len, Ban.take, Opr.all, Opr.len, Opr.take, Opr.drop, Opr.g0, Opr.g1, *]
          | (refine allK_intro fun n hn => ?_; try simp only [fresh_set] at hn)
          | (refine ifK_intro (fun h => ?_) (fun h => ?_) <;> (try simp only [decide_eq_true_eq, decide_eq_false_iff_not, Bool.not_eq_true', Bool.not_eq_false'] at h) <;> try (exfalso; (try simp only [beq_iff_eq, beq_eq_false_iff_ne, bne_iff_ne, bne_eq_false_iff_eq, ne_eq] at h); omega))
          | (refine keeps_sub (Mem.sub_set ?_) ?_; focus (simp [Mem.set_at, nomem, *]; done))
        revert n
        intro nR hR
        refine call_O (O34 l x (by omega)) (Seens.refl _ _) (obj_vals _) fun nc hnc => ?_
        simp only [fresh_set] at hnc
        have ho : o = l.getD k default := hoA
        subst ho
        repeat' first
          | simp -dsimp (disch := omega) only [↓rulesA, rulesB, rulesC, Int.reduceLT, nth, upd, put, storeN, AV.one, Nat.reduceBEq, Nat.reduceBNe, Int.reduceBEq, Int.reduceBNe, Int.reduceLE, Int.reduceEq, Int.reduceMod, Int.reduceNeg, boolBin, strBin, intBin, unA, fillA, ne_eq, reduceCtorEq, Nat.reduceAdd, Nat.reduceSub, Nat.reduceLeDiff, Nat.reduceLT, Nat.reduceEqDiff, Int.reduceToNat, eq_self, rulesT, bne_self_eq_false, mm_min, mm_max, buOf_some, nilCheck_vp, nilCheck_ptr, nilCheck_yld, nilCheck_func, ix_24, Ban.all, Ban.len, Ban.take, Opr.all, Opr.len, Opr.take, Opr.drop, Opr.g0, Opr.g1, Obj.all, Obj.len, Obj.take, Obj.sall, Obj.rset, Obj.rin, Res.all, Res.len, Res.take, Res.sall, *]
          | (refine allK_intro fun n hn => ?_; try simp only [fresh_set] at hn)
          | (refine ifK_intro (fun h => ?_) (fun h => ?_) <;> (try simp only [decide_eq_true_eq, decide_eq_false_iff_not, Bool.not_eq_true', Bool.not_eq_false'] at h) <;> try (exfalso; (try simp only [beq_iff_eq, beq_eq_false_iff_ne, bne_iff_ne, bne_eq_false_iff_eq, ne_eq] at h); omega))
          | (refine keeps_sub (Mem.sub_set ?_) ?_; focus (simp [Mem.set_at, nomem, *]; done))
          | (refine call_F (f10) (Seens.refl _ _) ?_)
          | (refine pure_F (f10) (Seens.refl _ _) ?_)
          | (refine call_F (f31) (Seens.refl _ _) ?_)
          | (refine pure_F (f31) (Seens.refl _ _) ?_)
          | (refine call_F (f35) (Seens.refl _ _) ?_)
          | (refine pure_F (f35) (Seens.refl _ _) ?_)
          | (refine call_F (f24) (Seens.refl _ _) ?_)
          | (refine pure_F (f24) (Seens.refl _ _) ?_)
        · have x1 : inL l who op = l.set k S.o := by rw [(e1 : _ = _), if_pos h, if_pos rfl]
          have x2 : inR l who op = R := by rw [(e2 : _ = _), if_neg (fun q => by cases q.2.1)]
          have eo : outO S = S.o := if_pos h
          have hll : (l.set k S.o).length = l.length := List.length_set
          rw [x1, x2, eo, ← hll]
          exact in_res0 (opn := true) (by simp [Mem.set_at, *]) rfl
        · have x1 : inL l who op = l.take k ++ l.drop (k + 1) := by rw [(e1 : _ = _), if_neg (by rw [h]; decide), if_pos rfl]
          have x2 : inR l who op = R := by rw [(e2 : _ = _), if_neg (fun q => by cases q.2.1)]
          rw [x1, x2]
          clear x1 x2 e1 e2 hoA
          revert n
          intro nS hnS
          refine call_at (C37 l k hkl (m := nomem.set nc (.cells true 43 (l.map Obj.cells).flatten)) (n := nc) (Mem.set_same _ _ _) (by omega)) (nomem_set_sub (by simp [Mem.set_at, *])) fun r m' M' ⟨N, c, rest, hr, hN⟩ s' hl => ?_
          subst hr
          have g1 := (hl nR _ (by rw [Mem.set_ne _ _ (by simp [*])]; rfl) (by simp [Mem.set_at, *]; rfl)).2
          have g2 := (hl nS _ (by rw [Mem.set_ne _ _ (by simp [*])]; rfl) (by simp [Mem.set_at, *]; rfl)).2
          have g3 := s' _ _ hN
          clear hl s' hN
          repeat' first
            | simp -dsimp (disch := omega) only [↓rulesA, rulesB, rulesC, Int.reduceLT, nth, upd, put, storeN, AV.one, Nat.reduceBEq, Nat.reduceBNe, Int.reduceBEq, Int.reduceBNe, Int.reduceLE, Int.reduceEq, Int.reduceMod, Int.reduceNeg, boolBin, strBin, intBin, unA, fillA, ne_eq, reduceCtorEq, Nat.reduceAdd, Nat.reduceSub, Nat.reduceLeDiff, Nat.reduceLT, Nat.reduceEqDiff, Int.reduceToNat, eq_self, rulesT, bne_self_eq_false, mm_min, mm_max, buOf_some, nilCheck_vp, nilCheck_ptr, nilCheck_yld, nilCheck_func, Res.all, Res.len, Res.take, Res.sall, *]
            | (refine allK_intro fun n hn => ?_; try simp only [fresh_set] at hn)
            | (refine ifK_intro (fun h => ?_) (fun h => ?_) <;> (try simp only [decide_eq_true_eq, decide_eq_false_iff_not, Bool.not_eq_true', Bool.not_eq_false'] at h) <;> try (exfalso; (try simp only [beq_iff_eq, beq_eq_false_iff_ne, bne_iff_ne, bne_eq_false_iff_eq, ne_eq] at h); omega))
            | (refine keeps_sub (Mem.sub_set ?_) ?_; focus (simp [Mem.set_at, nomem, *]; done))
          have hne : N ≠ nR := fun e => by rw [e, g1] at g3; cases g3
          exact in_res (opn := false) (by rw [Mem.set_ne _ _ hne]; exact g3) rfl
  · have hdo' : doOk who op = false := by simpa using hdo
    have e1 : inL l who op = l := by unfold inL; rw [if_pos hdo']
    have e2 : inR l who op = errR 27 := by unfold inR; rw [if_pos hdo']
    have hd2 : opOk op = true → whoB who = false := fun h => by unfold doOk at hdo'; rw [h, Bool.true_and] at hdo'; exact hdo'
    rw [e1, e2]
    replace hd2 : Kept _ := hd2
    clear e1 e2 hdo f35 f24 hpl hdat hfit hdo'
    repeat' first
      | simp -dsimp (disch := omega) only [↓rulesA, rulesB, rulesC, Int.reduceLT, nth, upd, put, storeN, AV.one, Nat.reduceBEq, Nat.reduceBNe, Int.reduceBEq, Int.reduceBNe, Int.reduceLE, Int.reduceEq, Int.reduceMod, Int.reduceNeg, boolBin, strBin, intBin, unA, fillA, ne_eq, reduceCtorEq, Nat.reduceAdd, Nat.reduceSub, Nat.reduceLeDiff, Nat.reduceLT, Nat.reduceEqDiff, Int.reduceToNat, eq_self, rulesT, bne_self_eq_false, mm_min, mm_max, buOf_some, nilCheck_vp, nilCheck_ptr, nilCheck_yld, nilCheck_func, Ban.all, Ban.len, Ban.take, Opr.all, Opr.len, Opr.take, Opr.drop, Opr.g0, Opr.g1, *]
      | (refine allK_intro fun n hn => ?_; try simp only [fresh_set] at hn)
      | (refine ifK_intro (fun h => ?_) (fun h => ?_) <;> (try simp only [decide_eq_true_eq, decide_eq_false_iff_not, Bool.not_eq_true', Bool.not_eq_false'] at h) <;> try (exfalso; (try simp only [beq_iff_eq, beq_eq_false_iff_ne, bne_iff_ne, bne_eq_false_iff_eq, ne_eq] at h); omega))
      | (refine keeps_sub (Mem.sub_set ?_) ?_; focus (simp [Mem.set_at, nomem, *]; done))
    refine call_O (O34 l x (by omega)) (Seens.refl _ _) (obj_vals _) fun nc hnc => ?_
    simp only [fresh_set] at hnc
    repeat' first
      | simp -dsimp (disch := omega) only [↓rulesA, rulesB, rulesC, Int.reduceLT, nth, upd, put, storeN, AV.one, Nat.reduceBEq, Nat.reduceBNe, Int.reduceBEq, Int.reduceBNe, Int.reduceLE, Int.reduceEq, Int.reduceMod, Int.reduceNeg, boolBin, strBin, intBin, unA, fillA, ne_eq, reduceCtorEq, Nat.reduceAdd, Nat.reduceSub, Nat.reduceLeDiff, Nat.reduceLT, Nat.reduceEqDiff, Int.reduceToNat, eq_self, rulesT, bne_self_eq_false, mm_min, mm_max, buOf_some, nilCheck_vp, nilCheck_ptr, nilCheck_yld, nilCheck_func, Ban.all, Ban.len, Ban.take, Opr.all, Opr.len, Opr.take, Opr.drop, Opr.g0, Opr.g1, *]
      | (refine allK_intro fun n hn => ?_; try simp only [fresh_set] at hn)
      | (refine ifK_intro (fun h => ?_) (fun h => ?_) <;> (try simp only [decide_eq_true_eq, decide_eq_false_iff_not, Bool.not_eq_true', Bool.not_eq_false'] at h) <;> try (exfalso; (try simp only [beq_iff_eq, beq_eq_false_iff_ne, bne_iff_ne, bne_eq_false_iff_eq, ne_eq] at h); omega))
      | (refine keeps_sub (Mem.sub_set ?_) ?_; focus (simp [Mem.set_at, nomem, *]; done))
      | (refine call_F (f10) (Seens.refl _ _) ?_)
      | (refine pure_F (f10) (Seens.refl _ _) ?_)
      | (refine call_F (f31) (Seens.refl _ _) ?_)
      | (refine pure_F (f31) (Seens.refl _ _) ?_)
    all_goals first
      | exact in_res0 (opn := true) (by simp [Mem.set_at, *]) rfl
      | (exfalso
         have := (hd2 : _ → _) (by assumption)
         simp_all; done)
end Go.Proofs.Ytanfgfclpjmngaa

set_option maxRecDepth 100000
set_option maxHeartbeats 1000000
set_option linter.unusedSimpArgs false
set_option linter.unusedVariables false
namespace Go.Proofs.Ytanfgfclpjmngaa
open Go.Abs
attribute [local irreducible] C X CC Y CV CW binK litK AppK PureC PureCV againK loopV rangeV allK ifK got onB condK V stepsK planK opK firstK seeE keepsK
theorem getD_get {α : Type} [Inhabited α] (l : List α) (i : Nat) (h : i < l.length) : l.getD i default = l[i] := by rw [List.getD_eq_getElem?_getD, List.getElem?_eq_getElem h]; rfl
theorem fit_iff (l : List Obj) : fitB l = true ↔ l.length ≤ 16 ∧ (∀ o ∈ l, objOk o = true) ∧ l.Pairwise (fun a b => lessT a.name b.name = true) := by
  constructor
  · intro h
    refine ⟨fit_len h, fun o ho => ?_, ?_⟩
    · obtain ⟨i, hi, rfl⟩ := List.getElem_of_mem ho
      have := fit_at h i hi
      unfold okAt at this
      rw [getD_get l i hi] at this
      simp only [Bool.and_eq_true] at this
      exact this.1
    · rw [List.pairwise_iff_getElem]
      intro i j hi hj hij
      have := fit_less h j i hij hj
      rwa [getD_get l i hi, getD_get l j hj] at this
  · rintro ⟨h1, h2, h3⟩
    have hall : ∀ i, i ≤ l.length → fitTo l i = true := by
      intro i
      induction i with
      | zero => intro _; rfl
      | succ i ih =>
        intro hi
        unfold fitTo
        rw [ih (by omega), Bool.true_and]
        unfold okAt
        have hi' : i < l.length := hi
        rw [getD_get l i hi', h2 _ (List.getElem_mem hi'), Bool.true_and]
        by_cases h0 : i = 0
        · rw [decide_eq_true h0]; rfl
        · rw [getD_get l (i - 1) (by omega)]
          have := List.pairwise_iff_getElem.1 h3 (i - 1) i (by omega) hi' (by omega)
          rw [this, Bool.or_true]
    unfold fitB
    rw [decide_eq_true h1, hall _ (Nat.le_refl _)]; rfl
theorem find_mem {l : List Obj} (h : fitB l = true) {x : Obj} (hx : x ∈ l) : foundB l x.name (placeN l x.name) = true ∧ oAt l x.name = x ∧ placeN l x.name < l.length ∧ l.getD (placeN l x.name) default = x := by
  obtain ⟨i, hi, rfl⟩ := List.getElem_of_mem hx
  have hp := place_fit h l[i].name
  have hk : placeN l l[i].name = i := by
    rcases Nat.lt_trichotomy (placeN l l[i].name) i with h1 | h1 | h1
    · have := fit_less h i _ h1 hi
      rw [getD_get l i hi, hp.hi _ (Nat.le_refl _) (by omega)] at this; cases this
    · exact h1
    · have := hp.lo i h1
      rw [getD_get l i hi, less_irrefl] at this; cases this
  have hf : foundB l l[i].name (placeN l l[i].name) = true := by
    unfold foundB
    rw [hk, getD_get l i hi, decide_eq_true hi, decide_eq_true rfl]; rfl
  have hg : l.getD (placeN l l[i].name) default = l[i] := by rw [hk, getD_get l i hi]
  exact ⟨hf, by unfold oAt; rw [if_pos hf, hg], by rw [hk]; exact hi, hg⟩
theorem found_name {l : List Obj} {nm : List UInt8} (h : foundB l nm (placeN l nm) = true) : placeN l nm < l.length ∧ (l.getD (placeN l nm) default).name = nm ∧ oAt l nm = l.getD (placeN l nm) default := by
  have h' := h
  unfold foundB at h'
  simp only [Bool.and_eq_true, decide_eq_true_eq] at h'
  exact ⟨h'.1, h'.2, if_pos h⟩
theorem not_found {l : List Obj} (hf : fitB l = true) {nm : List UInt8} (h : foundB l nm (placeN l nm) = false) : ∀ o ∈ l, o.name ≠ nm := fun o ho e => by
  have := (find_mem hf ho).1
  rw [e, h] at this; cases this
theorem ok_parts {o : Obj} (h : objOk o = true) : nameOk o.name = true ∧ o.data.length ≤ 64 ∧ (if o.locked then whoB ⟨o.client, o.inst⟩ else decide (o.client = 0) && decide (o.inst = 0)) = true := by
  unfold objOk at h
  simp only [Bool.and_eq_true, decide_eq_true_eq] at h
  exact ⟨h.1.1, h.1.2, h.2⟩
theorem ok_mk {o : Obj} (h1 : nameOk o.name = true) (h2 : o.data.length ≤ 64) (h3 : (if o.locked then whoB ⟨o.client, o.inst⟩ else decide (o.client = 0) && decide (o.inst = 0)) = true) : objOk o = true := by
  unfold objOk
  rw [h1, decide_eq_true h2, h3]; rfl
theorem set_data {o : Obj} (h : objOk o = true) {d : List UInt8} (hd : d.length ≤ 64) : objOk { o with data := d } = true := ok_mk (ok_parts h).1 hd (ok_parts h).2.2
theorem set_lock {o : Obj} (h : objOk o = true) {w : Ban} (hw : whoB w = true) : objOk { o with locked := true, client := w.client, inst := w.inst } = true := ok_mk (ok_parts h).1 (ok_parts h).2.1 hw
theorem set_free {o : Obj} (h : objOk o = true) : objOk { o with locked := false, client := 0, inst := 0 } = true := ok_mk (ok_parts h).1 (ok_parts h).2.1 rfl
def Good (s : Sheet) : Prop := s.there = true → objOk s.o = true ∧ s.o.name = s.op.name
theorem mk0_good {s : Sheet} (h : Good s) (hn : nameOk s.op.name = true) : objOk (mk0 s).o = true ∧ (mk0 s).o.name = s.op.name := by
  unfold mk0
  cases hs : s.there with
  | true => exact h hs
  | false => exact ⟨ok_mk hn (Nat.zero_le _) rfl, rfl⟩
theorem op_name {op : Opr} (h : opOk op = true) (h10 : op.kind ≠ 10) : nameOk op.name = true := by
  unfold opOk at h
  grind
theorem writeData_len {s : Sheet} (h : 0 ≤ s.op.off) : (writeData s).length = max (s.o.data.length) (wEnd s) := by
  unfold writeData oldS wEnd
  simp only [List.length_append, List.length_take, List.length_drop, zs_len]
  omega
theorem act_good {s : Sheet} (h : Good s) (hop : opOk s.op = true) (hw : whoB s.who = true) (hS : (actS s).there = true) : objOk (actS s).o = true ∧ (actS s).o.name = s.op.name := by
  have h10 : s.op.kind = 10 → actS s = s := fun e => by simp [actS, e]
  by_cases e10 : s.op.kind = 10
  · rw [h10 e10] at hS ⊢; exact h hS
  have hn := op_name hop e10
  obtain ⟨m1, m2⟩ := mk0_good h hn
  obtain ⟨i1, i2, i3⟩ := mk0_is s
  rcases op_kind hop with e | e | e | e | e | e | e | e | e | e
  · have hs : actS s = writeS s := by simp [actS, e]
    obtain ⟨q1, q2, q3⟩ := op_small hop (.inl e)
    rw [hs] at hS ⊢
    unfold writeS at *
    split
    · rename_i hc; rw [if_pos hc] at hS; exact h hS
    · rename_i hc
      have hlen := writeData_len (s := mk0 s) (by rw [i1]; exact q1.1)
      have hwe : wEnd (mk0 s) = wEnd s := by unfold wEnd; rw [i1]
      have := (ok_parts m1).2.1
      exact ⟨set_data m1 (by rw [hlen, hwe]; omega), m2⟩
  · have hs : actS s = zeroS s := by simp [actS, e]
    rw [hs] at hS ⊢
    unfold zeroS at *
    cases ht : s.there with
    | false => simp [ht] at hS
    | true =>
      obtain ⟨g1, g2⟩ := h ht
      have hle := endS_le s
      have := (ok_parts g1).2.1
      refine ⟨set_data g1 ?_, g2⟩
      simp only [List.length_append, List.length_take, List.length_drop, zs_len]
      omega
  · have hs : actS s = truncS s := by simp [actS, e]
    obtain ⟨q1, q2, q3⟩ := op_small hop (.inr (.inr (.inl e)))
    rw [hs]
    exact ⟨set_data m1 (by rw [List.length_take]; omega), m2⟩
  · have hs : actS s = { s with there := false } := by simp [actS, e]
    rw [hs] at hS; cases hS
  · have hs : actS s = s := by simp [actS, e]
    rw [hs] at hS ⊢; exact h hS
  · have hs : actS s = s := by simp [actS, e]
    rw [hs] at hS ⊢; exact h hS
  · have hs : actS s = lockS s := by simp [actS, e]
    rw [hs] at hS ⊢
    unfold lockS at *
    split
    · rename_i hc; exact h hc.1
    · exact ⟨set_lock m1 hw, m2⟩
  · have hs : actS s = freeS s s.who := by simp [actS, e]
    rw [hs] at hS ⊢
    unfold freeS at *
    cases ht : s.there with
    | false => simp [ht] at hS
    | true =>
      obtain ⟨g1, g2⟩ := h ht
      rw [if_neg (by decide)]
      split
      · exact ⟨g1, g2⟩
      · exact ⟨set_free g1, g2⟩
  · have hs : actS s = freeS s ⟨s.op.num, s.op.off⟩ := by simp [actS, e]
    rw [hs] at hS ⊢
    unfold freeS at *
    cases ht : s.there with
    | false => simp [ht] at hS
    | true =>
      obtain ⟨g1, g2⟩ := h ht
      rw [if_neg (by decide)]
      split
      · exact ⟨g1, g2⟩
      · exact ⟨set_free g1, g2⟩
  · exact absurd e e10
theorem do_fit {o : Obj} {there : Bool} {who : Ban} {op : Opr} (hdo : doOk who op = true) (h : there = true → objOk o = true ∧ o.name = op.name) (hS : (doS o there who op).there = true) : objOk (doS o there who op).o = true ∧ (doS o there who op).o.name = op.name := by
  have e : doS o there who op = actS (sheetOf o there who op) := if_pos hdo
  rw [e] at hS ⊢
  have hd2 : opOk op = true ∧ whoB who = true := by unfold doOk at hdo; simpa using hdo
  refine act_good (s := sheetOf o there who op) (fun ht => ?_) hd2.1 hd2.2 hS
  have ht' : there = true := ht
  subst ht'
  exact h rfl
end Go.Proofs.Ytanfgfclpjmngaa

set_option maxRecDepth 100000
set_option maxHeartbeats 1000000
set_option linter.unusedSimpArgs false
set_option linter.unusedVariables false
namespace Go.Proofs.Ytanfgfclpjmngaa
open Go.Abs
attribute [local irreducible] C X CC Y CV CW binK litK AppK PureC PureCV againK loopV rangeV allK ifK got onB condK V stepsK planK opK firstK seeE keepsK
theorem oAt_good {l : List Obj} (hf : fitB l = true) (nm : List UInt8) : foundB l nm (placeN l nm) = true → objOk (oAt l nm) = true ∧ (oAt l nm).name = nm := fun h => by
  obtain ⟨h1, h2, h3⟩ := found_name h
  rw [h3]
  refine ⟨?_, h2⟩
  rw [getD_get l _ h1]
  exact ((fit_iff l).1 hf).2.1 _ (List.getElem_mem h1)
theorem inDo_good {l : List Obj} (hf : fitB l = true) {who : Ban} {op : Opr} (hdo : doOk who op = true) (hS : (inDo l who op).there = true) : objOk (inDo l who op).o = true ∧ (inDo l who op).o.name = op.name :=
  do_fit hdo (oAt_good hf op.name) hS
theorem names_set (l : List Obj) (k : Nat) (o : Obj) (hk : k < l.length) (h : o.name = (l.getD k default).name) : (l.set k o).map (·.name) = l.map (·.name) := by
  rw [List.map_set, h, getD_get l k hk]
  apply List.ext_getElem?
  intro i
  rw [List.getElem?_set]
  split
  · rename_i e; subst e; simp [hk]
  · rfl
theorem pw_names (l : List Obj) : l.Pairwise (fun a b => lessT a.name b.name = true) ↔ (l.map (·.name)).Pairwise (fun a b => lessT a b = true) := by rw [List.pairwise_map]
theorem in_fit {l : List Obj} (hf : fitB l = true) (who : Ban) (op : Opr) : fitB (inL l who op) = true := by
  obtain ⟨f1, f2, f3⟩ := (fit_iff l).1 hf
  have hp := place_fit hf op.name
  unfold inL
  split
  · exact hf
  rename_i hd
  have hdo : doOk who op = true := by simpa using hd
  split
  · exact hf
  split
  · rename_i hS
    obtain ⟨g1, g2⟩ := inDo_good hf hdo hS
    generalize inDo l who op = S at *
    split
    · rename_i hfd
      obtain ⟨h1, h2, h3⟩ := found_name hfd
      refine (fit_iff _).2 ⟨by rw [List.length_set]; exact f1, fun o ho => ?_, ?_⟩
      · rcases List.mem_or_eq_of_mem_set ho with ho | ho
        · exact f2 o ho
        · rw [ho]; exact g1
      · rw [pw_names, names_set _ _ _ h1 (by rw [g2, h2]), ← pw_names]; exact f3
    · rename_i hfd
      split
      · exact hf
      · rename_i h16
        have hnf := not_found hf (by simpa using hfd)
        generalize placeN l op.name = k at *
        have hlo : ∀ a ∈ l.take k, lessT a.name op.name = true := fun a ha => by
          obtain ⟨i, hi, rfl⟩ := List.getElem_of_mem ha
          rw [List.length_take] at hi
          have := hp.lo i (by omega)
          rw [getD_get l i (by omega)] at this
          rw [List.getElem_take]; exact this
        have hhi : ∀ a ∈ l.drop k, lessT op.name a.name = true := fun a ha => by
          obtain ⟨i, hi, rfl⟩ := List.getElem_of_mem ha
          rw [List.length_drop] at hi
          have := hp.hi (k + i) (by omega) (by omega)
          rw [getD_get l (k + i) (by omega)] at this
          rw [List.getElem_drop]
          exact less_total _ _ this (hnf _ (List.getElem_mem _))
        refine (fit_iff _).2 ⟨?_, fun o ho => ?_, ?_⟩
        · have := hp.le; simp only [List.length_append, List.length_take, List.length_cons, List.length_drop]; omega
        · rcases List.mem_append.1 ho with ho | ho
          · exact f2 o (List.mem_of_mem_take ho)
          · rcases List.mem_cons.1 ho with ho | ho
            · rw [ho]; exact g1
            · exact f2 o (List.mem_of_mem_drop ho)
        · rw [List.pairwise_append]
          refine ⟨f3.sublist (List.take_sublist _ _), ?_, fun a ha b hb => ?_⟩
          · rw [List.pairwise_cons]
            exact ⟨fun b hb => by rw [g2]; exact hhi b hb, f3.sublist (List.drop_sublist _ _)⟩
          · rcases List.mem_cons.1 hb with hb | hb
            · rw [hb, g2]; exact hlo a ha
            · exact less_trans _ _ _ (hlo a ha) (hhi b hb)
  · split
    · rename_i hfd
      obtain ⟨h1, h2, h3⟩ := found_name hfd
      have hsub : (l.take (placeN l op.name) ++ l.drop (placeN l op.name + 1)).Sublist l := by
        have e : l.take (placeN l op.name) ++ l.drop (placeN l op.name + 1) = l.eraseIdx (placeN l op.name) := by rw [List.eraseIdx_eq_take_drop_succ]
        rw [e]; exact List.eraseIdx_sublist _ _
      exact (fit_iff _).2 ⟨Nat.le_trans hsub.length_le f1, fun o ho => f2 o (hsub.subset ho), f3.sublist hsub⟩
    · exact hf
end Go.Proofs.Ytanfgfclpjmngaa

set_option maxRecDepth 100000
set_option maxHeartbeats 1000000
set_option linter.unusedSimpArgs false
set_option linter.unusedVariables false
namespace Go.Proofs.Ytanfgfclpjmngaa
open Go.Abs
attribute [local irreducible] C X CC Y CV CW binK litK AppK PureC PureCV againK loopV rangeV allK ifK got onB condK V stepsK planK opK firstK seeE keepsK
theorem F21 (l : List Obj) (x : Bool) (nm : List UInt8) (hfit : fitB l = true) : F Try.prog 21 [.vs (l.map Obj.cells) x, .val (.string ⟨nm.toArray⟩)] (.tup [.agg (oAt l nm).cells, .val (.bool (foundB l nm (placeN l nm)))]) := by
  have hl16 := fit_len hfit
  have f35 := F35 l x nm (by omega) _ (place_fit hfit nm)
  refine F21_of ?_
  unfold k21
  cases hfd : foundB l nm (placeN l nm) with
  | true =>
    obtain ⟨h1, h2, h3⟩ := found_name hfd
    rw [hfd] at f35
    rw [h3]
    clear h3 h2 hfd hfit
    generalize placeN l nm = k at *
    repeat' first
      | simp -dsimp (disch := omega) only [↓rulesA, rulesB, rulesC, Int.reduceLT, nth, upd, put, storeN, AV.one, Nat.reduceBEq, Nat.reduceBNe, Int.reduceBEq, Int.reduceBNe, Int.reduceLE, Int.reduceEq, Int.reduceMod, Int.reduceNeg, boolBin, strBin, intBin, unA, fillA, ne_eq, reduceCtorEq, Nat.reduceAdd, Nat.reduceSub, Nat.reduceLeDiff, Nat.reduceLT, Nat.reduceEqDiff, Int.reduceToNat, eq_self, rulesT, bne_self_eq_false, mm_min, mm_max, buOf_some, nilCheck_vp, nilCheck_ptr, nilCheck_yld, nilCheck_func, ix_24, Obj.all, Obj.len, Obj.take, Obj.sall, *]
      | (refine allK_intro fun n hn => ?_; try simp only [fresh_set] at hn)
      | (refine ifK_intro (fun h => ?_) (fun h => ?_) <;> (try simp only [decide_eq_true_eq, decide_eq_false_iff_not, Bool.not_eq_true', Bool.not_eq_false'] at h) <;> try (exfalso; (try simp only [beq_iff_eq, beq_eq_false_iff_ne, bne_iff_ne, bne_eq_false_iff_eq, ne_eq] at h); omega))
      | (refine keeps_sub (Mem.sub_set ?_) ?_; focus (simp [Mem.set_at, nomem, *]; done))
      | (refine call_F (f35) (Seens.refl _ _) ?_)
      | (refine pure_F (f35) (Seens.refl _ _) ?_)
    exact New.eq rfl rfl
  | false =>
    have h3 : oAt l nm = noObj := by unfold oAt; rw [if_neg (by rw [hfd]; decide)]
    rw [hfd] at f35
    rw [h3]
    clear h3 hfd hfit
    generalize placeN l nm = k at *
    repeat' first
      | simp -dsimp (disch := omega) only [↓rulesA, rulesB, rulesC, Int.reduceLT, nth, upd, put, storeN, AV.one, Nat.reduceBEq, Nat.reduceBNe, Int.reduceBEq, Int.reduceBNe, Int.reduceLE, Int.reduceEq, Int.reduceMod, Int.reduceNeg, boolBin, strBin, intBin, unA, fillA, ne_eq, reduceCtorEq, Nat.reduceAdd, Nat.reduceSub, Nat.reduceLeDiff, Nat.reduceLT, Nat.reduceEqDiff, Int.reduceToNat, eq_self, rulesT, bne_self_eq_false, mm_min, mm_max, buOf_some, nilCheck_vp, nilCheck_ptr, nilCheck_yld, nilCheck_func, ix_24, Obj.all, Obj.len, Obj.take, Obj.sall, *]
      | (refine allK_intro fun n hn => ?_; try simp only [fresh_set] at hn)
      | (refine ifK_intro (fun h => ?_) (fun h => ?_) <;> (try simp only [decide_eq_true_eq, decide_eq_false_iff_not, Bool.not_eq_true', Bool.not_eq_false'] at h) <;> try (exfalso; (try simp only [beq_iff_eq, beq_eq_false_iff_ne, bne_iff_ne, bne_eq_false_iff_eq, ne_eq] at h); omega))
      | (refine keeps_sub (Mem.sub_set ?_) ?_; focus (simp [Mem.set_at, nomem, *]; done))
      | (refine call_F (f35) (Seens.refl _ _) ?_)
      | (refine pure_F (f35) (Seens.refl _ _) ?_)
    exact New.eq rfl rfl
end Go.Proofs.Ytanfgfclpjmngaa

set_option maxRecDepth 100000
set_option maxHeartbeats 1000000
set_option linter.unusedSimpArgs false
set_option linter.unusedVariables false
namespace Go.Proofs.Ytanfgfclpjmngaa
open Go.Abs
attribute [local irreducible] C X CC Y CV CW binK litK AppK PureC PureCV againK loopV rangeV allK ifK got onB condK V stepsK planK opK firstK seeE keepsK
def wantB (op : Opr) (n : Nat) (W : List UInt8) (i : Nat) : UInt8 :=
  if op.off.toNat ≤ i ∧ i < op.off.toNat + n then (if op.kind = 1 then op.data.getD (i - op.off.toNat) 0 else 0) else W.getD i 0
structure Told (l : List Obj) (who : Ban) (op : Opr) (W D : List UInt8) : Prop where
  hw : whoB who = true
  name : nameOk op.name = true
  found : foundB (inL l who op) op.name (placeN (inL l who op) op.name) = true
  data : (oAt (inL l who op) op.name).data = D
  num : (inR l who op).num = D.length
  small : op.ok → 0 ≤ op.off ∧ op.off ≤ 64 ∧ 0 ≤ op.num ∧ op.num ≤ 64 ∧ op.data.length ≤ 64
  there : op.kind = 2 → foundB l op.name (placeN l op.name) = true ∧ D.length = W.length
  bytes : ∀ i, i < D.length → D.getD i 0 = wantB op (if op.kind = 1 then op.data.length else op.num.toNat) W i
end Go.Proofs.Ytanfgfclpjmngaa

set_option maxRecDepth 100000
set_option maxHeartbeats 1000000
set_option linter.unusedSimpArgs false
set_option linter.unusedVariables false
namespace Go.Proofs.Ytanfgfclpjmngaa
open Go.Abs
attribute [local irreducible] C X CC Y CV CW binK litK AppK PureC PureCV againK loopV rangeV allK ifK got onB condK V stepsK planK opK firstK seeE keepsK
end Go.Proofs.Ytanfgfclpjmngaa

set_option maxRecDepth 100000
set_option maxHeartbeats 1000000
set_option linter.unusedSimpArgs false
set_option linter.unusedVariables false
namespace Go.Proofs.Ytanfgfclpjmngaa
open Go.Abs
attribute [local irreducible] C X CC Y CV CW binK litK AppK PureC PureCV againK loopV rangeV allK ifK got onB condK V stepsK planK opK firstK seeE keepsK
structure One (nm : List UInt8) (o : Obj) (b : Bool) : Prop where
  yes : b = true → objOk o = true ∧ o.name = nm
  no : b = false → o = noObj
def holdO (o : Obj) : Ban := ⟨o.client, o.inst⟩
structure Lk (k : Int) (o : Obj) (H who : Ban) (r : Res) (o' : Obj) : Prop where
  busy : k = 7 → o.locked = true → who ≠ H → r = ⟨29, o.client, o.inst, []⟩ ∧ o' = o
  lock : k = 7 → ¬ (o.locked = true ∧ who ≠ H) → r.err = 0 ∧ o'.locked = true ∧ holdO o' = who
  unlock : k = 8 → (r.err = 0 ↔ o.locked = true ∧ who = H) ∧ (r.err = 0 → o'.locked = false ∧ holdO o' = ⟨0, 0⟩) ∧ (r.err ≠ 0 → o'.locked = o.locked ∧ holdO o' = H)
  broke : k = 9 → (r.err = 0 ↔ o.locked = true) ∧ o'.locked = false ∧ holdO o' = ⟨0, 0⟩
  gone : k = 4 → o'.locked = false ∧ holdO o' = ⟨0, 0⟩
  else_ : k ≠ 7 → k ≠ 8 → k ≠ 9 → k ≠ 4 → o'.locked = o.locked ∧ holdO o' = H
end Go.Proofs.Ytanfgfclpjmngaa

set_option maxRecDepth 100000
set_option maxHeartbeats 1000000
set_option linter.unusedSimpArgs false
set_option linter.unusedVariables false
namespace Go.Proofs.Ytanfgfclpjmngaa
open Go.Abs
attribute [local irreducible] C X CC Y CV CW binK litK AppK PureC PureCV againK loopV rangeV allK ifK got onB condK V stepsK planK opK firstK seeE keepsK
def putS (nm : List UInt8) (o : Obj) (q : List Obj × Bool) (x : Obj) : List Obj × Bool :=
  let p := if q.2 = false ∧ lessT x.name nm = false then (q.1 ++ [o], true) else q
  if x.name = nm then p else (p.1 ++ [x], p.2)
theorem putS_in {nm : List UInt8} (o : Obj) {q : List Obj × Bool} {x : Obj} (h1 : q.2 = false) (h2 : lessT x.name nm = false) : putS nm o q x = if x.name = nm then (q.1 ++ [o], true) else (q.1 ++ [o] ++ [x], true) := by
  have hc : q.2 = false ∧ lessT x.name nm = false := ⟨h1, h2⟩
  by_cases hn : x.name = nm
  · rw [if_pos hn]; unfold putS; rw [if_pos hc]; exact if_pos hn
  · rw [if_neg hn]; unfold putS; rw [if_pos hc]; exact if_neg hn
theorem putS_by {nm : List UInt8} (o : Obj) {q : List Obj × Bool} {x : Obj} (h : ¬ (q.2 = false ∧ lessT x.name nm = false)) : putS nm o q x = if x.name = nm then q else (q.1 ++ [x], q.2) := by
  have e : (if q.2 = false ∧ lessT x.name nm = false then (q.1 ++ [o], true) else q) = q := if_neg h
  unfold putS
  rw [e]
def putTo (l : List Obj) (nm : List UInt8) (o : Obj) (b : Bool) : List Obj × Bool := l.foldl (putS nm o) ([], !b)
def putL (l : List Obj) (nm : List UInt8) (o : Obj) (b : Bool) : List Obj := if (putTo l nm o b).2 then (putTo l nm o b).1 else (putTo l nm o b).1 ++ [o]
theorem putTo_next (l : List Obj) (nm : List UInt8) (o : Obj) (b : Bool) {i : Nat} (hi : i < l.length) : putTo (l.take (i + 1)) nm o b = putS nm o (putTo (l.take i) nm o b) (l.getD i default) := by
  unfold putTo
  rw [tk_next l i hi, List.foldl_append]; rfl
theorem putS_len (nm : List UInt8) (o : Obj) (q : List Obj × Bool) (x : Obj) : (putS nm o q x).1.length ≤ q.1.length + 2 := by
  unfold putS
  dsimp only
  split <;> split <;> simp <;> omega
theorem put_len (l : List Obj) (nm : List UInt8) (o : Obj) (b : Bool) : ∀ i, i ≤ l.length → (putTo (l.take i) nm o b).1.length ≤ 2 * i
  | 0, _ => by simp [putTo]
  | i + 1, h => by
    rw [putTo_next l nm o b h]
    have := put_len l nm o b i (by omega)
    have := putS_len nm o (putTo (l.take i) nm o b) (l.getD i default)
    omega
theorem fold_lo {nm : List UInt8} (o : Obj) : ∀ (l : List Obj) (q : List Obj × Bool), (∀ x ∈ l, lessT x.name nm = true) → l.foldl (putS nm o) q = (q.1 ++ l, q.2)
  | [], q, _ => by simp
  | x :: l, q, h => by
    have hx := h x (List.mem_cons_self ..)
    have hne : x.name ≠ nm := fun e => by rw [e, less_irrefl] at hx; cases hx
    have e : putS nm o q x = (q.1 ++ [x], q.2) := by
      rw [putS_by o (fun c => by rw [hx] at c; cases c.2), if_neg hne]
    rw [List.foldl_cons, e, fold_lo o l _ (fun y hy => h y (List.mem_cons_of_mem _ hy))]
    simp
theorem fold_hi {nm : List UInt8} (o : Obj) : ∀ (l : List Obj) (p : List Obj), (∀ x ∈ l, x.name ≠ nm) → l.foldl (putS nm o) (p, true) = (p ++ l, true)
  | [], q, _ => by simp
  | x :: l, q, h => by
    have e : putS nm o (q, true) x = (q ++ [x], true) := by
      rw [putS_by o (fun c => by cases c.1), if_neg (h x (List.mem_cons_self ..))]
    rw [List.foldl_cons, e, fold_hi o l _ (fun y hy => h y (List.mem_cons_of_mem _ hy))]
    simp
theorem put_is {l : List Obj} (hf : fitB l = true) (nm : List UInt8) (o : Obj) (b : Bool) :
    putL l nm o b = if b then (if foundB l nm (placeN l nm) then l.set (placeN l nm) o else l.take (placeN l nm) ++ o :: l.drop (placeN l nm))
      else if foundB l nm (placeN l nm) then l.take (placeN l nm) ++ l.drop (placeN l nm + 1) else l := by
  have hp := place_fit hf nm
  generalize hk : placeN l nm = k at *
  have hle := hp.le
  have hlo : ∀ x ∈ l.take k, lessT x.name nm = true := fun a ha => by
    obtain ⟨i, hi, rfl⟩ := List.getElem_of_mem ha
    rw [List.length_take] at hi
    have := hp.lo i (by omega)
    rw [getD_get l i (by omega)] at this
    rw [List.getElem_take]; exact this
  have hsplit : putTo l nm o b = (l.drop k).foldl (putS nm o) (l.take k, !b) := by
    unfold putTo
    conv => lhs; rw [← List.take_append_drop k l, List.foldl_append, fold_lo o _ _ hlo]
    simp
  by_cases hkl : k < l.length
  · have hd : l.drop k = l[k] :: l.drop (k + 1) := List.drop_eq_getElem_cons hkl
    have hnl : lessT l[k].name nm = false := by have := hp.hi k (Nat.le_refl _) hkl; rwa [getD_get l k hkl] at this
    have hrest : ∀ x ∈ l.drop (k + 1), x.name ≠ nm := fun a ha => by
      obtain ⟨i, hi, rfl⟩ := List.getElem_of_mem ha
      rw [List.length_drop] at hi
      have h1 := fit_less hf (k + 1 + i) k (by omega) (by omega)
      rw [getD_get l k hkl, getD_get l (k + 1 + i) (by omega)] at h1
      rw [List.getElem_drop]
      intro e
      rw [e, hnl] at h1; cases h1
    have hfound : foundB l nm k = decide (l[k].name = nm) := by
      unfold foundB
      rw [decide_eq_true hkl, getD_get l k hkl, Bool.true_and]
    rw [hfound]
    have hset : l.set k o = l.take k ++ o :: l.drop (k + 1) := by rw [List.set_eq_take_append_cons_drop, if_pos hkl]
    rw [hset]
    cases b with
    | true =>
      rw [if_pos rfl]
      have e1 : putS nm o (l.take k, !true) l[k] = if l[k].name = nm then (l.take k ++ [o], true) else (l.take k ++ [o] ++ [l[k]], true) := putS_in o rfl hnl
      by_cases hn : l[k].name = nm
      · rw [if_pos hn] at e1
        have e2 : putTo l nm o true = (l.take k ++ [o] ++ l.drop (k + 1), true) := by rw [hsplit, hd, List.foldl_cons, e1, fold_hi o _ _ hrest]
        unfold putL
        rw [e2, if_pos rfl, decide_eq_true hn, if_pos rfl]
        simp
      · rw [if_neg hn] at e1
        have e2 : putTo l nm o true = (l.take k ++ [o] ++ [l[k]] ++ l.drop (k + 1), true) := by rw [hsplit, hd, List.foldl_cons, e1, fold_hi o _ _ hrest]
        unfold putL
        rw [e2, if_pos rfl, decide_eq_false hn, if_neg (by decide), hd]
        simp
    | false =>
      rw [if_neg (by decide)]
      have e1 : putS nm o (l.take k, !false) l[k] = if l[k].name = nm then (l.take k, true) else (l.take k ++ [l[k]], true) := putS_by o (fun c => by cases c.1)
      by_cases hn : l[k].name = nm
      · rw [if_pos hn] at e1
        have e2 : putTo l nm o false = (l.take k ++ l.drop (k + 1), true) := by rw [hsplit, hd, List.foldl_cons, e1, fold_hi o _ _ hrest]
        unfold putL
        rw [e2, if_pos rfl, decide_eq_true hn, if_pos rfl]
      · rw [if_neg hn] at e1
        have e2 : putTo l nm o false = (l.take k ++ [l[k]] ++ l.drop (k + 1), true) := by rw [hsplit, hd, List.foldl_cons, e1, fold_hi o _ _ hrest]
        unfold putL
        rw [e2, if_pos rfl, decide_eq_false hn, if_neg (by decide)]
        have : l.take k ++ [l[k]] ++ l.drop (k + 1) = l.take k ++ l.drop k := by rw [hd]; simp
        rw [this, List.take_append_drop]
  · have hkl' : k = l.length := by omega
    have hd : l.drop k = [] := by rw [hkl']; exact List.drop_length ..
    have ht : l.take k = l := by rw [hkl']; exact List.take_length ..
    have hfound : foundB l nm k = false := by unfold foundB; rw [decide_eq_false hkl, Bool.false_and]
    rw [hfound]
    rw [hd, ht] at hsplit
    unfold putL
    rw [hsplit, ht, hd]
    cases b <;> simp
end Go.Proofs.Ytanfgfclpjmngaa

set_option maxRecDepth 100000
set_option maxHeartbeats 1000000
set_option linter.unusedSimpArgs false
set_option linter.unusedVariables false
namespace Go.Proofs.Ytanfgfclpjmngaa
open Go.Abs
attribute [local irreducible] C X CC Y CV CW binK litK AppK PureC PureCV againK loopV rangeV allK ifK got onB condK V stepsK planK opK firstK seeE keepsK
end Go.Proofs.Ytanfgfclpjmngaa
