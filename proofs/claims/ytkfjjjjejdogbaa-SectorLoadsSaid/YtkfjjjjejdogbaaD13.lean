/- Package 05: the law SectorNobody: a device that nobody made. -/
import Derived.Test.YtkfjjjjejdogbaaD12
set_option maxRecDepth 100000
set_option maxHeartbeats 1000000
set_option linter.unusedSimpArgs false
set_option linter.unusedVariables false
namespace Go.Proofs.Ytkfjjjjejdogbaa
open Go.Abs
attribute [local irreducible] C X CC Y CV CW binK litK AppK PureC PureCV againK loopV rangeV allK ifK got onB condK V stepsK planK opK firstK seeE keepsK

structure Act where
  kind : Int
  n : Int
  data : List UInt8
  pick : Int
instance : Inhabited Act := ⟨⟨0, 0, [], 0⟩⟩
def Act.cells (d : Act) : List AV := [.val (.int .i64 d.kind), .val (.int .i64 d.n), .vs (d.data.map byteC) false, .val (.int .u64 d.pick)]
theorem Act.g0 (d : Act) : d.cells[0]? = some (.val (.int .i64 d.kind)) := rfl
theorem Act.s0 (d : Act) (v : Int) : setRange d.cells 0 [.val (.int .i64 v)] = ({ d with kind := v } : Act).cells := rfl
theorem Act.g1 (d : Act) : d.cells[1]? = some (.val (.int .i64 d.n)) := rfl
theorem Act.s1 (d : Act) (v : Int) : setRange d.cells 1 [.val (.int .i64 v)] = ({ d with n := v } : Act).cells := rfl
theorem Act.g2 (d : Act) : d.cells[2]? = some (.vs (d.data.map byteC) false) := rfl
theorem Act.s2 (d : Act) (v : List UInt8) : setRange d.cells 2 [.vs (v.map byteC) false] = ({ d with data := v } : Act).cells := rfl
theorem Act.g3 (d : Act) : d.cells[3]? = some (.val (.int .u64 d.pick)) := rfl
theorem Act.s3 (d : Act) (v : Int) : setRange d.cells 3 [.val (.int .u64 v)] = ({ d with pick := v } : Act).cells := rfl
theorem Act.len (d : Act) : d.cells.length = 4 := rfl
theorem Act.take (d : Act) : d.cells.take 4 = d.cells := rfl
theorem Act.rall (l : List Act) : (l.map Act.cells).flatten.all AV.one = true := by
  rw [List.all_eq_true]
  intro x hx
  obtain ⟨e, he, hx⟩ := List.mem_flatten.1 hx
  obtain ⟨a, _, rfl⟩ := List.mem_map.1 he
  exact List.all_eq_true.1 (show a.cells.all AV.one = true from rfl) x hx
theorem Act.rlen (l : List Act) : (l.map Act.cells).flatten.length = l.length * 4 := row_len Act.cells (fun _ => rfl) l
theorem Act.rat (l : List Act) (k j : Nat) (hk : k < l.length) (hj : j < 4) : (l.map Act.cells).flatten[k * 4 + j]? = (l.getD k default).cells[j]? := row_at Act.cells (fun _ => rfl) l hk hj
theorem Act.rat0 (l : List Act) (k : Nat) (hk : k < l.length) : (l.map Act.cells).flatten[k * 4]? = (l.getD k default).cells[0]? := row_at Act.cells (s := 4) (fun _ => rfl) l (j := 0) hk (Nat.zero_lt_succ _)
theorem Act.rpart (l : List Act) (k : Nat) (hk : k < l.length) : ((l.map Act.cells).flatten.drop (k * 4)).take 4 = (l.getD k default).cells := row_part Act.cells (fun _ => rfl) l hk
theorem Act.rin (l : List Act) (k j : Nat) (hk : k < l.length) (hj : j ≤ 4) : (k * 4 + j ≤ (l.map Act.cells).flatten.length) = True := eq_true (row_in Act.cells (fun _ => rfl) l hk hj)
theorem Act.rset (l : List Act) (k : Nat) (hk : k < l.length) (d : Act) : setRange (l.map Act.cells).flatten (k * 4) d.cells = ((l.set k d).map Act.cells).flatten := row_set Act.cells (fun _ => rfl) l hk d
theorem Act.rf0 (l : List Act) (k : Nat) (hk : k < l.length) (v : Int) : setRange (l.map Act.cells).flatten (k * 4 + 0) [.val (.int .i64 v)] = ((l.set k { l.getD k default with kind := v }).map Act.cells).flatten := row_field Act.cells (s := 4) (fun _ => rfl) l hk _ _ rfl (by decide)
theorem Act.rfz (l : List Act) (k : Nat) (hk : k < l.length) (v : Int) : setRange (l.map Act.cells).flatten (k * 4) [.val (.int .i64 v)] = ((l.set k { l.getD k default with kind := v }).map Act.cells).flatten := row_field Act.cells (s := 4) (j := 0) (fun _ => rfl) l hk _ _ rfl (by decide)
theorem Act.rf1 (l : List Act) (k : Nat) (hk : k < l.length) (v : Int) : setRange (l.map Act.cells).flatten (k * 4 + 1) [.val (.int .i64 v)] = ((l.set k { l.getD k default with n := v }).map Act.cells).flatten := row_field Act.cells (s := 4) (fun _ => rfl) l hk _ _ rfl (by decide)
theorem Act.rf2 (l : List Act) (k : Nat) (hk : k < l.length) (v : List UInt8) : setRange (l.map Act.cells).flatten (k * 4 + 2) [.vs (v.map byteC) false] = ((l.set k { l.getD k default with data := v }).map Act.cells).flatten := row_field Act.cells (s := 4) (fun _ => rfl) l hk _ _ rfl (by decide)
theorem Act.rf3 (l : List Act) (k : Nat) (hk : k < l.length) (v : Int) : setRange (l.map Act.cells).flatten (k * 4 + 3) [.val (.int .u64 v)] = ((l.set k { l.getD k default with pick := v }).map Act.cells).flatten := row_field Act.cells (s := 4) (fun _ => rfl) l hk _ _ rfl (by decide)
theorem Act.sall (d e : Act) : setRange d.cells 0 e.cells = e.cells := rfl
theorem Act.slit (d : Act) (a0 a1 a2 a3 : AV) : setRange d.cells 0 [a0, a1, a2, a3] = [a0, a1, a2, a3] := rfl
theorem Act.drop (d : Act) : d.cells.drop 4 = [] := rfl
theorem Act.all (d : Act) : d.cells.all AV.one = true := rfl
theorem Act.mk_agg (kind : Int) (n : Int) (data : List UInt8) (pick : Int) : AV.agg [.val (.int .i64 kind), .val (.int .i64 n), .vs (data.map byteC) false, .val (.int .u64 pick)] = .agg (Act.cells ⟨kind, n, data, pick⟩) := rfl
def Act.ok (d : Act) : Prop := (-9223372036854775808 ≤ d.kind ∧ d.kind ≤ 9223372036854775807) ∧ (-9223372036854775808 ≤ d.n ∧ d.n ≤ 9223372036854775807) ∧ d.data.length ≤ 140737488351232 ∧ (0 ≤ d.pick ∧ d.pick ≤ 18446744073709551615)
theorem Act.of_shaped {cs : List AV} (h : Shaped Try.prog 48 cs) (hc : cs.length = 4) : ∃ d : Act, cs = d.cells ∧ d.ok := by
  have h := Shaped.leaves laidOut 8 48 [3, 3, 27, 23] cs (of_decide_eq_true (by kernel_rfl)) (by kernel_rfl) h (hc.trans (cells_size ti_48).symm)
  match cs, h with
  | [c0, c1, c2, c3], ⟨h0, h1, h2, h3, _⟩ =>
    obtain ⟨x0, rfl, w0⟩ := h0.i64 ti_3 rfl
    obtain ⟨x1, rfl, w1⟩ := h1.i64 ti_3 rfl
    obtain ⟨x2, rfl, w2⟩ := Shaped.bytes ti_27 rfl ti_5 rfl rfl rfl h2
    obtain ⟨x3, rfl, w3⟩ := h3.u64 ti_23 rfl
    exact ⟨⟨x0, x1, x2, x3⟩, rfl, w0, w1, w2, w3⟩
def nobody : List AV := [.val (.slice none 0 0), .val (.bool false), .val (.int .i64 0), .val (.int .u64 0), .val (.slice none 0 0), .val (.bool false), .val (.int .i64 0), .val (.int .i64 0)]
theorem N28 (z : AV) (h : z = .val (.pointer none) ∨ z = .vp nobody 0) : F Try.prog 28 [z] (.val (.bool true)) := by
  refine F28_of ?_
  rcases h with rfl | rfl <;> unfold k28
  · repeat' first
      | simp -dsimp (disch := omega) only [↓rulesA, rulesB, rulesC, Int.reduceLT, nth, upd, put, storeN, AV.one, Nat.reduceBEq, Nat.reduceBNe, Int.reduceBEq, Int.reduceBNe, Int.reduceLE, Int.reduceEq, Int.reduceMod, Int.reduceNeg, boolBin, strBin, intBin, unA, fillA, ne_eq, reduceCtorEq, Nat.reduceAdd, Nat.reduceSub, Nat.reduceLeDiff, Nat.reduceLT, Nat.reduceEqDiff, Int.reduceToNat, eq_self, rulesT, bne_self_eq_false, mm_min, mm_max, buOf_some, nilCheck_vp, nilCheck_ptr, nilCheck_yld, nilCheck_func, *]
      | (refine allK_intro fun n hn => ?_; try simp only [fresh_set] at hn)
      | (refine ifK_intro (fun h => ?_) (fun h => ?_) <;> (try simp only [decide_eq_true_eq, decide_eq_false_iff_not, Bool.not_eq_true', Bool.not_eq_false'] at h) <;> try (exfalso; (try simp only [beq_iff_eq, beq_eq_false_iff_ne, bne_iff_ne, bne_eq_false_iff_eq, ne_eq] at h); omega))
      | (refine keeps_sub (Mem.sub_set (by simp [Mem.set_at, nomem, *])) ?_)
    exact .val
  · repeat' first
      | simp -dsimp (disch := omega) only [↓rulesA, rulesB, rulesC, Int.reduceLT, nth, upd, put, storeN, AV.one, Nat.reduceBEq, Nat.reduceBNe, Int.reduceBEq, Int.reduceBNe, Int.reduceLE, Int.reduceEq, Int.reduceMod, Int.reduceNeg, boolBin, strBin, intBin, unA, fillA, ne_eq, reduceCtorEq, Nat.reduceAdd, Nat.reduceSub, Nat.reduceLeDiff, Nat.reduceLT, Nat.reduceEqDiff, Int.reduceToNat, eq_self, rulesT, bne_self_eq_false, mm_min, mm_max, buOf_some, nilCheck_vp, nilCheck_ptr, nilCheck_yld, nilCheck_func, nobody, *]
      | (refine allK_intro fun n hn => ?_; try simp only [fresh_set] at hn)
      | (refine ifK_intro (fun h => ?_) (fun h => ?_) <;> (try simp only [decide_eq_true_eq, decide_eq_false_iff_not, Bool.not_eq_true', Bool.not_eq_false'] at h) <;> try (exfalso; (try simp only [beq_iff_eq, beq_eq_false_iff_ne, bne_iff_ne, bne_eq_false_iff_eq, ne_eq] at h); omega))
      | (refine keeps_sub (Mem.sub_set (by simp [Mem.set_at, nomem, *])) ?_)
    exact .val
theorem N12 (z : AV) (h : z = .val (.pointer none) ∨ z = .vp nobody 0) : F Try.prog 12 [z] (.val (.bool true)) := by
  refine F12_of ?_
  unfold k12
  repeat' first
    | simp -dsimp (disch := omega) only [↓rulesA, rulesB, rulesC, Int.reduceLT, nth, upd, put, storeN, AV.one, Nat.reduceBEq, Nat.reduceBNe, Int.reduceBEq, Int.reduceBNe, Int.reduceLE, Int.reduceEq, Int.reduceMod, Int.reduceNeg, boolBin, strBin, intBin, unA, fillA, ne_eq, reduceCtorEq, Nat.reduceAdd, Nat.reduceSub, Nat.reduceLeDiff, Nat.reduceLT, Nat.reduceEqDiff, Int.reduceToNat, eq_self, rulesT, bne_self_eq_false, mm_min, mm_max, buOf_some, nilCheck_vp, nilCheck_ptr, nilCheck_yld, nilCheck_func, *]
    | (refine allK_intro fun n hn => ?_; try simp only [fresh_set] at hn)
    | (refine ifK_intro (fun h => ?_) (fun h => ?_) <;> (try simp only [decide_eq_true_eq, decide_eq_false_iff_not, Bool.not_eq_true', Bool.not_eq_false'] at h) <;> try (exfalso; (try simp only [beq_iff_eq, beq_eq_false_iff_ne, bne_iff_ne, bne_eq_false_iff_eq, ne_eq] at h); omega))
    | (refine keeps_sub (Mem.sub_set (by simp [Mem.set_at, nomem, *])) ?_)
    | (refine call_F (N28 z h) (Seens.refl _ _) ?_)
    | (refine pure_F (N28 z h) (Seens.refl _ _) ?_)
  exact .val
theorem N24 (z : AV) (h : z = .val (.pointer none) ∨ z = .vp nobody 0) (k : Int) : F Try.prog 24 [z, .val (.int .i64 k)] (.tup [.vs [] false, .val (.int .i64 22)]) := by
  refine F24_of ?_
  unfold k24
  repeat' first
    | simp -dsimp (disch := omega) only [↓rulesA, rulesB, rulesC, Int.reduceLT, nth, upd, put, storeN, AV.one, Nat.reduceBEq, Nat.reduceBNe, Int.reduceBEq, Int.reduceBNe, Int.reduceLE, Int.reduceEq, Int.reduceMod, Int.reduceNeg, boolBin, strBin, intBin, unA, fillA, ne_eq, reduceCtorEq, Nat.reduceAdd, Nat.reduceSub, Nat.reduceLeDiff, Nat.reduceLT, Nat.reduceEqDiff, Int.reduceToNat, eq_self, rulesT, bne_self_eq_false, mm_min, mm_max, buOf_some, nilCheck_vp, nilCheck_ptr, nilCheck_yld, nilCheck_func, *]
    | (refine allK_intro fun n hn => ?_; try simp only [fresh_set] at hn)
    | (refine ifK_intro (fun h => ?_) (fun h => ?_) <;> (try simp only [decide_eq_true_eq, decide_eq_false_iff_not, Bool.not_eq_true', Bool.not_eq_false'] at h) <;> try (exfalso; (try simp only [beq_iff_eq, beq_eq_false_iff_ne, bne_iff_ne, bne_eq_false_iff_eq, ne_eq] at h); omega))
    | (refine keeps_sub (Mem.sub_set (by simp [Mem.set_at, nomem, *])) ?_)
    | (refine call_F (N12 z h) (Seens.refl _ _) ?_)
    | (refine pure_F (N12 z h) (Seens.refl _ _) ?_)
  exact .two .nil .val
theorem N10 (z : AV) (h : z = .val (.pointer none) ∨ z = .vp nobody 0) (k : Int) (l : List UInt8) : F Try.prog 10 [z, .val (.int .i64 k), .vs (l.map byteC) false] (.val (.int .i64 22)) := by
  refine F10_of ?_
  unfold k10
  repeat' first
    | simp -dsimp (disch := omega) only [↓rulesA, rulesB, rulesC, Int.reduceLT, nth, upd, put, storeN, AV.one, Nat.reduceBEq, Nat.reduceBNe, Int.reduceBEq, Int.reduceBNe, Int.reduceLE, Int.reduceEq, Int.reduceMod, Int.reduceNeg, boolBin, strBin, intBin, unA, fillA, ne_eq, reduceCtorEq, Nat.reduceAdd, Nat.reduceSub, Nat.reduceLeDiff, Nat.reduceLT, Nat.reduceEqDiff, Int.reduceToNat, eq_self, rulesT, bne_self_eq_false, mm_min, mm_max, buOf_some, nilCheck_vp, nilCheck_ptr, nilCheck_yld, nilCheck_func, *]
    | (refine allK_intro fun n hn => ?_; try simp only [fresh_set] at hn)
    | (refine ifK_intro (fun h => ?_) (fun h => ?_) <;> (try simp only [decide_eq_true_eq, decide_eq_false_iff_not, Bool.not_eq_true', Bool.not_eq_false'] at h) <;> try (exfalso; (try simp only [beq_iff_eq, beq_eq_false_iff_ne, bne_iff_ne, bne_eq_false_iff_eq, ne_eq] at h); omega))
    | (refine keeps_sub (Mem.sub_set (by simp [Mem.set_at, nomem, *])) ?_)
    | (refine call_F (N12 z h) (Seens.refl _ _) ?_)
    | (refine pure_F (N12 z h) (Seens.refl _ _) ?_)
  exact .val
theorem N16 (z : AV) (h : z = .val (.pointer none) ∨ z = .vp nobody 0) : F Try.prog 16 [z] (.val (.int .i64 22)) := by
  refine F16_of ?_
  unfold k16
  repeat' first
    | simp -dsimp (disch := omega) only [↓rulesA, rulesB, rulesC, Int.reduceLT, nth, upd, put, storeN, AV.one, Nat.reduceBEq, Nat.reduceBNe, Int.reduceBEq, Int.reduceBNe, Int.reduceLE, Int.reduceEq, Int.reduceMod, Int.reduceNeg, boolBin, strBin, intBin, unA, fillA, ne_eq, reduceCtorEq, Nat.reduceAdd, Nat.reduceSub, Nat.reduceLeDiff, Nat.reduceLT, Nat.reduceEqDiff, Int.reduceToNat, eq_self, rulesT, bne_self_eq_false, mm_min, mm_max, buOf_some, nilCheck_vp, nilCheck_ptr, nilCheck_yld, nilCheck_func, *]
    | (refine allK_intro fun n hn => ?_; try simp only [fresh_set] at hn)
    | (refine ifK_intro (fun h => ?_) (fun h => ?_) <;> (try simp only [decide_eq_true_eq, decide_eq_false_iff_not, Bool.not_eq_true', Bool.not_eq_false'] at h) <;> try (exfalso; (try simp only [beq_iff_eq, beq_eq_false_iff_ne, bne_iff_ne, bne_eq_false_iff_eq, ne_eq] at h); omega))
    | (refine keeps_sub (Mem.sub_set (by simp [Mem.set_at, nomem, *])) ?_)
    | (refine call_F (N12 z h) (Seens.refl _ _) ?_)
    | (refine pure_F (N12 z h) (Seens.refl _ _) ?_)
  exact .val
theorem N19 (z : AV) (h : z = .val (.pointer none) ∨ z = .vp nobody 0) (p : Int) : F Try.prog 19 [z, .val (.int .u64 p)] (.tup []) := by
  refine F19_of ?_
  unfold k19
  repeat' first
    | simp -dsimp (disch := omega) only [↓rulesA, rulesB, rulesC, Int.reduceLT, nth, upd, put, storeN, AV.one, Nat.reduceBEq, Nat.reduceBNe, Int.reduceBEq, Int.reduceBNe, Int.reduceLE, Int.reduceEq, Int.reduceMod, Int.reduceNeg, boolBin, strBin, intBin, unA, fillA, ne_eq, reduceCtorEq, Nat.reduceAdd, Nat.reduceSub, Nat.reduceLeDiff, Nat.reduceLT, Nat.reduceEqDiff, Int.reduceToNat, eq_self, rulesT, bne_self_eq_false, mm_min, mm_max, buOf_some, nilCheck_vp, nilCheck_ptr, nilCheck_yld, nilCheck_func, *]
    | (refine allK_intro fun n hn => ?_; try simp only [fresh_set] at hn)
    | (refine ifK_intro (fun h => ?_) (fun h => ?_) <;> (try simp only [decide_eq_true_eq, decide_eq_false_iff_not, Bool.not_eq_true', Bool.not_eq_false'] at h) <;> try (exfalso; (try simp only [beq_iff_eq, beq_eq_false_iff_ne, bne_iff_ne, bne_eq_false_iff_eq, ne_eq] at h); omega))
    | (refine keeps_sub (Mem.sub_set (by simp [Mem.set_at, nomem, *])) ?_)
    | (refine call_F (N12 z h) (Seens.refl _ _) ?_)
    | (refine pure_F (N12 z h) (Seens.refl _ _) ?_)
  exact New.flat rfl
theorem N9 (z : AV) (h : z = .val (.pointer none) ∨ z = .vp nobody 0) (c p : Int) : F Try.prog 9 [z, .val (.int .i64 c), .val (.int .u64 p)] (.tup []) := by
  refine F9_of ?_
  unfold k9
  repeat' first
    | simp -dsimp (disch := omega) only [↓rulesA, rulesB, rulesC, Int.reduceLT, nth, upd, put, storeN, AV.one, Nat.reduceBEq, Nat.reduceBNe, Int.reduceBEq, Int.reduceBNe, Int.reduceLE, Int.reduceEq, Int.reduceMod, Int.reduceNeg, boolBin, strBin, intBin, unA, fillA, ne_eq, reduceCtorEq, Nat.reduceAdd, Nat.reduceSub, Nat.reduceLeDiff, Nat.reduceLT, Nat.reduceEqDiff, Int.reduceToNat, eq_self, rulesT, bne_self_eq_false, mm_min, mm_max, buOf_some, nilCheck_vp, nilCheck_ptr, nilCheck_yld, nilCheck_func, *]
    | (refine allK_intro fun n hn => ?_; try simp only [fresh_set] at hn)
    | (refine ifK_intro (fun h => ?_) (fun h => ?_) <;> (try simp only [decide_eq_true_eq, decide_eq_false_iff_not, Bool.not_eq_true', Bool.not_eq_false'] at h) <;> try (exfalso; (try simp only [beq_iff_eq, beq_eq_false_iff_ne, bne_iff_ne, bne_eq_false_iff_eq, ne_eq] at h); omega))
    | (refine keeps_sub (Mem.sub_set (by simp [Mem.set_at, nomem, *])) ?_)
    | (refine call_F (N12 z h) (Seens.refl _ _) ?_)
    | (refine pure_F (N12 z h) (Seens.refl _ _) ?_)
  exact New.flat rfl
theorem N20 (z : AV) (h : z = .val (.pointer none) ∨ z = .vp nobody 0) : F Try.prog 20 [z] (.tup []) := by
  refine F20_of ?_
  unfold k20
  repeat' first
    | simp -dsimp (disch := omega) only [↓rulesA, rulesB, rulesC, Int.reduceLT, nth, upd, put, storeN, AV.one, Nat.reduceBEq, Nat.reduceBNe, Int.reduceBEq, Int.reduceBNe, Int.reduceLE, Int.reduceEq, Int.reduceMod, Int.reduceNeg, boolBin, strBin, intBin, unA, fillA, ne_eq, reduceCtorEq, Nat.reduceAdd, Nat.reduceSub, Nat.reduceLeDiff, Nat.reduceLT, Nat.reduceEqDiff, Int.reduceToNat, eq_self, rulesT, bne_self_eq_false, mm_min, mm_max, buOf_some, nilCheck_vp, nilCheck_ptr, nilCheck_yld, nilCheck_func, *]
    | (refine allK_intro fun n hn => ?_; try simp only [fresh_set] at hn)
    | (refine ifK_intro (fun h => ?_) (fun h => ?_) <;> (try simp only [decide_eq_true_eq, decide_eq_false_iff_not, Bool.not_eq_true', Bool.not_eq_false'] at h) <;> try (exfalso; (try simp only [beq_iff_eq, beq_eq_false_iff_ne, bne_iff_ne, bne_eq_false_iff_eq, ne_eq] at h); omega))
    | (refine keeps_sub (Mem.sub_set (by simp [Mem.set_at, nomem, *])) ?_)
    | (refine call_F (N28 z h) (Seens.refl _ _) ?_)
    | (refine pure_F (N28 z h) (Seens.refl _ _) ?_)
  exact New.flat rfl
theorem N13 (z : AV) (h : z = .val (.pointer none) ∨ z = .vp nobody 0) : F Try.prog 13 [z] (.tup [.val (.int .i64 0), .val (.int .i64 0)]) := by
  refine F13_of ?_
  unfold k13
  repeat' first
    | simp -dsimp (disch := omega) only [↓rulesA, rulesB, rulesC, Int.reduceLT, nth, upd, put, storeN, AV.one, Nat.reduceBEq, Nat.reduceBNe, Int.reduceBEq, Int.reduceBNe, Int.reduceLE, Int.reduceEq, Int.reduceMod, Int.reduceNeg, boolBin, strBin, intBin, unA, fillA, ne_eq, reduceCtorEq, Nat.reduceAdd, Nat.reduceSub, Nat.reduceLeDiff, Nat.reduceLT, Nat.reduceEqDiff, Int.reduceToNat, eq_self, rulesT, bne_self_eq_false, mm_min, mm_max, buOf_some, nilCheck_vp, nilCheck_ptr, nilCheck_yld, nilCheck_func, *]
    | (refine allK_intro fun n hn => ?_; try simp only [fresh_set] at hn)
    | (refine ifK_intro (fun h => ?_) (fun h => ?_) <;> (try simp only [decide_eq_true_eq, decide_eq_false_iff_not, Bool.not_eq_true', Bool.not_eq_false'] at h) <;> try (exfalso; (try simp only [beq_iff_eq, beq_eq_false_iff_ne, bne_iff_ne, bne_eq_false_iff_eq, ne_eq] at h); omega))
    | (refine keeps_sub (Mem.sub_set (by simp [Mem.set_at, nomem, *])) ?_)
    | (refine call_F (N28 z h) (Seens.refl _ _) ?_)
    | (refine pure_F (N28 z h) (Seens.refl _ _) ?_)
  exact New.flat rfl
theorem N15 (z : AV) (h : z = .val (.pointer none) ∨ z = .vp nobody 0) : F Try.prog 15 [z] (.val (.int .i64 0)) := by
  refine F15_of ?_
  unfold k15
  repeat' first
    | simp -dsimp (disch := omega) only [↓rulesA, rulesB, rulesC, Int.reduceLT, nth, upd, put, storeN, AV.one, Nat.reduceBEq, Nat.reduceBNe, Int.reduceBEq, Int.reduceBNe, Int.reduceLE, Int.reduceEq, Int.reduceMod, Int.reduceNeg, boolBin, strBin, intBin, unA, fillA, ne_eq, reduceCtorEq, Nat.reduceAdd, Nat.reduceSub, Nat.reduceLeDiff, Nat.reduceLT, Nat.reduceEqDiff, Int.reduceToNat, eq_self, rulesT, bne_self_eq_false, mm_min, mm_max, buOf_some, nilCheck_vp, nilCheck_ptr, nilCheck_yld, nilCheck_func, *]
    | (refine allK_intro fun n hn => ?_; try simp only [fresh_set] at hn)
    | (refine ifK_intro (fun h => ?_) (fun h => ?_) <;> (try simp only [decide_eq_true_eq, decide_eq_false_iff_not, Bool.not_eq_true', Bool.not_eq_false'] at h) <;> try (exfalso; (try simp only [beq_iff_eq, beq_eq_false_iff_ne, bne_iff_ne, bne_eq_false_iff_eq, ne_eq] at h); omega))
    | (refine keeps_sub (Mem.sub_set (by simp [Mem.set_at, nomem, *])) ?_)
    | (refine call_F (N28 z h) (Seens.refl _ _) ?_)
    | (refine pure_F (N28 z h) (Seens.refl _ _) ?_)
  exact .val
theorem N17 (z : AV) (h : z = .val (.pointer none) ∨ z = .vp nobody 0) : F Try.prog 17 [z] (.vs [] false) := by
  refine F17_of ?_
  unfold k17
  repeat' first
    | simp -dsimp (disch := omega) only [↓rulesA, rulesB, rulesC, Int.reduceLT, nth, upd, put, storeN, AV.one, Nat.reduceBEq, Nat.reduceBNe, Int.reduceBEq, Int.reduceBNe, Int.reduceLE, Int.reduceEq, Int.reduceMod, Int.reduceNeg, boolBin, strBin, intBin, unA, fillA, ne_eq, reduceCtorEq, Nat.reduceAdd, Nat.reduceSub, Nat.reduceLeDiff, Nat.reduceLT, Nat.reduceEqDiff, Int.reduceToNat, eq_self, rulesT, bne_self_eq_false, mm_min, mm_max, buOf_some, nilCheck_vp, nilCheck_ptr, nilCheck_yld, nilCheck_func, *]
    | (refine allK_intro fun n hn => ?_; try simp only [fresh_set] at hn)
    | (refine ifK_intro (fun h => ?_) (fun h => ?_) <;> (try simp only [decide_eq_true_eq, decide_eq_false_iff_not, Bool.not_eq_true', Bool.not_eq_false'] at h) <;> try (exfalso; (try simp only [beq_iff_eq, beq_eq_false_iff_ne, bne_iff_ne, bne_eq_false_iff_eq, ne_eq] at h); omega))
    | (refine keeps_sub (Mem.sub_set (by simp [Mem.set_at, nomem, *])) ?_)
    | (refine call_F (N28 z h) (Seens.refl _ _) ?_)
    | (refine pure_F (N28 z h) (Seens.refl _ _) ?_)
  exact .nil
theorem N18 (z : AV) (h : z = .val (.pointer none) ∨ z = .vp nobody 0) : F Try.prog 18 [z] (.vs [] false) := by
  refine F18_of ?_
  unfold k18
  repeat' first
    | simp -dsimp (disch := omega) only [↓rulesA, rulesB, rulesC, Int.reduceLT, nth, upd, put, storeN, AV.one, Nat.reduceBEq, Nat.reduceBNe, Int.reduceBEq, Int.reduceBNe, Int.reduceLE, Int.reduceEq, Int.reduceMod, Int.reduceNeg, boolBin, strBin, intBin, unA, fillA, ne_eq, reduceCtorEq, Nat.reduceAdd, Nat.reduceSub, Nat.reduceLeDiff, Nat.reduceLT, Nat.reduceEqDiff, Int.reduceToNat, eq_self, rulesT, bne_self_eq_false, mm_min, mm_max, buOf_some, nilCheck_vp, nilCheck_ptr, nilCheck_yld, nilCheck_func, *]
    | (refine allK_intro fun n hn => ?_; try simp only [fresh_set] at hn)
    | (refine ifK_intro (fun h => ?_) (fun h => ?_) <;> (try simp only [decide_eq_true_eq, decide_eq_false_iff_not, Bool.not_eq_true', Bool.not_eq_false'] at h) <;> try (exfalso; (try simp only [beq_iff_eq, beq_eq_false_iff_ne, bne_iff_ne, bne_eq_false_iff_eq, ne_eq] at h); omega))
    | (refine keeps_sub (Mem.sub_set (by simp [Mem.set_at, nomem, *])) ?_)
    | (refine call_F (N28 z h) (Seens.refl _ _) ?_)
    | (refine pure_F (N28 z h) (Seens.refl _ _) ?_)
  exact .nil
theorem F6 (b : Bool) (a : Act) : F Try.prog 6 [.val (.bool b), .agg a.cells] (.val (.bool true)) := by
  refine F6_of ?_
  unfold k6
  rcases b
  · have h : (.vp nobody 0 : AV) = .val (.pointer none) ∨ (.vp nobody 0 : AV) = .vp nobody 0 := .inr rfl
    repeat' first
      | simp -dsimp (disch := omega) only [↓rulesA, rulesB, rulesC, Int.reduceLT, nth, upd, put, storeN, AV.one, Nat.reduceBEq, Nat.reduceBNe, Int.reduceBEq, Int.reduceBNe, Int.reduceLE, Int.reduceEq, Int.reduceMod, Int.reduceNeg, boolBin, strBin, intBin, unA, fillA, ne_eq, reduceCtorEq, Nat.reduceAdd, Nat.reduceSub, Nat.reduceLeDiff, Nat.reduceLT, Nat.reduceEqDiff, Int.reduceToNat, eq_self, rulesT, bne_self_eq_false, mm_min, mm_max, buOf_some, nilCheck_vp, nilCheck_ptr, nilCheck_yld, nilCheck_func, Act.g0, Act.g1, Act.g2, Act.g3, Act.len, Act.take, Act.all, *]
      | (refine allK_intro fun n hn => ?_; try simp only [fresh_set] at hn)
      | (refine ifK_intro (fun h => ?_) (fun h => ?_) <;> (try simp only [decide_eq_true_eq, decide_eq_false_iff_not, Bool.not_eq_true', Bool.not_eq_false'] at h) <;> try (exfalso; (try simp only [beq_iff_eq, beq_eq_false_iff_ne, bne_iff_ne, bne_eq_false_iff_eq, ne_eq] at h); omega))
      | (refine keeps_sub (Mem.sub_set (by simp [Mem.set_at, nomem, *])) ?_)
    have hs : Kept (∀ M : Mem, M n = some (.cells false 59 nobody) → Seen M (.ptr n 0) (.vp nobody 0)) := fun M hM => Seen.ptrOf hM (Nat.zero_lt_succ _) (Seens.refl _ _)
    have hs' : ∀ M : Mem, M n = some (.cells false 59 nobody) → Seen M (.ptr n 0) (.vp nobody 0) := hs
    repeat' first
      | simp -dsimp (disch := omega) only [↓rulesA, rulesB, rulesC, Int.reduceLT, nth, upd, put, storeN, AV.one, Nat.reduceBEq, Nat.reduceBNe, Int.reduceBEq, Int.reduceBNe, Int.reduceLE, Int.reduceEq, Int.reduceMod, Int.reduceNeg, boolBin, strBin, intBin, unA, fillA, ne_eq, reduceCtorEq, Nat.reduceAdd, Nat.reduceSub, Nat.reduceLeDiff, Nat.reduceLT, Nat.reduceEqDiff, Int.reduceToNat, eq_self, rulesT, bne_self_eq_false, mm_min, mm_max, buOf_some, nilCheck_vp, nilCheck_ptr, nilCheck_yld, nilCheck_func, Act.g0, Act.g1, Act.g2, Act.g3, Act.len, Act.take, Act.all, *]
      | (refine allK_intro fun n hn => ?_; try simp only [fresh_set] at hn)
      | (refine ifK_intro (fun h => ?_) (fun h => ?_) <;> (try simp only [decide_eq_true_eq, decide_eq_false_iff_not, Bool.not_eq_true', Bool.not_eq_false'] at h) <;> try (exfalso; (try simp only [beq_iff_eq, beq_eq_false_iff_ne, bne_iff_ne, bne_eq_false_iff_eq, ne_eq] at h); omega))
      | (refine keeps_sub (Mem.sub_set (by simp [Mem.set_at, nomem, *])) ?_)
      | (refine call_F (N24 _ h _) (.two (hs' _ (Mem.set_same _ _ _)) .same) ?_)
      | (refine pure_F (N24 _ h _) (.two (hs' _ (Mem.set_same _ _ _)) .same) ?_)
      | (refine call_F (N10 _ h _ _) (.three (hs' _ (Mem.set_same _ _ _)) .same .same) ?_)
      | (refine pure_F (N10 _ h _ _) (.three (hs' _ (Mem.set_same _ _ _)) .same .same) ?_)
      | (refine call_F (N16 _ h) (.one (hs' _ (Mem.set_same _ _ _))) ?_)
      | (refine pure_F (N16 _ h) (.one (hs' _ (Mem.set_same _ _ _))) ?_)
      | (refine call_F (N19 _ h _) (.two (hs' _ (Mem.set_same _ _ _)) .same) ?_)
      | (refine pure_F (N19 _ h _) (.two (hs' _ (Mem.set_same _ _ _)) .same) ?_)
      | (refine call_F (N9 _ h _ _) (.three (hs' _ (Mem.set_same _ _ _)) .same .same) ?_)
      | (refine pure_F (N9 _ h _ _) (.three (hs' _ (Mem.set_same _ _ _)) .same .same) ?_)
      | (refine call_F (N20 _ h) (.one (hs' _ (Mem.set_same _ _ _))) ?_)
      | (refine pure_F (N20 _ h) (.one (hs' _ (Mem.set_same _ _ _))) ?_)
      | (refine call_F (N13 _ h) (.one (hs' _ (Mem.set_same _ _ _))) ?_)
      | (refine pure_F (N13 _ h) (.one (hs' _ (Mem.set_same _ _ _))) ?_)
      | (refine call_F (N12 _ h) (.one (hs' _ (Mem.set_same _ _ _))) ?_)
      | (refine pure_F (N12 _ h) (.one (hs' _ (Mem.set_same _ _ _))) ?_)
      | (refine call_F (N15 _ h) (.one (hs' _ (Mem.set_same _ _ _))) ?_)
      | (refine pure_F (N15 _ h) (.one (hs' _ (Mem.set_same _ _ _))) ?_)
      | (refine call_F (N17 _ h) (.one (hs' _ (Mem.set_same _ _ _))) ?_)
      | (refine pure_F (N17 _ h) (.one (hs' _ (Mem.set_same _ _ _))) ?_)
      | (refine call_F (N18 _ h) (.one (hs' _ (Mem.set_same _ _ _))) ?_)
      | (refine pure_F (N18 _ h) (.one (hs' _ (Mem.set_same _ _ _))) ?_)
      | (refine call_F (F14) (Seens.refl _ _) ?_)
      | (refine pure_F (F14) (Seens.refl _ _) ?_)
    exact .val
  · have h : (.val (.pointer none) : AV) = .val (.pointer none) ∨ (.val (.pointer none) : AV) = .vp nobody 0 := .inl rfl
    repeat' first
      | simp -dsimp (disch := omega) only [↓rulesA, rulesB, rulesC, Int.reduceLT, nth, upd, put, storeN, AV.one, Nat.reduceBEq, Nat.reduceBNe, Int.reduceBEq, Int.reduceBNe, Int.reduceLE, Int.reduceEq, Int.reduceMod, Int.reduceNeg, boolBin, strBin, intBin, unA, fillA, ne_eq, reduceCtorEq, Nat.reduceAdd, Nat.reduceSub, Nat.reduceLeDiff, Nat.reduceLT, Nat.reduceEqDiff, Int.reduceToNat, eq_self, rulesT, bne_self_eq_false, mm_min, mm_max, buOf_some, nilCheck_vp, nilCheck_ptr, nilCheck_yld, nilCheck_func, Act.g0, Act.g1, Act.g2, Act.g3, Act.len, Act.take, Act.all, *]
      | (refine allK_intro fun n hn => ?_; try simp only [fresh_set] at hn)
      | (refine ifK_intro (fun h => ?_) (fun h => ?_) <;> (try simp only [decide_eq_true_eq, decide_eq_false_iff_not, Bool.not_eq_true', Bool.not_eq_false'] at h) <;> try (exfalso; (try simp only [beq_iff_eq, beq_eq_false_iff_ne, bne_iff_ne, bne_eq_false_iff_eq, ne_eq] at h); omega))
      | (refine keeps_sub (Mem.sub_set (by simp [Mem.set_at, nomem, *])) ?_)
      | (refine call_F (N24 _ h _) (Seens.refl _ _) ?_)
      | (refine pure_F (N24 _ h _) (Seens.refl _ _) ?_)
      | (refine call_F (N10 _ h _ _) (Seens.refl _ _) ?_)
      | (refine pure_F (N10 _ h _ _) (Seens.refl _ _) ?_)
      | (refine call_F (N16 _ h) (Seens.refl _ _) ?_)
      | (refine pure_F (N16 _ h) (Seens.refl _ _) ?_)
      | (refine call_F (N19 _ h _) (Seens.refl _ _) ?_)
      | (refine pure_F (N19 _ h _) (Seens.refl _ _) ?_)
      | (refine call_F (N9 _ h _ _) (Seens.refl _ _) ?_)
      | (refine pure_F (N9 _ h _ _) (Seens.refl _ _) ?_)
      | (refine call_F (N20 _ h) (Seens.refl _ _) ?_)
      | (refine pure_F (N20 _ h) (Seens.refl _ _) ?_)
      | (refine call_F (N13 _ h) (Seens.refl _ _) ?_)
      | (refine pure_F (N13 _ h) (Seens.refl _ _) ?_)
      | (refine call_F (N12 _ h) (Seens.refl _ _) ?_)
      | (refine pure_F (N12 _ h) (Seens.refl _ _) ?_)
      | (refine call_F (N15 _ h) (Seens.refl _ _) ?_)
      | (refine pure_F (N15 _ h) (Seens.refl _ _) ?_)
      | (refine call_F (N17 _ h) (Seens.refl _ _) ?_)
      | (refine pure_F (N17 _ h) (Seens.refl _ _) ?_)
      | (refine call_F (N18 _ h) (Seens.refl _ _) ?_)
      | (refine pure_F (N18 _ h) (Seens.refl _ _) ?_)
      | (refine call_F (F14) (Seens.refl _ _) ?_)
      | (refine pure_F (F14) (Seens.refl _ _) ?_)
    exact .val
theorem nobody_law : ∀ args, ShapedAll Try.prog Try.f6.params.toList args → F Try.prog 6 args (.val (.bool true)) := by
  intro args h
  have hp : Try.f6.params.toList = [4, 48] := by kernel_rfl
  rw [hp] at h
  match args, h with
  | [a, b], ⟨h0, h1, _⟩ =>
    obtain ⟨x, rfl⟩ := (h0.one ti_4 rfl).boo ti_4 rfl
    obtain ⟨cs, rfl, hl, hs⟩ := h1.cells ti_48 rfl
    obtain ⟨d, rfl, _⟩ := Act.of_shaped hs hl
    exact F6 x d
end Go.Proofs.Ytkfjjjjejdogbaa

