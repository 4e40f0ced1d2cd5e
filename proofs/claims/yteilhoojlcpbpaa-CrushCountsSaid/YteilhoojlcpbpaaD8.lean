/- Package 11: chapter 11's examples; the few. -/
import Derived.Test.YteilhoojlcpbpaaD7
set_option maxRecDepth 100000
set_option maxHeartbeats 1000000
set_option linter.unusedSimpArgs false
set_option linter.unusedVariables false
namespace Go.Proofs.Yteilhoojlcpbpaa
open Go.Abs
attribute [local irreducible] C X CC Y CV CW binK litK AppK PureC PureCV againK loopV rangeV allK ifK got onB condK V stepsK planK opK firstK seeE keepsK

theorem lit1_22 (a : Item) : litA Try.prog 22 1 [(0, .agg a.cells)] = some (28, 2, a.cells) := by
  simp only [litA, ti_22, ti_28, z_28, fillA, cells_agg, Item.all, Item.len, if_true]
  rfl
theorem lit2_22 (a b : Item) : litA Try.prog 22 2 [(0, .agg a.cells), (1, .agg b.cells)] = some (28, 2, a.cells ++ b.cells) := by
  simp only [litA, ti_22, ti_28, z_28, fillA, cells_agg, Item.all, Item.len, if_true]
  rfl
theorem chunk_i1 (a : Item) : chunk 2 1 a.cells = [a].map Item.cells := rfl
theorem chunk_i2 (a b : Item) : chunk 2 2 (a.cells ++ b.cells) = [a, b].map Item.cells := rfl
theorem agg_item (a b : Int) : AV.agg [.val (.int .i64 a), .val (.int .i64 b)] = .agg (Item.cells ⟨a, b⟩) := rfl
theorem ix_35 (l : List Nat) (x : Bool) (kk : IntKind) (k : Int) (h0 : 0 ≤ k) (h1 : k < l.length) : indexAddrA Try.prog 35 (.vs (l.map natC) x) (.val (.int kk k)) = some (.vp (natC (l.getD k.toNat default)) 0) := index_vs natC ti_35 rfl ti_3 (fun _ => rfl) l x kk k h0 h1
theorem ex_c1 : choB [⟨1, 0⟩, ⟨2, -1⟩] 5 0 = false := by decide +kernel
theorem ex_c2 : choB [⟨9, 1⟩] 5 0 = true ∧ choP [⟨9, 1⟩] 5 0 = 0 := by decide +kernel
def exL : List Nat := countTo [⟨1, 65536⟩, ⟨2, 196608⟩] 0 (askN 400)
theorem ex_len : exL.length = 2 := countTo_len _ _ _
theorem ex_sum : ((exL.getD 0 default : Nat) : Int) + ((exL.getD 1 default : Nat) : Int) = 400 ∧ 40 < ((exL.getD 0 default : Nat) : Int) ∧ 200 < ((exL.getD 1 default : Nat) : Int) := by decide +kernel
theorem nat_len1 (k : Nat) : (natC k).length = 1 := rfl
theorem nat_cells (k : Nat) : natC k = [.val (.int .i64 k)] := rfl
theorem F9 : F Try.prog 9 [] (.val (.bool true)) := by
  have g1 : F Try.prog 10 [.vs ([⟨1, 0⟩, ⟨2, -1⟩].map Item.cells) true, .val (.int .u32 5), .val (.int .i64 0)] _ := G10 [⟨1, 0⟩, ⟨2, -1⟩] true (by decide) 5 (by decide) 0
  have g2 : F Try.prog 10 [.vs ([⟨9, 1⟩].map Item.cells) true, .val (.int .u32 5), .val (.int .i64 0)] _ := G10 [⟨9, 1⟩] true (by decide) 5 (by decide) 0
  have g3 : F Try.prog 13 [.vs ([⟨1, 65536⟩, ⟨2, 196608⟩].map Item.cells) true, .val (.int .u32 0), .val (.int .i64 400)] (.vs (exL.map natC) false) := F13 [⟨1, 65536⟩, ⟨2, 196608⟩] true (by decide) 0 (by decide) 400
  rw [ex_c1] at g1
  rw [ex_c2.1, ex_c2.2] at g2
  have hl := ex_len
  obtain ⟨hs, h1, h2⟩ := ex_sum
  generalize exL = L at *
  obtain ⟨a, ha⟩ : ∃ a, L.getD 0 default = a := ⟨_, rfl⟩
  obtain ⟨b, hb⟩ : ∃ b, L.getD 1 default = b := ⟨_, rfl⟩
  rw [ha] at hs h1
  rw [hb] at hs h2
  refine F9_of ?_
  unfold k9
  repeat' first
    | simp -dsimp (disch := omega) only [↓rulesA, rulesB, rulesC, Int.reduceLT, nth, upd, put, storeN, AV.one, Nat.reduceBEq, Nat.reduceBNe, Int.reduceBEq, Int.reduceBNe, Int.reduceLE, Int.reduceEq, Int.reduceMod, Int.reduceNeg, boolBin, strBin, intBin, unA, fillA, ne_eq, reduceCtorEq, Nat.reduceAdd, Nat.reduceSub, Nat.reduceLeDiff, Nat.reduceLT, Nat.reduceEqDiff, Int.reduceToNat, eq_self, rulesT, bne_self_eq_false, mm_min, mm_max, buOf_some, nilCheck_vp, nilCheck_ptr, nilCheck_yld, nilCheck_func, agg_item, *]
    | (refine allK_intro fun n hn => ?_; try simp only [fresh_set] at hn)
    | (refine ifK_intro (fun h => ?_) (fun h => ?_) <;> (try simp only [decide_eq_true_eq, decide_eq_false_iff_not, Bool.not_eq_true', Bool.not_eq_false'] at h) <;> try (exfalso; (try simp only [beq_iff_eq, beq_eq_false_iff_ne, bne_iff_ne, bne_eq_false_iff_eq, ne_eq] at h); omega))
    | (refine keeps_sub (Mem.sub_set (by simp [Mem.set_at, nomem, *])) ?_)
  refine lit_vs (lit2_22 _ _) rfl ?_
  rw [chunk_i2]
  repeat' first
    | simp -dsimp (disch := omega) only [↓rulesA, rulesB, rulesC, Int.reduceLT, nth, upd, put, storeN, AV.one, Nat.reduceBEq, Nat.reduceBNe, Int.reduceBEq, Int.reduceBNe, Int.reduceLE, Int.reduceEq, Int.reduceMod, Int.reduceNeg, boolBin, strBin, intBin, unA, fillA, ne_eq, reduceCtorEq, Nat.reduceAdd, Nat.reduceSub, Nat.reduceLeDiff, Nat.reduceLT, Nat.reduceEqDiff, Int.reduceToNat, eq_self, rulesT, bne_self_eq_false, mm_min, mm_max, buOf_some, nilCheck_vp, nilCheck_ptr, nilCheck_yld, nilCheck_func, agg_item, *]
    | (refine allK_intro fun n hn => ?_; try simp only [fresh_set] at hn)
    | (refine ifK_intro (fun h => ?_) (fun h => ?_) <;> (try simp only [decide_eq_true_eq, decide_eq_false_iff_not, Bool.not_eq_true', Bool.not_eq_false'] at h) <;> try (exfalso; (try simp only [beq_iff_eq, beq_eq_false_iff_ne, bne_iff_ne, bne_eq_false_iff_eq, ne_eq] at h); omega))
    | (refine keeps_sub (Mem.sub_set (by simp [Mem.set_at, nomem, *])) ?_)
    | (refine call_F (g1) (Seens.refl _ _) ?_)
    | (refine pure_F (g1) (Seens.refl _ _) ?_)
  refine lit_vs (lit1_22 _) rfl ?_
  rw [chunk_i1]
  repeat' first
    | simp -dsimp (disch := omega) only [↓rulesA, rulesB, rulesC, Int.reduceLT, nth, upd, put, storeN, AV.one, Nat.reduceBEq, Nat.reduceBNe, Int.reduceBEq, Int.reduceBNe, Int.reduceLE, Int.reduceEq, Int.reduceMod, Int.reduceNeg, boolBin, strBin, intBin, unA, fillA, ne_eq, reduceCtorEq, Nat.reduceAdd, Nat.reduceSub, Nat.reduceLeDiff, Nat.reduceLT, Nat.reduceEqDiff, Int.reduceToNat, eq_self, rulesT, bne_self_eq_false, mm_min, mm_max, buOf_some, nilCheck_vp, nilCheck_ptr, nilCheck_yld, nilCheck_func, agg_item, *]
    | (refine allK_intro fun n hn => ?_; try simp only [fresh_set] at hn)
    | (refine ifK_intro (fun h => ?_) (fun h => ?_) <;> (try simp only [decide_eq_true_eq, decide_eq_false_iff_not, Bool.not_eq_true', Bool.not_eq_false'] at h) <;> try (exfalso; (try simp only [beq_iff_eq, beq_eq_false_iff_ne, bne_iff_ne, bne_eq_false_iff_eq, ne_eq] at h); omega))
    | (refine keeps_sub (Mem.sub_set (by simp [Mem.set_at, nomem, *])) ?_)
    | (refine call_F (g2) (Seens.refl _ _) ?_)
    | (refine pure_F (g2) (Seens.refl _ _) ?_)
  refine lit_vs (lit2_22 _ _) rfl ?_
  rw [chunk_i2]
  repeat' first
    | simp -dsimp (disch := omega) only [↓rulesA, rulesB, rulesC, Int.reduceLT, nth, upd, put, storeN, AV.one, Nat.reduceBEq, Nat.reduceBNe, Int.reduceBEq, Int.reduceBNe, Int.reduceLE, Int.reduceEq, Int.reduceMod, Int.reduceNeg, boolBin, strBin, intBin, unA, fillA, ne_eq, reduceCtorEq, Nat.reduceAdd, Nat.reduceSub, Nat.reduceLeDiff, Nat.reduceLT, Nat.reduceEqDiff, Int.reduceToNat, eq_self, rulesT, bne_self_eq_false, mm_min, mm_max, buOf_some, nilCheck_vp, nilCheck_ptr, nilCheck_yld, nilCheck_func, ix_35, nat_cells, ha, hb, List.length_map, *]
    | (refine allK_intro fun n hn => ?_; try simp only [fresh_set] at hn)
    | (refine ifK_intro (fun h => ?_) (fun h => ?_) <;> (try simp only [decide_eq_true_eq, decide_eq_false_iff_not, Bool.not_eq_true', Bool.not_eq_false'] at h) <;> try (exfalso; (try simp only [beq_iff_eq, beq_eq_false_iff_ne, bne_iff_ne, bne_eq_false_iff_eq, ne_eq] at h); omega))
    | (refine keeps_sub (Mem.sub_set (by simp [Mem.set_at, nomem, *])) ?_)
    | (refine call_F (g3) (Seens.refl _ _) ?_)
    | (refine pure_F (g3) (Seens.refl _ _) ?_)
  exact .val
theorem F8 (l : List Item) (y : Bool) : F Try.prog 8 [.vs (l.map Item.cells) y] (.val (.bool (decide (l.length ≤ 40)))) := by
  refine F8_of ?_
  unfold k8
  repeat' first
    | simp -dsimp (disch := omega) only [↓rulesA, rulesB, rulesC, Int.reduceLT, nth, upd, put, storeN, AV.one, Nat.reduceBEq, Nat.reduceBNe, Int.reduceBEq, Int.reduceBNe, Int.reduceLE, Int.reduceEq, Int.reduceMod, Int.reduceNeg, boolBin, strBin, intBin, unA, fillA, ne_eq, reduceCtorEq, Nat.reduceAdd, Nat.reduceSub, Nat.reduceLeDiff, Nat.reduceLT, Nat.reduceEqDiff, Int.reduceToNat, eq_self, rulesT, bne_self_eq_false, mm_min, mm_max, buOf_some, nilCheck_vp, nilCheck_ptr, nilCheck_yld, nilCheck_func, *]
    | (refine allK_intro fun n hn => ?_; try simp only [fresh_set] at hn)
    | (refine ifK_intro (fun h => ?_) (fun h => ?_) <;> (try simp only [decide_eq_true_eq, decide_eq_false_iff_not, Bool.not_eq_true', Bool.not_eq_false'] at h) <;> try (exfalso; (try simp only [beq_iff_eq, beq_eq_false_iff_ne, bne_iff_ne, bne_eq_false_iff_eq, ne_eq] at h); omega))
    | (refine keeps_sub (Mem.sub_set (by simp [Mem.set_at, nomem, *])) ?_)
  refine New.eq ?_ rfl
  simp; omega
end Go.Proofs.Yteilhoojlcpbpaa

