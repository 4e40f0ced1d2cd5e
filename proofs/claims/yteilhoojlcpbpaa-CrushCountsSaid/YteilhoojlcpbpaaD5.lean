/- Package 11: the straws. -/
import Derived.Test.YteilhoojlcpbpaaD4
set_option maxRecDepth 100000
set_option maxHeartbeats 1000000
set_option linter.unusedSimpArgs false
set_option linter.unusedVariables false
namespace Go.Proofs.Yteilhoojlcpbpaa
open Go.Abs
attribute [local irreducible] C X CC Y CV CW binK litK AppK PureC PureCV againK loopV rangeV allK ifK got onB condK V stepsK planK opK firstK seeE keepsK

theorem ix_22 (l : List Item) (x : Bool) (kk : IntKind) (k : Int) (h0 : 0 ≤ k) (h1 : k < l.length) : indexAddrA Try.prog 22 (.vs (l.map Item.cells) x) (.val (.int kk k)) = some (.vp (Item.cells (l.getD k.toNat default)) 0) := index_vs Item.cells ti_22 rfl ti_28 (fun _ => rfl) l x kk k h0 h1
def capW (w : Int) : Int := if (1048576 : Int) < w then 1048576 else w
/-- The straw of the item at i. -/
def strawAt (l : List Item) (x : Nat) (r : Int) (i : Nat) : Straw := ⟨(l.getD i default).id, capW (l.getD i default).weight, i, costN x (l.getD i default).id r⟩
def strawTo (l : List Item) (x : Nat) (r : Int) : Nat → List Straw
  | 0 => []
  | i + 1 => if 1 ≤ capW (l.getD i default).weight then strawTo l x r i ++ [strawAt l x r i] else strawTo l x r i
def srow (s : Straw) : List AV := [.agg s.cells]
theorem strawTo_yes {l : List Item} {x : Nat} {r : Int} {i : Nat} (h : 1 ≤ capW (l.getD i default).weight) : strawTo l x r (i + 1) = strawTo l x r i ++ [strawAt l x r i] := if_pos h
theorem strawTo_no {l : List Item} {x : Nat} {r : Int} {i : Nat} (h : ¬ 1 ≤ capW (l.getD i default).weight) : strawTo l x r (i + 1) = strawTo l x r i := if_neg h
theorem strawTo_pre (l : List Item) (x : Nat) (r : Int) {i : Nat} : ∀ j, ∃ t, strawTo l x r (i + j) = strawTo l x r i ++ t
  | 0 => ⟨[], by simp⟩
  | j + 1 => by
    obtain ⟨t, ht⟩ := strawTo_pre l x r (i := i) j
    by_cases h : 1 ≤ capW (l.getD (i + j) default).weight
    · exact ⟨t ++ [strawAt l x r (i + j)], by rw [← Nat.add_assoc, strawTo_yes h, ht, List.append_assoc]⟩
    · exact ⟨t, by rw [← Nat.add_assoc, strawTo_no h, ht]⟩
theorem straw_next {l : List Item} {x : Nat} {r : Int} {i : Nat} (hi : i < l.length) (h : 1 ≤ capW (l.getD i default).weight) :
    ∃ hk : (strawTo l x r i).length < ((strawTo l x r l.length).map srow).length, ((strawTo l x r l.length).map srow)[(strawTo l x r i).length] = srow (strawAt l x r i) := by
  obtain ⟨t, ht⟩ := strawTo_pre l x r (i := i + 1) (l.length - (i + 1))
  rw [show i + 1 + (l.length - (i + 1)) = l.length by omega, strawTo_yes h] at ht
  have hk : (strawTo l x r i).length < (strawTo l x r l.length).length := by rw [ht]; simp
  refine ⟨by simpa using hk, ?_⟩
  rw [List.getElem_map]
  congr 1
  have : (strawTo l x r l.length)[(strawTo l x r i).length]? = some (strawAt l x r i) := by rw [ht]; simp
  exact (List.getElem?_eq_some_iff.1 this).2
theorem straw_fair {l : List Item} {x : Nat} {r : Int} {i : Nat} (hi : i < 140737488355328) (h : 1 ≤ capW (l.getD i default).weight) : (strawAt l x r i).fair :=
  ⟨h, by show capW _ ≤ _; unfold capW; split <;> omega, Int.natCast_nonneg _, by have := costN_le x (l.getD i default).id r; show (costN x _ r : Int) ≤ _; omega, Int.natCast_nonneg _, by show (i : Int) ≤ _; omega⟩
theorem strawTo_fair {l : List Item} {x : Nat} {r : Int} : ∀ i, i ≤ 140737488355328 → ∀ s ∈ strawTo l x r i, s.fair
  | 0, _, s, hs => by cases hs
  | i + 1, hi, s, hs => by
    by_cases h : 1 ≤ capW (l.getD i default).weight
    · rw [strawTo_yes h] at hs
      rcases List.mem_append.1 hs with hs | hs
      · exact strawTo_fair i (by omega) s hs
      · rw [List.mem_singleton] at hs; subst hs; exact straw_fair (by omega) h
    · rw [strawTo_no h] at hs; exact strawTo_fair i (by omega) s hs
theorem put2 (t : Item) (a b p : AV) : setRange (t.cells ++ [a, b]) 2 [p] = t.cells ++ [p, b] := rfl
theorem put3 (t : Item) (a b p : AV) : setRange (t.cells ++ [a, b]) 3 [p] = t.cells ++ [a, p] := rfl
theorem put_len (t : Item) (a b : AV) : (t.cells ++ [a, b]).length = 4 := rfl
theorem agg_straw (t : Item) (p c : Int) : AV.agg (t.cells ++ [.val (.int .i64 p), .val (.int .i64 c)]) = .agg (Straw.cells ⟨t.id, t.weight, p, c⟩) := rfl
theorem I31 (l : List Item) (y : Bool) (hl : l.length ≤ 140737488355328) (x : Nat) (hx : x < 4294967296) (r : Int) : Iter Try.prog 31 [] [.vp [.vs (l.map Item.cells) y] 0, .vp [.val (.int .u32 x)] 0, .vp [.val (.int .i64 r)] 0] nomem ((strawTo l x r l.length).map srow) := by
  intro ny M I S K' _ h0 hY hend hstop
  refine C.turn (C31_of ?_)
  unfold k31
  repeat' first
    | simp -dsimp (disch := omega) only [↓rulesA, rulesB, rulesC, Int.reduceLT, nth, upd, put, storeN, AV.one, Nat.reduceBEq, Nat.reduceBNe, Int.reduceBEq, Int.reduceBNe, Int.reduceLE, Int.reduceEq, Int.reduceMod, Int.reduceNeg, boolBin, strBin, intBin, unA, fillA, ne_eq, reduceCtorEq, Nat.reduceAdd, Nat.reduceSub, Nat.reduceLeDiff, Nat.reduceLT, Nat.reduceEqDiff, Int.reduceToNat, eq_self, rulesT, bne_self_eq_false, mm_min, mm_max, buOf_some, nilCheck_vp, nilCheck_ptr, nilCheck_yld, nilCheck_func, *]
    | (refine allK_intro fun n hn => ?_; try simp only [fresh_set] at hn)
    | (refine ifK_intro (fun h => ?_) (fun h => ?_) <;> (try simp only [decide_eq_true_eq, decide_eq_false_iff_not, Bool.not_eq_true', Bool.not_eq_false'] at h) <;> try (exfalso; (try simp only [beq_iff_eq, beq_eq_false_iff_ne, bne_iff_ne, bne_eq_false_iff_eq, ne_eq] at h); omega))
    | (refine keeps_sub (Mem.sub_set (by simp [Mem.set_at, nomem, *])) ?_)
  refine loop_intro (fun j env m => ∃ (i : Nat) (mI : Mem), i ≤ l.length ∧ j = l.length - i ∧ I (strawTo l x r i).length mI ∧ mI.sub m ∧ env.length = 35 ∧ nth env 0 = .yld ny ∧ nth env 2 = .vp [.val (.int .u32 x)] 0 ∧ nth env 3 = .vp [.val (.int .i64 r)] 0 ∧ nth env 7 = .vs (l.map Item.cells) y ∧ nth env 8 = .val (.int .i64 l.length) ∧ nth env 9 = .val (.int .i64 i)) l.length _ (Mem.sub.refl _) ⟨0, M, by omega, by omega, h0, Mem.sub.refl _, rfl, rfl, rfl, rfl, rfl, rfl, rfl⟩ ?_
  rintro j env m ⟨i, mI, hi, rfl, hI, hsub, hlen, e0, e2, e3, e7, e8, e9⟩
  by_cases hil : i < l.length
  · by_cases hw : 1 ≤ capW (l.getD i default).weight
    · have hst := strawTo_yes (x := x) (r := r) hw
      have ec : (if (1048576 : Int) < (l.getD i default).weight then 1048576 else (l.getD i default).weight) = capW (l.getD i default).weight := rfl
      have ho := straw_next (x := x) (r := r) hil hw
      repeat' first
        | simp -dsimp (disch := omega) only [↓rulesA, rulesB, rulesC, Int.reduceLT, nth, upd, put, storeN, AV.one, Nat.reduceBEq, Nat.reduceBNe, Int.reduceBEq, Int.reduceBNe, Int.reduceLE, Int.reduceEq, Int.reduceMod, Int.reduceNeg, boolBin, strBin, intBin, unA, fillA, ne_eq, reduceCtorEq, Nat.reduceAdd, Nat.reduceSub, Nat.reduceLeDiff, Nat.reduceLT, Nat.reduceEqDiff, Int.reduceToNat, eq_self, rulesT, bne_self_eq_false, mm_min, mm_max, buOf_some, nilCheck_vp, nilCheck_ptr, nilCheck_yld, nilCheck_func, ix_22, Item.len, Item.take, Item.all, Item.g0, Item.g1, Item.s1, ec, put2, put3, put_len, agg_straw, *]
        | (refine allK_intro fun n hn => ?_; try simp only [fresh_set] at hn)
        | (refine ifK_intro (fun h => ?_) (fun h => ?_) <;> (try simp only [decide_eq_true_eq, decide_eq_false_iff_not, Bool.not_eq_true', Bool.not_eq_false'] at h) <;> try (exfalso; (try simp only [beq_iff_eq, beq_eq_false_iff_ne, bne_iff_ne, bne_eq_false_iff_eq, ne_eq] at h); omega))
        | (refine keeps_sub (Mem.sub_set (by simp [Mem.set_at, nomem, *])) ?_)
        | (refine call_F (F11 _ hx _ _) (Seens.refl _ _) ?_)
        | (refine pure_F (F11 _ hx _ _) (Seens.refl _ _) ?_)
      obtain ⟨hk, ek⟩ := ho
      have hY' := hY _ hk mI hI
      rw [ek] at hY'
      refine yield_on hY' (hsub.trans (Mem.sub_set hn)) fun rr m' M' hh hs' hf => ?_
      rcases hh with ⟨rfl, hh⟩ | ⟨rfl, hh⟩
      · repeat' first
          | simp -dsimp (disch := omega) only [↓rulesA, rulesB, rulesC, Int.reduceLT, nth, upd, put, storeN, AV.one, Nat.reduceBEq, Nat.reduceBNe, Int.reduceBEq, Int.reduceBNe, Int.reduceLE, Int.reduceEq, Int.reduceMod, Int.reduceNeg, boolBin, strBin, intBin, unA, fillA, ne_eq, reduceCtorEq, Nat.reduceAdd, Nat.reduceSub, Nat.reduceLeDiff, Nat.reduceLT, Nat.reduceEqDiff, Int.reduceToNat, eq_self, rulesT, bne_self_eq_false, mm_min, mm_max, buOf_some, nilCheck_vp, nilCheck_ptr, nilCheck_yld, nilCheck_func, *]
          | (refine allK_intro fun n hn => ?_; try simp only [fresh_set] at hn)
          | (refine ifK_intro (fun h => ?_) (fun h => ?_) <;> (try simp only [decide_eq_true_eq, decide_eq_false_iff_not, Bool.not_eq_true', Bool.not_eq_false'] at h) <;> try (exfalso; (try simp only [beq_iff_eq, beq_eq_false_iff_ne, bne_iff_ne, bne_eq_false_iff_eq, ne_eq] at h); omega))
          | (refine keeps_sub (Mem.sub_set (by simp [Mem.set_at, nomem, *])) ?_)
        refine again_intro (l.length - (i + 1)) (by omega) M' (Mem.sub.refl _) ⟨i + 1, m', by omega, rfl, by rw [hst, List.length_append]; exact hh, hs', ?_, ?_, ?_, ?_, ?_, ?_, ?_⟩
        all_goals try (simp (disch := omega) only [nth_upd, pickB_true, pickB_false, inB_lt, upd_len, cast_succ, Int.cast_ofNat_Int, Nat.reduceBEq, beq_self_eq_true, reduceCtorEq, *]; done)
      · repeat' first
          | simp -dsimp (disch := omega) only [↓rulesA, rulesB, rulesC, Int.reduceLT, nth, upd, put, storeN, AV.one, Nat.reduceBEq, Nat.reduceBNe, Int.reduceBEq, Int.reduceBNe, Int.reduceLE, Int.reduceEq, Int.reduceMod, Int.reduceNeg, boolBin, strBin, intBin, unA, fillA, ne_eq, reduceCtorEq, Nat.reduceAdd, Nat.reduceSub, Nat.reduceLeDiff, Nat.reduceLT, Nat.reduceEqDiff, Int.reduceToNat, eq_self, rulesT, bne_self_eq_false, mm_min, mm_max, buOf_some, nilCheck_vp, nilCheck_ptr, nilCheck_yld, nilCheck_func, *]
          | (refine allK_intro fun n hn => ?_; try simp only [fresh_set] at hn)
          | (refine ifK_intro (fun h => ?_) (fun h => ?_) <;> (try simp only [decide_eq_true_eq, decide_eq_false_iff_not, Bool.not_eq_true', Bool.not_eq_false'] at h) <;> try (exfalso; (try simp only [beq_iff_eq, beq_eq_false_iff_ne, bne_iff_ne, bne_eq_false_iff_eq, ne_eq] at h); omega))
          | (refine keeps_sub (Mem.sub_set (by simp [Mem.set_at, nomem, *])) ?_)
        exact Turns.sub hs' (hstop _ hh)
    · have hst := strawTo_no (x := x) (r := r) hw
      have ec : (if (1048576 : Int) < (l.getD i default).weight then 1048576 else (l.getD i default).weight) = capW (l.getD i default).weight := rfl
      repeat' first
        | simp -dsimp (disch := omega) only [↓rulesA, rulesB, rulesC, Int.reduceLT, nth, upd, put, storeN, AV.one, Nat.reduceBEq, Nat.reduceBNe, Int.reduceBEq, Int.reduceBNe, Int.reduceLE, Int.reduceEq, Int.reduceMod, Int.reduceNeg, boolBin, strBin, intBin, unA, fillA, ne_eq, reduceCtorEq, Nat.reduceAdd, Nat.reduceSub, Nat.reduceLeDiff, Nat.reduceLT, Nat.reduceEqDiff, Int.reduceToNat, eq_self, rulesT, bne_self_eq_false, mm_min, mm_max, buOf_some, nilCheck_vp, nilCheck_ptr, nilCheck_yld, nilCheck_func, ix_22, Item.len, Item.take, Item.all, Item.g0, Item.g1, Item.s1, ec, *]
        | (refine allK_intro fun n hn => ?_; try simp only [fresh_set] at hn)
        | (refine ifK_intro (fun h => ?_) (fun h => ?_) <;> (try simp only [decide_eq_true_eq, decide_eq_false_iff_not, Bool.not_eq_true', Bool.not_eq_false'] at h) <;> try (exfalso; (try simp only [beq_iff_eq, beq_eq_false_iff_ne, bne_iff_ne, bne_eq_false_iff_eq, ne_eq] at h); omega))
        | (refine keeps_sub (Mem.sub_set (by simp [Mem.set_at, nomem, *])) ?_)
        | (refine call_F (F11 _ hx _ _) (Seens.refl _ _) ?_)
        | (refine pure_F (F11 _ hx _ _) (Seens.refl _ _) ?_)
      refine again_intro (l.length - (i + 1)) (by omega) _ (Mem.sub.refl _) ⟨i + 1, mI, by omega, rfl, by rw [hst]; exact hI, hsub.trans (Mem.sub_set hn), ?_, ?_, ?_, ?_, ?_, ?_, ?_⟩
      all_goals try (simp (disch := omega) only [nth_upd, pickB_true, pickB_false, inB_lt, upd_len, cast_succ, Int.cast_ofNat_Int, Nat.reduceBEq, beq_self_eq_true, reduceCtorEq, *]; done)
  · have : i = l.length := by omega
    subst this
    repeat' first
      | simp -dsimp (disch := omega) only [↓rulesA, rulesB, rulesC, Int.reduceLT, nth, upd, put, storeN, AV.one, Nat.reduceBEq, Nat.reduceBNe, Int.reduceBEq, Int.reduceBNe, Int.reduceLE, Int.reduceEq, Int.reduceMod, Int.reduceNeg, boolBin, strBin, intBin, unA, fillA, ne_eq, reduceCtorEq, Nat.reduceAdd, Nat.reduceSub, Nat.reduceLeDiff, Nat.reduceLT, Nat.reduceEqDiff, Int.reduceToNat, eq_self, rulesT, bne_self_eq_false, mm_min, mm_max, buOf_some, nilCheck_vp, nilCheck_ptr, nilCheck_yld, nilCheck_func, *]
      | (refine allK_intro fun n hn => ?_; try simp only [fresh_set] at hn)
      | (refine ifK_intro (fun h => ?_) (fun h => ?_) <;> (try simp only [decide_eq_true_eq, decide_eq_false_iff_not, Bool.not_eq_true', Bool.not_eq_false'] at h) <;> try (exfalso; (try simp only [beq_iff_eq, beq_eq_false_iff_ne, bne_iff_ne, bne_eq_false_iff_eq, ne_eq] at h); omega))
      | (refine keeps_sub (Mem.sub_set (by simp [Mem.set_at, nomem, *])) ?_)
    refine Turns.sub hsub (hend _ ?_)
    simpa using hI
end Go.Proofs.Yteilhoojlcpbpaa

