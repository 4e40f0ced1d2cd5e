/- Package 11: the law CrushMoves. -/
import Derived.Test.YteilhoojlcpbpaaD9
set_option maxRecDepth 100000
set_option maxHeartbeats 1000000
set_option linter.unusedSimpArgs false
set_option linter.unusedVariables false
namespace Go.Proofs.Yteilhoojlcpbpaa
open Go.Abs
attribute [local irreducible] C X CC Y CV CW binK litK AppK PureC PureCV againK loopV rangeV allK ifK got onB condK V stepsK planK opK firstK seeE keepsK

section
variable {l m : List Item} {x : Nat} {r : Int} {k : Nat} (hlen : m.length = l.length) (hid : ∀ q, (m.getD q default).id = (l.getD q default).id) (hw : ∀ q, q ≠ k → wAt m q = wAt l q)
include hlen hid hw
theorem move_up (hkl : k < l.length) (h : wAt l k ≤ wAt m k) (h1 : 1 ≤ wAt m k) : choB m x r = true ∧ (choB l x r = true → choP m x r ≠ choP l x r → choP m x r = k) := by
  have hV : Val m k := ⟨by omega, h1⟩
  rcases choose_spec m x r with ⟨_, _, hn⟩ | ⟨hb, hP, hn⟩
  · exact absurd hV (hn k)
  · refine ⟨hb, fun hl hne => ?_⟩
    rcases choose_spec l x r with ⟨hb', _, _⟩ | ⟨_, hP', hn'⟩
    · rw [hb'] at hl; cases hl
    · refine Classical.byContradiction fun hk => ?_
      have hNl := (val_iff hlen hw hk).1 hP
      have h2 := hn' _ hNl hne
      by_cases hwk : choP l x r = k
      · rw [hwk] at h2
        have h3 := less_more hid hw h hk h2
        exact less_asym h3 (hn k hV (Ne.symm hk))
      · have h3 := (less_iff hid hw hwk hk).2 h2
        have hWm := (val_iff hlen hw hwk).2 hP'
        exact less_asym h3 (hn _ hWm (Ne.symm hne))
theorem move_down (hkl : k < l.length) (h : wAt m k ≤ wAt l k) (h1 : 1 ≤ wAt l k) : choB l x r = true ∧ (choP l x r ≠ k → choB m x r = true ∧ choP m x r = choP l x r) := by
  have hV : Val l k := ⟨hkl, h1⟩
  rcases choose_spec l x r with ⟨_, _, hn⟩ | ⟨hb, hP, hn⟩
  · exact absurd hV (hn k)
  · refine ⟨hb, fun hk => ?_⟩
    have hWm := (val_iff hlen hw hk).2 hP
    rcases choose_spec m x r with ⟨_, _, hn'⟩ | ⟨hb', hP', hn'⟩
    · exact absurd hWm (hn' _)
    · refine ⟨hb', Classical.byContradiction fun hne => ?_⟩
      have h3 := hn' _ hWm (Ne.symm hne)
      by_cases hmk : choP m x r = k
      · rw [hmk] at h3
        exact less_asym h3 (less_fewer hid hw h hk (hn k hV (Ne.symm hk)))
      · have h4 := (less_iff hid hw hmk hk).1 h3
        exact less_asym h4 (hn _ ((val_iff hlen hw hmk).1 hP') hne)
theorem move_same (h : 1 ≤ wAt m k ↔ 1 ≤ wAt l k) (h1 : 1 ≤ wAt m k → wAt m k = wAt l k) : choB m x r = choB l x r ∧ choP m x r = choP l x r := by
  have hv : ∀ q, Val m q ↔ Val l q := fun q => by
    by_cases hq : q = k
    · unfold Val; rw [hlen, hq, h]
    · exact val_iff hlen hw hq
  have hww : ∀ q, Val m q → wAt m q = wAt l q := fun q hQ => by
    by_cases hq : q = k
    · rw [hq] at hQ ⊢; exact h1 hQ.2
    · exact hw q hq
  have hl : ∀ p q, Val m p → Val m q → (Less m x r p q ↔ Less l x r p q) := fun p q hp hq => by unfold Less; rw [cAt_eq hid, cAt_eq hid, hww p hp, hww q hq]
  rcases choose_spec l x r with ⟨a, b, c⟩ | ⟨a, b, c⟩ <;> rcases choose_spec m x r with ⟨a', b', c'⟩ | ⟨a', b', c'⟩
  · rw [a, b, a', b']; exact ⟨rfl, rfl⟩
  · exact absurd ((hv _).1 b') (c _)
  · exact absurd ((hv _).2 b) (c' _)
  · refine ⟨by rw [a, a'], Classical.byContradiction fun hne => ?_⟩
    have h2 := c _ ((hv _).1 b') hne
    have h3 := c' _ ((hv _).2 b) (Ne.symm hne)
    exact less_asym h2 ((hl _ _ ((hv _).2 b) b').1 ((hl _ _ ((hv _).2 b) b').2 h2) |> fun _ => (hl _ _ b' ((hv _).2 b)).1 h3)
end
/-- The list with one weight changed. -/
def setW (l : List Item) (k : Nat) (w : Int) : List Item := l.set k ⟨(l.getD k default).id, w⟩
theorem setW_len (l : List Item) (k : Nat) (w : Int) : (setW l k w).length = l.length := by simp [setW]
theorem setW_at (l : List Item) {k : Nat} (hk : k < l.length) (w : Int) (q : Nat) : (setW l k w).getD q default = if q = k then ⟨(l.getD k default).id, w⟩ else l.getD q default := by
  unfold setW
  rw [List.getD_eq_getElem?_getD, List.getElem?_set]
  by_cases h : k = q
  · rw [if_pos h, if_pos hk, if_pos h.symm]; rfl
  · rw [if_neg h, if_neg (fun hh => h hh.symm), List.getD_eq_getElem?_getD]
theorem setW_id (l : List Item) {k : Nat} (hk : k < l.length) (w : Int) (q : Nat) : ((setW l k w).getD q default).id = (l.getD q default).id := by
  rw [setW_at l hk]; split
  · subst_vars; rfl
  · rfl
theorem setW_w (l : List Item) {k : Nat} (hk : k < l.length) (w : Int) (q : Nat) (h : q ≠ k) : wAt (setW l k w) q = wAt l q := by unfold wAt; rw [setW_at l hk, if_neg h]
theorem setW_k (l : List Item) {k : Nat} (hk : k < l.length) (w : Int) : wAt (setW l k w) k = capW w := by unfold wAt; rw [setW_at l hk, if_pos rfl]
theorem src_22 (m : Mem) (l : List Item) (x : Bool) : srcA Try.prog m 22 2 (.vs (l.map Item.cells) x) = some (l.length, (l.map Item.cells).flatten) := src_vs Item.cells ti_22 rfl (fun _ => ⟨rfl, rfl⟩) m l x
theorem item_set (l : List Item) (k : Nat) (hk : k < l.length) (w : Int) : setRange (l.map Item.cells).flatten (k * 2 + 1) [.val (.int .i64 w)] = ((setW l k w).map Item.cells).flatten :=
  row_sub Item.cells (s := 2) (fun _ => rfl) l hk _ (Nat.le_refl 2) ⟨(l.getD k default).id, w⟩ rfl
theorem item_len (l : List Item) : (l.map Item.cells).flatten.length = l.length * 2 := row_len Item.cells (s := 2) (fun _ => rfl) l
theorem rem_in (c : Int) (n : Nat) (h : 0 < n) : ∃ k : Nat, k < n ∧ (IntKind.u64.wrap c).tmod (n : Int) = k := by
  have hp : 0 ≤ IntKind.u64.wrap c := by
    have : IntKind.u64.wrap c = c % 18446744073709551616 := rfl
    omega
  have h1 := Int.emod_lt_of_pos (IntKind.u64.wrap c) (show (0 : Int) < (n : Int) by omega)
  have h2 := Int.emod_nonneg (IntKind.u64.wrap c) (show (n : Int) ≠ 0 by omega)
  refine ⟨((IntKind.u64.wrap c).tmod (n : Int)).toNat, ?_, ?_⟩ <;> rw [Int.tmod_eq_emod_of_nonneg hp] <;> omega
theorem item_seen (l : List Item) {m : Mem} {n cap : Nat} {opn : Bool} {t : TypeId} (hm : m n = some (.cells opn t (l.map Item.cells).flatten)) : Seen m (.sl n 0 l.length cap) (.vs (l.map Item.cells) false) := Seen.row Item.cells (s := 2) (fun _ => rfl) l hm
theorem capM_is (z : Int) : (if (if (1048576 : Int) < z then 1048576 else z) < 0 then 0 else if (1048576 : Int) < z then 1048576 else z) = capM z := rfl
theorem F3 (l : List Item) (y : Bool) (hl : l.length ≤ 140737488355328) (c : Int) (w : Int) (x : Nat) (hx : x < 4294967296) (r : Int) : F Try.prog 3 [.vs (l.map Item.cells) y, .val (.int .i64 c), .val (.int .i64 w), .val (.int .u32 x), .val (.int .i64 r)] (.val (.bool true)) := by
  refine F3_of ?_
  unfold k3
  by_cases h0 : l.length = 0
  · repeat' first
      | simp -dsimp (disch := omega) only [↓rulesA, rulesB, rulesC, Int.reduceLT, nth, upd, put, storeN, AV.one, Nat.reduceBEq, Nat.reduceBNe, Int.reduceBEq, Int.reduceBNe, Int.reduceLE, Int.reduceEq, Int.reduceMod, Int.reduceNeg, boolBin, strBin, intBin, unA, fillA, ne_eq, reduceCtorEq, Nat.reduceAdd, Nat.reduceSub, Nat.reduceLeDiff, Nat.reduceLT, Nat.reduceEqDiff, Int.reduceToNat, eq_self, rulesT, bne_self_eq_false, mm_min, mm_max, buOf_some, nilCheck_vp, nilCheck_ptr, nilCheck_yld, nilCheck_func, *]
      | (refine allK_intro fun n hn => ?_; try simp only [fresh_set] at hn)
      | (refine ifK_intro (fun h => ?_) (fun h => ?_) <;> (try simp only [decide_eq_true_eq, decide_eq_false_iff_not, Bool.not_eq_true', Bool.not_eq_false'] at h) <;> try (exfalso; (try simp only [beq_iff_eq, beq_eq_false_iff_ne, bne_iff_ne, bne_eq_false_iff_eq, ne_eq] at h); omega))
      | (refine keeps_sub (Mem.sub_set (by simp [Mem.set_at, nomem, *])) ?_)
      | (refine call_F (F8 l y) (Seens.refl _ _) ?_)
      | (refine pure_F (F8 l y) (Seens.refl _ _) ?_)
      | (refine call_F (F9) (Seens.refl _ _) ?_)
      | (refine pure_F (F9) (Seens.refl _ _) ?_)
    exact .val
  by_cases h40 : l.length ≤ 40
  · obtain ⟨k, hk, ek⟩ := rem_in c l.length (by omega)
    have hm := setW_len l k w
    have hset := item_set l k hk w
    have g2 := G10 (setW l k w) false (by omega) x hx r
    have hl2 := item_len l
    have hz : ¬ ((l.length : Int) = 0) := by omega
    repeat' first
      | simp -dsimp (disch := omega) only [↓rulesA, rulesB, rulesC, Int.reduceLT, nth, upd, put, storeN, AV.one, Nat.reduceBEq, Nat.reduceBNe, Int.reduceBEq, Int.reduceBNe, Int.reduceLE, Int.reduceEq, Int.reduceMod, Int.reduceNeg, boolBin, strBin, intBin, unA, fillA, ne_eq, reduceCtorEq, Nat.reduceAdd, Nat.reduceSub, Nat.reduceLeDiff, Nat.reduceLT, Nat.reduceEqDiff, Int.reduceToNat, eq_self, rulesT, bne_self_eq_false, mm_min, mm_max, buOf_some, nilCheck_vp, nilCheck_ptr, nilCheck_yld, nilCheck_func, src_22, *]
      | (refine allK_intro fun n hn => ?_; try simp only [fresh_set] at hn)
      | (refine ifK_intro (fun h => ?_) (fun h => ?_) <;> (try simp only [decide_eq_true_eq, decide_eq_false_iff_not, Bool.not_eq_true', Bool.not_eq_false'] at h) <;> try (exfalso; (try simp only [beq_iff_eq, beq_eq_false_iff_ne, bne_iff_ne, bne_eq_false_iff_eq, ne_eq] at h); omega))
      | (refine keeps_sub (Mem.sub_set (by simp [Mem.set_at, nomem, *])) ?_)
      | (refine call_F (F8 l y) (Seens.refl _ _) ?_)
      | (refine pure_F (F8 l y) (Seens.refl _ _) ?_)
    refine lit_vs lit0_22 rfl ?_
    repeat' first
      | simp -dsimp (disch := omega) only [↓rulesA, rulesB, rulesC, Int.reduceLT, nth, upd, put, storeN, AV.one, Nat.reduceBEq, Nat.reduceBNe, Int.reduceBEq, Int.reduceBNe, Int.reduceLE, Int.reduceEq, Int.reduceMod, Int.reduceNeg, boolBin, strBin, intBin, unA, fillA, ne_eq, reduceCtorEq, Nat.reduceAdd, Nat.reduceSub, Nat.reduceLeDiff, Nat.reduceLT, Nat.reduceEqDiff, Int.reduceToNat, eq_self, rulesT, bne_self_eq_false, mm_min, mm_max, buOf_some, nilCheck_vp, nilCheck_ptr, nilCheck_yld, nilCheck_func, *]
      | (refine allK_intro fun n hn => ?_; try simp only [fresh_set] at hn)
      | (refine ifK_intro (fun h => ?_) (fun h => ?_) <;> (try simp only [decide_eq_true_eq, decide_eq_false_iff_not, Bool.not_eq_true', Bool.not_eq_false'] at h) <;> try (exfalso; (try simp only [beq_iff_eq, beq_eq_false_iff_ne, bne_iff_ne, bne_eq_false_iff_eq, ne_eq] at h); omega))
      | (refine keeps_sub (Mem.sub_set (by simp [Mem.set_at, nomem, *])) ?_)
    refine append_vnil app_22 (src_22 _ l _) (by show l.length * 16 ≤ _; omega) fun nO hnO => ?_
    have hs : Seen (nomem.set nO (.cells true 28 ((setW l k w).map Item.cells).flatten)) (.sl nO 0 l.length l.length) (.vs ((setW l k w).map Item.cells) false) := by
      have := item_seen (setW l k w) (m := nomem.set nO (.cells true 28 ((setW l k w).map Item.cells).flatten)) (cap := l.length) (Mem.set_same _ _ _)
      rwa [hm] at this
    have hup : Kept (capM (l.getD k default).weight < capM w → choB (setW l k w) x r = true ∧ (choB l x r = true → choP (setW l k w) x r ≠ choP l x r → choP (setW l k w) x r = k)) := fun h => by
      have := capM_lt h
      have e := setW_k l hk w
      exact move_up hm (setW_id l hk w) (setW_w l hk w) hk (by show capW _ ≤ _; omega) (by omega)
    have hdn : Kept (capM w < capM (l.getD k default).weight → choB l x r = true ∧ (choP l x r ≠ k → choB (setW l k w) x r = true ∧ choP (setW l k w) x r = choP l x r)) := fun h => by
      have := capM_lt h
      have e := setW_k l hk w
      exact move_down hm (setW_id l hk w) (setW_w l hk w) hk (by show _ ≤ capW _; omega) this.1
    have hsm : Kept (capM w = capM (l.getD k default).weight → choB (setW l k w) x r = choB l x r ∧ choP (setW l k w) x r = choP l x r) := fun h => by
      have := capM_eq h
      have e := setW_k l hk w
      exact move_same hm (setW_id l hk w) (setW_w l hk w) (by rw [e]; exact this.1) (by rw [e]; exact this.2)
    repeat' first
      | simp -dsimp (disch := omega) only [↓rulesA, rulesB, rulesC, Int.reduceLT, nth, upd, put, storeN, AV.one, Nat.reduceBEq, Nat.reduceBNe, Int.reduceBEq, Int.reduceBNe, Int.reduceLE, Int.reduceEq, Int.reduceMod, Int.reduceNeg, boolBin, strBin, intBin, unA, fillA, ne_eq, reduceCtorEq, Nat.reduceAdd, Nat.reduceSub, Nat.reduceLeDiff, Nat.reduceLT, Nat.reduceEqDiff, Int.reduceToNat, eq_self, rulesT, bne_self_eq_false, mm_min, mm_max, buOf_some, nilCheck_vp, nilCheck_ptr, nilCheck_yld, nilCheck_func, ix_22, Item.len, Item.take, Item.all, Item.g0, Item.g1, Item.s1, capM_is, *]
      | (refine allK_intro fun n hn => ?_; try simp only [fresh_set] at hn)
      | (refine ifK_intro (fun h => ?_) (fun h => ?_) <;> (try simp only [decide_eq_true_eq, decide_eq_false_iff_not, Bool.not_eq_true', Bool.not_eq_false'] at h) <;> try (exfalso; (try simp only [beq_iff_eq, beq_eq_false_iff_ne, bne_iff_ne, bne_eq_false_iff_eq, ne_eq] at h); omega))
      | (refine keeps_sub (Mem.sub_set (by simp [Mem.set_at, nomem, *])) ?_)
      | (refine call_F (G10 l y hl x hx r) (Seens.refl _ _) ?_)
      | (refine pure_F (G10 l y hl x hx r) (Seens.refl _ _) ?_)
      | (refine call_F (g2) (.three hs .same .same) ?_)
      | (refine pure_F (g2) (.three hs .same .same) ?_)
      | (refine call_F (F9) (Seens.refl _ _) ?_)
      | (refine pure_F (F9) (Seens.refl _ _) ?_)
    all_goals first | exact .val | skip
    all_goals
      exfalso
      clear hs g2 hset hl2 hnO ek hm
      unfold Kept at hup hdn hsm
      generalize choB (setW l k w) x r = b2 at *
      generalize choP (setW l k w) x r = p2 at *
      generalize choB l x r = b1 at *
      generalize choP l x r = p1 at *
      generalize capM w = u at *
      generalize capM (l.getD k default).weight = v at *
      grind
  · repeat' first
      | simp -dsimp (disch := omega) only [↓rulesA, rulesB, rulesC, Int.reduceLT, nth, upd, put, storeN, AV.one, Nat.reduceBEq, Nat.reduceBNe, Int.reduceBEq, Int.reduceBNe, Int.reduceLE, Int.reduceEq, Int.reduceMod, Int.reduceNeg, boolBin, strBin, intBin, unA, fillA, ne_eq, reduceCtorEq, Nat.reduceAdd, Nat.reduceSub, Nat.reduceLeDiff, Nat.reduceLT, Nat.reduceEqDiff, Int.reduceToNat, eq_self, rulesT, bne_self_eq_false, mm_min, mm_max, buOf_some, nilCheck_vp, nilCheck_ptr, nilCheck_yld, nilCheck_func, *]
      | (refine allK_intro fun n hn => ?_; try simp only [fresh_set] at hn)
      | (refine ifK_intro (fun h => ?_) (fun h => ?_) <;> (try simp only [decide_eq_true_eq, decide_eq_false_iff_not, Bool.not_eq_true', Bool.not_eq_false'] at h) <;> try (exfalso; (try simp only [beq_iff_eq, beq_eq_false_iff_ne, bne_iff_ne, bne_eq_false_iff_eq, ne_eq] at h); omega))
      | (refine keeps_sub (Mem.sub_set (by simp [Mem.set_at, nomem, *])) ?_)
      | (refine call_F (F8 l y) (Seens.refl _ _) ?_)
      | (refine pure_F (F8 l y) (Seens.refl _ _) ?_)
      | (refine call_F (F9) (Seens.refl _ _) ?_)
      | (refine pure_F (F9) (Seens.refl _ _) ?_)
    exact .val
end Go.Proofs.Yteilhoojlcpbpaa

