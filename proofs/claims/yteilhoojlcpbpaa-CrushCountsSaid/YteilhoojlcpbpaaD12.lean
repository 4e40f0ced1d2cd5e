/- Package 11: the law CrushOrder. -/
import Derived.Test.YteilhoojlcpbpaaD11
set_option maxRecDepth 100000
set_option maxHeartbeats 1000000
set_option linter.unusedSimpArgs false
set_option linter.unusedVariables false
namespace Go.Proofs.Yteilhoojlcpbpaa
open Go.Abs
attribute [local irreducible] C X CC Y CV CW binK litK AppK PureC PureCV againK loopV rangeV allK ifK got onB condK V stepsK planK opK firstK seeE keepsK

theorem guard_28 : Try.prog.eqGuardType Try.prog.depth 28 = false := by kernel_rfl
theorem eqA_28 (d e : Item) : eqA Try.prog 20 28 (.agg d.cells) (.agg e.cells) = some (d.id == e.id && d.weight == e.weight) := by kernel_rfl
theorem eq_28 (d e : Item) : cmpA Try.prog 28 .eql (.agg d.cells) (.agg e.cells) = some (.val (.bool (d.id == e.id && d.weight == e.weight))) := by
  simp only [cmpA, ti_28, binA, nilBin, isNilA, guard_28, eqA_28]
  rfl
/-- The weight as the law counts it. -/
def capX (w : Int) : Int := if (1048576 : Int) < (if w < 0 then 0 else w) then 1048576 else if w < 0 then 0 else w
theorem capX_is (w : Int) : (if (1048576 : Int) < (if w < 0 then 0 else w) then 1048576 else if w < 0 then 0 else w) = capX w := by unfold capX; rfl
theorem capX_eq {w : Int} (h : 1 ≤ capW w) : capX w = capW w := by unfold capX; unfold capW at *; (repeat' split at h) <;> (repeat' split) <;> omega
theorem capX_in (w : Int) : 0 ≤ capX w ∧ capX w ≤ 1048576 := by unfold capX; (repeat' split) <;> omega
theorem mulX (x : Nat) (id r w : Int) : IntKind.i64.wrap ((costN x id r : Int) * capX w) = (costN x id r : Int) * capX w := by
  have h1 := costN_le x id r
  obtain ⟨h2, h3⟩ := capX_in w
  obtain ⟨q, hq⟩ : ∃ q : Nat, capX w = q := ⟨(capX w).toNat, by omega⟩
  rw [hq]
  have h4 : costN x id r * q ≤ 1048576 * 1048576 := Nat.mul_le_mul h1 (by omega)
  have h5 : (costN x id r : Int) * (q : Int) = ((costN x id r * q : Nat) : Int) := (Int.natCast_mul _ _).symm
  rw [h5]
  exact wrap_i64 _ (by omega) (by omega)
def xAt (l : List Item) (q : Nat) : Int := capX (l.getD q default).weight
/-- No two cost alike. -/
def Free (l : List Item) (x : Nat) (r : Int) (i : Nat) : Prop := ∀ a b, b < a → a < i → cAt l x r a * xAt l b ≠ cAt l x r b * xAt l a
theorem free_ne {l : List Item} {x : Nat} {r : Int} (h : Free l x r l.length) {p q : Nat} (hp : Val l p) (hq : Val l q) (hne : p ≠ q) : cAt l x r p * wAt l q ≠ cAt l x r q * wAt l p := by
  have e1 : xAt l p = wAt l p := capX_eq hp.2
  have e2 : xAt l q = wAt l q := capX_eq hq.2
  rcases Nat.lt_or_gt_of_ne hne with hlt | hlt
  · have := h q p hlt hq.1
    rw [e1, e2] at this
    exact fun e => this e.symm
  · have := h p q hlt hp.1
    rw [e1, e2] at this
    exact this
def rot (l : List Item) (k : Nat) : List Item := l.drop k ++ l.take k
theorem rot_len {l : List Item} {k : Nat} (hk : k < l.length) : (rot l k).length = l.length := by simp [rot]; omega
def rotI (n k q : Nat) : Nat := if q < n - k then k + q else q - (n - k)
theorem rot_at {l : List Item} {k q : Nat} (hk : k < l.length) (hq : q < l.length) : (rot l k).getD q default = l.getD (rotI l.length k q) default := by
  unfold rot rotI
  rw [List.getD_eq_getElem?_getD, List.getD_eq_getElem?_getD]
  by_cases h : q < l.length - k
  · rw [List.getElem?_append_left (by simp; omega), List.getElem?_drop, if_pos h]
  · rw [List.getElem?_append_right (by simp; omega), List.length_drop, List.getElem?_take, if_pos (by omega), if_neg h]
theorem rotI_lt {n k q : Nat} (hk : k < n) (hq : q < n) : rotI n k q < n := by unfold rotI; split <;> omega
theorem rotI_on {n k p : Nat} (hk : k < n) (hp : p < n) : ∃ q, q < n ∧ rotI n k q = p := by
  by_cases h : k ≤ p
  · exact ⟨p - k, by omega, by unfold rotI; rw [if_pos (by omega)]; omega⟩
  · exact ⟨p + (n - k), by omega, by unfold rotI; rw [if_neg (by omega)]; omega⟩
theorem order_same {l : List Item} {x : Nat} {r : Int} {k : Nat} (hk : k < l.length) (hf : Free l x r l.length) : choB (rot l k) x r = choB l x r ∧ (choB l x r = true → (rot l k).getD (choP (rot l k) x r) default = l.getD (choP l x r) default) := by
  have hl := rot_len hk
  have hw : ∀ q, q < l.length → wAt (rot l k) q = wAt l (rotI l.length k q) := fun q hq => by unfold wAt; rw [rot_at hk hq]
  have hc : ∀ q, q < l.length → cAt (rot l k) x r q = cAt l x r (rotI l.length k q) := fun q hq => by unfold cAt; rw [rot_at hk hq]
  have hv : ∀ q, q < l.length → (Val (rot l k) q ↔ Val l (rotI l.length k q)) := fun q hq => by
    unfold Val; rw [hl, hw q hq]
    exact ⟨fun h => ⟨rotI_lt hk hq, h.2⟩, fun h => ⟨hq, h.2⟩⟩
  rcases choose_spec l x r with ⟨a, b, c⟩ | ⟨a, b, c⟩ <;> rcases choose_spec (rot l k) x r with ⟨a', b', c'⟩ | ⟨a', b', c'⟩
  · rw [a, a']; exact ⟨rfl, fun h => by cases h⟩
  · have hq : choP (rot l k) x r < l.length := by rw [← hl]; exact b'.1
    exact absurd ((hv _ hq).1 b') (c _)
  · obtain ⟨q, hq, e⟩ := rotI_on hk b.1
    exact absurd ((hv q hq).2 (by rw [e]; exact b)) (c' _)
  · refine ⟨by rw [a, a'], fun _ => ?_⟩
    have hq : choP (rot l k) x r < l.length := by rw [← hl]; exact b'.1
    have hQ := (hv _ hq).1 b'
    rw [rot_at hk hq]
    refine congrArg (l.getD · default) (Classical.byContradiction fun hne => ?_)
    have h1 := c _ hQ hne
    obtain ⟨s, hs, e⟩ := rotI_on hk b.1
    have h2 := c' s ((hv s hs).2 (by rw [e]; exact b)) (fun h => by rw [h] at e; exact hne e)
    have h3 := free_ne hf b hQ (Ne.symm hne)
    unfold Less at h1 h2
    rw [hc _ hq, hw _ hq, hc _ hs, hw _ hs, e] at h2
    omega
theorem F4 (l : List Item) (y : Bool) (hl : l.length * 16 ≤ 140737488351232) (c : Int) (x : Nat) (hx : x < 4294967296) (r : Int) : F Try.prog 4 [.vs (l.map Item.cells) y, .val (.int .i64 c), .val (.int .u32 x), .val (.int .i64 r)] (.val (.bool true)) := by
  refine F4_of ?_
  unfold k4
  by_cases h0 : l.length = 0
  · repeat' first
      | simp -dsimp (disch := omega) only [↓rulesA, rulesB, rulesC, Int.reduceLT, nth, upd, put, storeN, AV.one, Nat.reduceBEq, Nat.reduceBNe, Int.reduceBEq, Int.reduceBNe, Int.reduceLE, Int.reduceEq, Int.reduceMod, Int.reduceNeg, boolBin, strBin, intBin, unA, fillA, ne_eq, reduceCtorEq, Nat.reduceAdd, Nat.reduceSub, Nat.reduceLeDiff, Nat.reduceLT, Nat.reduceEqDiff, Int.reduceToNat, eq_self, rulesT, bne_self_eq_false, mm_min, mm_max, buOf_some, nilCheck_vp, nilCheck_ptr, nilCheck_yld, nilCheck_func, *]
      | (refine allK_intro fun n hn => ?_; try simp only [fresh_set] at hn)
      | (refine ifK_intro (fun h => ?_) (fun h => ?_) <;> (try simp only [decide_eq_true_eq, decide_eq_false_iff_not, Bool.not_eq_true', Bool.not_eq_false'] at h) <;> try (exfalso; (try simp only [beq_iff_eq, beq_eq_false_iff_ne, bne_iff_ne, bne_eq_false_iff_eq, ne_eq] at h); omega))
      | (refine keeps_sub (Mem.sub_set (by simp [Mem.set_at, nomem, *])) ?_)
      | (refine call_F (F8 l y) (Seens.refl _ _) ?_)
      | (refine pure_F (F8 l y) (Seens.refl _ _) ?_)
      | (refine call_F (F9) (Seens.refl _ _) ?_)
      | (refine pure_F (F9) (Seens.refl _ _) ?_)
    exact .val
  by_cases h40 : ¬ l.length ≤ 40
  · repeat' first
      | simp -dsimp (disch := omega) only [↓rulesA, rulesB, rulesC, Int.reduceLT, nth, upd, put, storeN, AV.one, Nat.reduceBEq, Nat.reduceBNe, Int.reduceBEq, Int.reduceBNe, Int.reduceLE, Int.reduceEq, Int.reduceMod, Int.reduceNeg, boolBin, strBin, intBin, unA, fillA, ne_eq, reduceCtorEq, Nat.reduceAdd, Nat.reduceSub, Nat.reduceLeDiff, Nat.reduceLT, Nat.reduceEqDiff, Int.reduceToNat, eq_self, rulesT, bne_self_eq_false, mm_min, mm_max, buOf_some, nilCheck_vp, nilCheck_ptr, nilCheck_yld, nilCheck_func, *]
      | (refine allK_intro fun n hn => ?_; try simp only [fresh_set] at hn)
      | (refine ifK_intro (fun h => ?_) (fun h => ?_) <;> (try simp only [decide_eq_true_eq, decide_eq_false_iff_not, Bool.not_eq_true', Bool.not_eq_false'] at h) <;> try (exfalso; (try simp only [beq_iff_eq, beq_eq_false_iff_ne, bne_iff_ne, bne_eq_false_iff_eq, ne_eq] at h); omega))
      | (refine keeps_sub (Mem.sub_set (by simp [Mem.set_at, nomem, *])) ?_)
      | (refine call_F (F8 l y) (Seens.refl _ _) ?_)
      | (refine pure_F (F8 l y) (Seens.refl _ _) ?_)
      | (refine call_F (F9) (Seens.refl _ _) ?_)
      | (refine pure_F (F9) (Seens.refl _ _) ?_)
    exact .val
  have h41 : l.length ≤ 40 := by omega
  repeat' first
    | simp -dsimp (disch := omega) only [↓rulesA, rulesB, rulesC, Int.reduceLT, nth, upd, put, storeN, AV.one, Nat.reduceBEq, Nat.reduceBNe, Int.reduceBEq, Int.reduceBNe, Int.reduceLE, Int.reduceEq, Int.reduceMod, Int.reduceNeg, boolBin, strBin, intBin, unA, fillA, ne_eq, reduceCtorEq, Nat.reduceAdd, Nat.reduceSub, Nat.reduceLeDiff, Nat.reduceLT, Nat.reduceEqDiff, Int.reduceToNat, eq_self, rulesT, bne_self_eq_false, mm_min, mm_max, buOf_some, nilCheck_vp, nilCheck_ptr, nilCheck_yld, nilCheck_func, *]
    | (refine allK_intro fun n hn => ?_; try simp only [fresh_set] at hn)
    | (refine ifK_intro (fun h => ?_) (fun h => ?_) <;> (try simp only [decide_eq_true_eq, decide_eq_false_iff_not, Bool.not_eq_true', Bool.not_eq_false'] at h) <;> try (exfalso; (try simp only [beq_iff_eq, beq_eq_false_iff_ne, bne_iff_ne, bne_eq_false_iff_eq, ne_eq] at h); omega))
    | (refine keeps_sub (Mem.sub_set (by simp [Mem.set_at, nomem, *])) ?_)
    | (refine call_F (F8 l y) (Seens.refl _ _) ?_)
    | (refine pure_F (F8 l y) (Seens.refl _ _) ?_)
  refine loop_intro (fun j env m => ∃ (i : Nat), i ≤ l.length ∧ j = l.length - i ∧ m = nomem ∧ Free l x r i ∧ env.length = 122 ∧ nth env 0 = .vs (l.map Item.cells) y ∧ nth env 1 = .val (.int .i64 c) ∧ nth env 2 = .val (.int .u32 x) ∧ nth env 3 = .val (.int .i64 r) ∧ nth env 27 = .val (.int .i64 l.length) ∧ nth env 28 = .val (.int .i64 i)) l.length nomem (nomem_sub _) ⟨0, by omega, by omega, rfl, fun a b _ h => absurd h (by omega), rfl, rfl, rfl, rfl, rfl, rfl, rfl⟩ ?_
  rintro j env m ⟨i, hi, rfl, rfl, hf, hlen, e0, e1, e2, e3, e27, e28⟩
  by_cases hil : i < l.length
  · repeat' first
      | simp -dsimp (disch := omega) only [↓rulesA, rulesB, rulesC, Int.reduceLT, nth, upd, put, storeN, AV.one, Nat.reduceBEq, Nat.reduceBNe, Int.reduceBEq, Int.reduceBNe, Int.reduceLE, Int.reduceEq, Int.reduceMod, Int.reduceNeg, boolBin, strBin, intBin, unA, fillA, ne_eq, reduceCtorEq, Nat.reduceAdd, Nat.reduceSub, Nat.reduceLeDiff, Nat.reduceLT, Nat.reduceEqDiff, Int.reduceToNat, eq_self, rulesT, bne_self_eq_false, mm_min, mm_max, buOf_some, nilCheck_vp, nilCheck_ptr, nilCheck_yld, nilCheck_func, *]
      | (refine allK_intro fun n hn => ?_; try simp only [fresh_set] at hn)
      | (refine ifK_intro (fun h => ?_) (fun h => ?_) <;> (try simp only [decide_eq_true_eq, decide_eq_false_iff_not, Bool.not_eq_true', Bool.not_eq_false'] at h) <;> try (exfalso; (try simp only [beq_iff_eq, beq_eq_false_iff_ne, bne_iff_ne, bne_eq_false_iff_eq, ne_eq] at h); omega))
      | (refine keeps_sub (Mem.sub_set (by simp [Mem.set_at, nomem, *])) ?_)
    refine loop_intro (fun j env m => ∃ (q : Nat), q ≤ i ∧ j = i - q ∧ m = nomem ∧ (∀ b, b < q → cAt l x r i * xAt l b ≠ cAt l x r b * xAt l i) ∧ env.length = 122 ∧ nth env 0 = .vs (l.map Item.cells) y ∧ nth env 1 = .val (.int .i64 c) ∧ nth env 2 = .val (.int .u32 x) ∧ nth env 3 = .val (.int .i64 r) ∧ nth env 27 = .val (.int .i64 l.length) ∧ nth env 28 = .val (.int .i64 i) ∧ nth env 9 = .val (.int .i64 i) ∧ nth env 31 = .val (.int .i64 i) ∧ nth env 32 = .val (.int .i64 q)) i nomem (nomem_sub _) ⟨0, by omega, by omega, rfl, fun b h => absurd h (by omega), ?_, ?_, ?_, ?_, ?_, ?_, ?_, ?_, ?_, ?_⟩ ?_
    rotate_left 10
    · rintro j env m ⟨q, hq, rfl, rfl, hq2, hlen, e0, e1, e2, e3, e27, e28, e9, e31, e32⟩
      by_cases hqi : q < i
      · have hql : q < l.length := by omega
        have c1 := mulX x (l.getD i default).id r (l.getD q default).weight
        have c2 := mulX x (l.getD q default).id r (l.getD i default).weight
        repeat' first
          | simp -dsimp (disch := omega) only [↓rulesA, rulesB, rulesC, Int.reduceLT, nth, upd, put, storeN, AV.one, Nat.reduceBEq, Nat.reduceBNe, Int.reduceBEq, Int.reduceBNe, Int.reduceLE, Int.reduceEq, Int.reduceMod, Int.reduceNeg, boolBin, strBin, intBin, unA, fillA, ne_eq, reduceCtorEq, Nat.reduceAdd, Nat.reduceSub, Nat.reduceLeDiff, Nat.reduceLT, Nat.reduceEqDiff, Int.reduceToNat, eq_self, rulesT, bne_self_eq_false, mm_min, mm_max, buOf_some, nilCheck_vp, nilCheck_ptr, nilCheck_yld, nilCheck_func, ix_22, Item.len, Item.take, Item.all, Item.g0, Item.g1, Item.s1, capX_is, *]
          | (refine allK_intro fun n hn => ?_; try simp only [fresh_set] at hn)
          | (refine ifK_intro (fun h => ?_) (fun h => ?_) <;> (try simp only [decide_eq_true_eq, decide_eq_false_iff_not, Bool.not_eq_true', Bool.not_eq_false'] at h) <;> try (exfalso; (try simp only [beq_iff_eq, beq_eq_false_iff_ne, bne_iff_ne, bne_eq_false_iff_eq, ne_eq] at h); omega))
          | (refine keeps_sub (Mem.sub_set (by simp [Mem.set_at, nomem, *])) ?_)
          | (refine call_F (F11 _ hx _ _) (Seens.refl _ _) ?_)
          | (refine pure_F (F11 _ hx _ _) (Seens.refl _ _) ?_)
          | (refine call_F (F9) (Seens.refl _ _) ?_)
          | (refine pure_F (F9) (Seens.refl _ _) ?_)
        · exact .val
        · refine again_intro (i - (q + 1)) (by omega) _ (Mem.sub.refl _) ⟨q + 1, by omega, rfl, rfl, fun b hb => ?_, ?_, ?_, ?_, ?_, ?_, ?_, ?_, ?_, ?_, ?_⟩
          · rcases Nat.lt_or_ge b q with h | h
            · exact hq2 b h
            · rw [show b = q by omega]
              have hne : ((costN x (l.getD i default).id r : Int) * capX (l.getD q default).weight == (costN x (l.getD q default).id r : Int) * capX (l.getD i default).weight) = false := by assumption
              exact beq_eq_false_iff_ne.1 hne
          all_goals try (simp (disch := omega) only [nth_upd, pickB_true, pickB_false, inB_lt, upd_len, cast_succ, Int.cast_ofNat_Int, Nat.reduceBEq, beq_self_eq_true, reduceCtorEq, *]; done)
      · have : q = i := by omega
        subst this
        repeat' first
          | simp -dsimp (disch := omega) only [↓rulesA, rulesB, rulesC, Int.reduceLT, nth, upd, put, storeN, AV.one, Nat.reduceBEq, Nat.reduceBNe, Int.reduceBEq, Int.reduceBNe, Int.reduceLE, Int.reduceEq, Int.reduceMod, Int.reduceNeg, boolBin, strBin, intBin, unA, fillA, ne_eq, reduceCtorEq, Nat.reduceAdd, Nat.reduceSub, Nat.reduceLeDiff, Nat.reduceLT, Nat.reduceEqDiff, Int.reduceToNat, eq_self, rulesT, bne_self_eq_false, mm_min, mm_max, buOf_some, nilCheck_vp, nilCheck_ptr, nilCheck_yld, nilCheck_func, *]
          | (refine allK_intro fun n hn => ?_; try simp only [fresh_set] at hn)
          | (refine ifK_intro (fun h => ?_) (fun h => ?_) <;> (try simp only [decide_eq_true_eq, decide_eq_false_iff_not, Bool.not_eq_true', Bool.not_eq_false'] at h) <;> try (exfalso; (try simp only [beq_iff_eq, beq_eq_false_iff_ne, bne_iff_ne, bne_eq_false_iff_eq, ne_eq] at h); omega))
          | (refine keeps_sub (Mem.sub_set (by simp [Mem.set_at, nomem, *])) ?_)
        refine again_intro (l.length - (q + 1)) (by omega) _ (Mem.sub.refl _) ⟨q + 1, by omega, rfl, rfl, fun a b h1 h2 => ?_, ?_, ?_, ?_, ?_, ?_, ?_, ?_⟩
        · rcases Nat.lt_or_ge a q with h | h
          · exact hf a b h1 h
          · have : a = q := by omega
            subst this
            exact hq2 b h1
        all_goals try (simp (disch := omega) only [nth_upd, pickB_true, pickB_false, inB_lt, upd_len, cast_succ, Int.cast_ofNat_Int, Nat.reduceBEq, beq_self_eq_true, reduceCtorEq, *]; done)
    all_goals try (simp (disch := omega) only [nth_upd, pickB_true, pickB_false, inB_lt, upd_len, cast_succ, Int.cast_ofNat_Int, Nat.reduceBEq, beq_self_eq_true, reduceCtorEq, *]; done)
  · have : i = l.length := by omega
    subst this
    obtain ⟨k, hk, ek⟩ := rem_in c l.length (by omega)
    have hz : ¬ ((l.length : Int) = 0) := by omega
    have s1 := fun m => T_22.rlo (F := Item.cells) (fun _ => rfl) m l y .i64 (k : Int) (by omega) (by omega)
    have s2 := fun m => T_22.rhi (F := Item.cells) (fun _ => rfl) m l y .i64 (k : Int) (by omega) (by omega)
    simp only [Int.toNat_natCast] at s1 s2
    obtain ⟨o1, o2⟩ := order_same (x := x) (r := r) hk hf
    have hrl := rot_len hk
    have hd : (l.drop k).length = l.length - k := List.length_drop
    have ht : (l.take k).length = k := by rw [List.length_take]; omega
    repeat' first
      | simp -dsimp (disch := omega) only [↓rulesA, rulesB, rulesC, Int.reduceLT, nth, upd, put, storeN, AV.one, Nat.reduceBEq, Nat.reduceBNe, Int.reduceBEq, Int.reduceBNe, Int.reduceLE, Int.reduceEq, Int.reduceMod, Int.reduceNeg, boolBin, strBin, intBin, unA, fillA, ne_eq, reduceCtorEq, Nat.reduceAdd, Nat.reduceSub, Nat.reduceLeDiff, Nat.reduceLT, Nat.reduceEqDiff, Int.reduceToNat, eq_self, rulesT, bne_self_eq_false, mm_min, mm_max, buOf_some, nilCheck_vp, nilCheck_ptr, nilCheck_yld, nilCheck_func, *]
      | (refine allK_intro fun n hn => ?_; try simp only [fresh_set] at hn)
      | (refine ifK_intro (fun h => ?_) (fun h => ?_) <;> (try simp only [decide_eq_true_eq, decide_eq_false_iff_not, Bool.not_eq_true', Bool.not_eq_false'] at h) <;> try (exfalso; (try simp only [beq_iff_eq, beq_eq_false_iff_ne, bne_iff_ne, bne_eq_false_iff_eq, ne_eq] at h); omega))
      | (refine keeps_sub (Mem.sub_set (by simp [Mem.set_at, nomem, *])) ?_)
    refine lit_vs lit0_22 (Nat.zero_mul _).symm ?_
    repeat' first
      | simp -dsimp (disch := omega) only [↓rulesA, rulesB, rulesC, Int.reduceLT, nth, upd, put, storeN, AV.one, Nat.reduceBEq, Nat.reduceBNe, Int.reduceBEq, Int.reduceBNe, Int.reduceLE, Int.reduceEq, Int.reduceMod, Int.reduceNeg, boolBin, strBin, intBin, unA, fillA, ne_eq, reduceCtorEq, Nat.reduceAdd, Nat.reduceSub, Nat.reduceLeDiff, Nat.reduceLT, Nat.reduceEqDiff, Int.reduceToNat, eq_self, rulesT, bne_self_eq_false, mm_min, mm_max, buOf_some, nilCheck_vp, nilCheck_ptr, nilCheck_yld, nilCheck_func, *]
      | (refine allK_intro fun n hn => ?_; try simp only [fresh_set] at hn)
      | (refine ifK_intro (fun h => ?_) (fun h => ?_) <;> (try simp only [decide_eq_true_eq, decide_eq_false_iff_not, Bool.not_eq_true', Bool.not_eq_false'] at h) <;> try (exfalso; (try simp only [beq_iff_eq, beq_eq_false_iff_ne, bne_iff_ne, bne_eq_false_iff_eq, ne_eq] at h); omega))
      | (refine keeps_sub (Mem.sub_set (by simp [Mem.set_at, nomem, *])) ?_)
    refine append_vnil app_22 (src_22 _ (l.drop k) _) (by show (l.drop k).length * 16 ≤ _; omega) fun nO hnO => ?_
    repeat' first
      | simp -dsimp (disch := omega) only [↓rulesA, rulesB, rulesC, Int.reduceLT, nth, upd, put, storeN, AV.one, Nat.reduceBEq, Nat.reduceBNe, Int.reduceBEq, Int.reduceBNe, Int.reduceLE, Int.reduceEq, Int.reduceMod, Int.reduceNeg, boolBin, strBin, intBin, unA, fillA, ne_eq, reduceCtorEq, Nat.reduceAdd, Nat.reduceSub, Nat.reduceLeDiff, Nat.reduceLT, Nat.reduceEqDiff, Int.reduceToNat, eq_self, rulesT, bne_self_eq_false, mm_min, mm_max, buOf_some, nilCheck_vp, nilCheck_ptr, nilCheck_yld, nilCheck_func, *]
      | (refine allK_intro fun n hn => ?_; try simp only [fresh_set] at hn)
      | (refine ifK_intro (fun h => ?_) (fun h => ?_) <;> (try simp only [decide_eq_true_eq, decide_eq_false_iff_not, Bool.not_eq_true', Bool.not_eq_false'] at h) <;> try (exfalso; (try simp only [beq_iff_eq, beq_eq_false_iff_ne, bne_iff_ne, bne_eq_false_iff_eq, ne_eq] at h); omega))
      | (refine keeps_sub (Mem.sub_set (by simp [Mem.set_at, nomem, *])) ?_)
    have ec : ((l.drop k).map Item.cells).flatten.drop 0 ++ ((l.take k).map Item.cells).flatten = ((rot l k).map Item.cells).flatten := by
      rw [List.drop_zero, ← List.flatten_append, ← List.map_append]; rfl
    refine append_open app_22 (src_22 _ (l.take k) _) (Mem.set_same _ _ _) cs_28 (by show 0 + (l.length - k) * 2 = _; rw [item_len]; omega) (by show (l.length - k + (l.take k).length) * 16 ≤ _; omega) fun nP hnP => ?_
    rw [ec, ht, show l.length - k + k = l.length by omega, Mem.del_set_eq, nomem_del]
    have hs : Seen (nomem.set nP (.cells true 28 ((rot l k).map Item.cells).flatten)) (.sl nP 0 l.length l.length) (.vs ((rot l k).map Item.cells) false) := by
      have := item_seen (rot l k) (m := nomem.set nP (.cells true 28 ((rot l k).map Item.cells).flatten)) (cap := l.length) (Mem.set_same _ _ _)
      rwa [hrl] at this
    have g1 := G10 l y (by omega) x hx r
    have g2 := G10 (rot l k) false (by omega) x hx r
    clear ec s1 s2 ek
    cases hb : choB l x r with
    | false =>
      rw [hb] at o1 g1
      rw [o1] at g2
      repeat' first
        | simp -dsimp (disch := omega) only [↓rulesA, rulesB, rulesC, Int.reduceLT, nth, upd, put, storeN, AV.one, Nat.reduceBEq, Nat.reduceBNe, Int.reduceBEq, Int.reduceBNe, Int.reduceLE, Int.reduceEq, Int.reduceMod, Int.reduceNeg, boolBin, strBin, intBin, unA, fillA, ne_eq, reduceCtorEq, Nat.reduceAdd, Nat.reduceSub, Nat.reduceLeDiff, Nat.reduceLT, Nat.reduceEqDiff, Int.reduceToNat, eq_self, rulesT, bne_self_eq_false, mm_min, mm_max, buOf_some, nilCheck_vp, nilCheck_ptr, nilCheck_yld, nilCheck_func, *]
        | (refine allK_intro fun n hn => ?_; try simp only [fresh_set] at hn)
        | (refine ifK_intro (fun h => ?_) (fun h => ?_) <;> (try simp only [decide_eq_true_eq, decide_eq_false_iff_not, Bool.not_eq_true', Bool.not_eq_false'] at h) <;> try (exfalso; (try simp only [beq_iff_eq, beq_eq_false_iff_ne, bne_iff_ne, bne_eq_false_iff_eq, ne_eq] at h); omega))
        | (refine keeps_sub (Mem.sub_set (by simp [Mem.set_at, nomem, *])) ?_)
        | (refine call_F (g1) (Seens.refl _ _) ?_)
        | (refine pure_F (g1) (Seens.refl _ _) ?_)
        | (refine call_F (g2) (.three hs .same .same) ?_)
        | (refine pure_F (g2) (.three hs .same .same) ?_)
        | (refine call_F (F9) (Seens.refl _ _) ?_)
        | (refine pure_F (F9) (Seens.refl _ _) ?_)
      exact .val
    | true =>
      have p1 := choP_lt hb
      rw [hb] at o1 g1
      have p2 := choP_lt o1
      rw [o1] at g2
      replace o2 := o2 hb
      have hin := Item.rin (rot l k) _ 2 p2 (Nat.le_refl 2)
      repeat' first
        | simp -dsimp (disch := omega) only [↓rulesA, rulesB, rulesC, Int.reduceLT, nth, upd, put, storeN, AV.one, Nat.reduceBEq, Nat.reduceBNe, Int.reduceBEq, Int.reduceBNe, Int.reduceLE, Int.reduceEq, Int.reduceMod, Int.reduceNeg, boolBin, strBin, intBin, unA, fillA, ne_eq, reduceCtorEq, Nat.reduceAdd, Nat.reduceSub, Nat.reduceLeDiff, Nat.reduceLT, Nat.reduceEqDiff, Int.reduceToNat, eq_self, rulesT, bne_self_eq_false, mm_min, mm_max, buOf_some, nilCheck_vp, nilCheck_ptr, nilCheck_yld, nilCheck_func, ix_22, Item.len, Item.take, Item.all, Item.rpart, hin, eq_28, beq_self_eq_true, Bool.and_self, *]
        | (refine allK_intro fun n hn => ?_; try simp only [fresh_set] at hn)
        | (refine ifK_intro (fun h => ?_) (fun h => ?_) <;> (try simp only [decide_eq_true_eq, decide_eq_false_iff_not, Bool.not_eq_true', Bool.not_eq_false'] at h) <;> try (exfalso; (try simp only [beq_iff_eq, beq_eq_false_iff_ne, bne_iff_ne, bne_eq_false_iff_eq, ne_eq] at h); omega))
        | (refine keeps_sub (Mem.sub_set (by simp [Mem.set_at, nomem, *])) ?_)
        | (refine call_F (g1) (Seens.refl _ _) ?_)
        | (refine pure_F (g1) (Seens.refl _ _) ?_)
        | (refine call_F (g2) (.three hs .same .same) ?_)
        | (refine pure_F (g2) (.three hs .same .same) ?_)
        | (refine call_F (F9) (Seens.refl _ _) ?_)
        | (refine pure_F (F9) (Seens.refl _ _) ?_)
      all_goals exact .val
theorem order_law : ∀ args, ShapedAll Try.prog Try.f4.params.toList args → F Try.prog 4 args (.val (.bool true)) := by
  intro args h
  have hp : Try.f4.params.toList = [22, 3, 23, 3] := by kernel_rfl
  rw [hp] at h
  match args, h with
  | [a, b, d, e], ⟨h0, h1, h3, h4, _⟩ =>
    obtain ⟨l, rfl, l1, _, _⟩ := items_of h0
    obtain ⟨x, rfl, _⟩ := (h1.one ti_3 rfl).i64 ti_3 rfl
    obtain ⟨z, rfl, z0, z1⟩ := (h3.one ti_23 rfl).u32 ti_23 rfl
    obtain ⟨r, rfl, _⟩ := (h4.one ti_3 rfl).i64 ti_3 rfl
    obtain ⟨q, rfl⟩ : ∃ q : Nat, z = q := ⟨z.toNat, by omega⟩
    exact F4 l false l1 x q (by omega) r
end Go.Proofs.Yteilhoojlcpbpaa

