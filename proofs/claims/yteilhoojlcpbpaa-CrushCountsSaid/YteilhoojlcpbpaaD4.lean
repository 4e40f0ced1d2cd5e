/- Package 11: what is ahead. -/
import Derived.Test.YteilhoojlcpbpaaD3
set_option maxRecDepth 100000
set_option maxHeartbeats 1000000
set_option linter.unusedSimpArgs false
set_option linter.unusedVariables false
namespace Go.Proofs.Yteilhoojlcpbpaa
open Go.Abs
attribute [local irreducible] C X CC Y CV CW binK litK AppK PureC PureCV againK loopV rangeV allK ifK got onB condK V stepsK planK opK firstK seeE keepsK

theorem and_low (x : Nat) (h : x < 4294967296) : bits .and .u64 (x : Int) 4294967295 = (x : Int) := by
  have := u64_and_nat x 4294967295 (by omega) (by decide)
  rw [show x &&& 4294967295 = x % 2 ^ 32 from Nat.and_two_pow_sub_one_eq_mod x 32, Nat.mod_eq_of_lt h] at this
  exact this
theorem shr_none (x : Nat) (h : x < 4294967296) : ((x : Int)).fdiv (2 ^ min 32 IntKind.u64.bits) = 0 := by
  rw [shr64 x 32 (by decide), Nat.div_eq_of_lt h]; rfl
theorem F32 (x y : Nat) (hx : x ≤ 1048576) (hy : y ≤ 1048576) : F Try.prog 32 [.val (.int .u64 x), .val (.int .u64 y)] (.tup [.val (.int .u64 0), .val (.int .u64 ((x * y : Nat) : Int))]) := by
  have hxy : x * y ≤ 1099511627776 := Nat.mul_le_mul hx hy
  have hc : (x : Int) * (y : Int) = ((x * y : Nat) : Int) := (Int.natCast_mul x y).symm
  obtain ⟨q, hq⟩ : ∃ q, q = x * y / 2 ^ 32 := ⟨_, rfl⟩
  have hq1 : (((x * y : Nat) : Int)).fdiv (2 ^ min 32 IntKind.u64.bits) = (q : Int) := by rw [shr64 _ _ (by decide), hq]
  have hq2 : q ≤ 256 := by rw [hq]; omega
  clear hq
  have a1 := and_low x (by omega)
  have a2 := and_low y (by omega)
  have a3 := and_low q (by omega)
  have b1 := shr_none x (by omega)
  have b2 := shr_none y (by omega)
  have b3 := shr_none q (by omega)
  refine F32_of ?_
  unfold k32
  repeat' first
    | simp -dsimp (disch := omega) only [↓rulesA, rulesB, rulesC, Int.reduceLT, nth, upd, put, storeN, AV.one, Nat.reduceBEq, Nat.reduceBNe, Int.reduceBEq, Int.reduceBNe, Int.reduceLE, Int.reduceEq, Int.reduceMod, Int.reduceNeg, boolBin, strBin, intBin, unA, fillA, ne_eq, reduceCtorEq, Nat.reduceAdd, Nat.reduceSub, Nat.reduceLeDiff, Nat.reduceLT, Nat.reduceEqDiff, Int.reduceToNat, eq_self, rulesT, bne_self_eq_false, mm_min, mm_max, buOf_some, nilCheck_vp, nilCheck_ptr, nilCheck_yld, nilCheck_func, Int.zero_mul, Int.mul_zero, Int.zero_add, Int.add_zero, *]
    | (refine allK_intro fun n hn => ?_; try simp only [fresh_set] at hn)
    | (refine ifK_intro (fun h => ?_) (fun h => ?_) <;> (try simp only [decide_eq_true_eq, decide_eq_false_iff_not, Bool.not_eq_true', Bool.not_eq_false'] at h) <;> try (exfalso; (try simp only [beq_iff_eq, beq_eq_false_iff_ne, bne_iff_ne, bne_eq_false_iff_eq, ne_eq] at h); omega))
    | (refine keeps_sub (Mem.sub_set (by simp [Mem.set_at, nomem, *])) ?_)
  exact New.flat rfl
structure Item where
  id : Int
  weight : Int
instance : Inhabited Item := ⟨⟨0, 0⟩⟩
def Item.cells (d : Item) : List AV := [.val (.int .i64 d.id), .val (.int .i64 d.weight)]
theorem Item.g0 (d : Item) : d.cells[0]? = some (.val (.int .i64 d.id)) := rfl
theorem Item.s0 (d : Item) (v : Int) : setRange d.cells 0 [.val (.int .i64 v)] = ({ d with id := v } : Item).cells := rfl
theorem Item.g1 (d : Item) : d.cells[1]? = some (.val (.int .i64 d.weight)) := rfl
theorem Item.s1 (d : Item) (v : Int) : setRange d.cells 1 [.val (.int .i64 v)] = ({ d with weight := v } : Item).cells := rfl
theorem Item.len (d : Item) : d.cells.length = 2 := rfl
theorem Item.take (d : Item) : d.cells.take 2 = d.cells := rfl
theorem Item.rall (l : List Item) : (l.map Item.cells).flatten.all AV.one = true := by
  rw [List.all_eq_true]
  intro x hx
  obtain ⟨e, he, hx⟩ := List.mem_flatten.1 hx
  obtain ⟨a, _, rfl⟩ := List.mem_map.1 he
  exact List.all_eq_true.1 (show a.cells.all AV.one = true from rfl) x hx
theorem Item.rlen (l : List Item) : (l.map Item.cells).flatten.length = l.length * 2 := row_len Item.cells (fun _ => rfl) l
theorem Item.rat (l : List Item) (k j : Nat) (hk : k < l.length) (hj : j < 2) : (l.map Item.cells).flatten[k * 2 + j]? = (l.getD k default).cells[j]? := row_at Item.cells (fun _ => rfl) l hk hj
theorem Item.rat0 (l : List Item) (k : Nat) (hk : k < l.length) : (l.map Item.cells).flatten[k * 2]? = (l.getD k default).cells[0]? := row_at Item.cells (s := 2) (fun _ => rfl) l (j := 0) hk (Nat.zero_lt_succ _)
theorem Item.rpart (l : List Item) (k : Nat) (hk : k < l.length) : ((l.map Item.cells).flatten.drop (k * 2)).take 2 = (l.getD k default).cells := row_part Item.cells (fun _ => rfl) l hk
theorem Item.rin (l : List Item) (k j : Nat) (hk : k < l.length) (hj : j ≤ 2) : (k * 2 + j ≤ (l.map Item.cells).flatten.length) = True := eq_true (row_in Item.cells (fun _ => rfl) l hk hj)
theorem Item.rset (l : List Item) (k : Nat) (hk : k < l.length) (d : Item) : setRange (l.map Item.cells).flatten (k * 2) d.cells = ((l.set k d).map Item.cells).flatten := row_set Item.cells (fun _ => rfl) l hk d
theorem Item.rf0 (l : List Item) (k : Nat) (hk : k < l.length) (v : Int) : setRange (l.map Item.cells).flatten (k * 2 + 0) [.val (.int .i64 v)] = ((l.set k { l.getD k default with id := v }).map Item.cells).flatten := row_field Item.cells (s := 2) (fun _ => rfl) l hk _ _ rfl (by decide)
theorem Item.rfz (l : List Item) (k : Nat) (hk : k < l.length) (v : Int) : setRange (l.map Item.cells).flatten (k * 2) [.val (.int .i64 v)] = ((l.set k { l.getD k default with id := v }).map Item.cells).flatten := row_field Item.cells (s := 2) (j := 0) (fun _ => rfl) l hk _ _ rfl (by decide)
theorem Item.rf1 (l : List Item) (k : Nat) (hk : k < l.length) (v : Int) : setRange (l.map Item.cells).flatten (k * 2 + 1) [.val (.int .i64 v)] = ((l.set k { l.getD k default with weight := v }).map Item.cells).flatten := row_field Item.cells (s := 2) (fun _ => rfl) l hk _ _ rfl (by decide)
theorem Item.sall (d e : Item) : setRange d.cells 0 e.cells = e.cells := rfl
theorem Item.slit (d : Item) (a0 a1 : AV) : setRange d.cells 0 [a0, a1] = [a0, a1] := rfl
theorem Item.drop (d : Item) : d.cells.drop 2 = [] := rfl
theorem Item.all (d : Item) : d.cells.all AV.one = true := rfl
theorem Item.mk_agg (id : Int) (weight : Int) : AV.agg [.val (.int .i64 id), .val (.int .i64 weight)] = .agg (Item.cells ⟨id, weight⟩) := rfl
def Item.ok (d : Item) : Prop := (-9223372036854775808 ≤ d.id ∧ d.id ≤ 9223372036854775807) ∧ (-9223372036854775808 ≤ d.weight ∧ d.weight ≤ 9223372036854775807)
theorem Item.of_shaped {cs : List AV} (h : Shaped Try.prog 28 cs) (hc : cs.length = 2) : ∃ d : Item, cs = d.cells ∧ d.ok := by
  have h := Shaped.leaves laidOut 8 28 [3, 2] cs (of_decide_eq_true (by kernel_rfl)) (by kernel_rfl) h (hc.trans (cells_size ti_28).symm)
  match cs, h with
  | [c0, c1], ⟨h0, h1, _⟩ =>
    obtain ⟨x0, rfl, w0⟩ := h0.i64 ti_3 rfl
    obtain ⟨x1, rfl, w1⟩ := h1.i64 ti_2 rfl
    exact ⟨⟨x0, x1⟩, rfl, w0, w1⟩
structure Straw where
  id : Int
  weight : Int
  place : Int
  cost : Int
instance : Inhabited Straw := ⟨⟨0, 0, 0, 0⟩⟩
def Straw.cells (d : Straw) : List AV := [.val (.int .i64 d.id), .val (.int .i64 d.weight), .val (.int .i64 d.place), .val (.int .i64 d.cost)]
theorem Straw.g0 (d : Straw) : d.cells[0]? = some (.val (.int .i64 d.id)) := rfl
theorem Straw.s0 (d : Straw) (v : Int) : setRange d.cells 0 [.val (.int .i64 v)] = ({ d with id := v } : Straw).cells := rfl
theorem Straw.g1 (d : Straw) : d.cells[1]? = some (.val (.int .i64 d.weight)) := rfl
theorem Straw.s1 (d : Straw) (v : Int) : setRange d.cells 1 [.val (.int .i64 v)] = ({ d with weight := v } : Straw).cells := rfl
theorem Straw.g2 (d : Straw) : d.cells[2]? = some (.val (.int .i64 d.place)) := rfl
theorem Straw.s2 (d : Straw) (v : Int) : setRange d.cells 2 [.val (.int .i64 v)] = ({ d with place := v } : Straw).cells := rfl
theorem Straw.g3 (d : Straw) : d.cells[3]? = some (.val (.int .i64 d.cost)) := rfl
theorem Straw.s3 (d : Straw) (v : Int) : setRange d.cells 3 [.val (.int .i64 v)] = ({ d with cost := v } : Straw).cells := rfl
theorem Straw.len (d : Straw) : d.cells.length = 4 := rfl
theorem Straw.take (d : Straw) : d.cells.take 4 = d.cells := rfl
theorem Straw.rall (l : List Straw) : (l.map Straw.cells).flatten.all AV.one = true := by
  rw [List.all_eq_true]
  intro x hx
  obtain ⟨e, he, hx⟩ := List.mem_flatten.1 hx
  obtain ⟨a, _, rfl⟩ := List.mem_map.1 he
  exact List.all_eq_true.1 (show a.cells.all AV.one = true from rfl) x hx
theorem Straw.rlen (l : List Straw) : (l.map Straw.cells).flatten.length = l.length * 4 := row_len Straw.cells (fun _ => rfl) l
theorem Straw.rat (l : List Straw) (k j : Nat) (hk : k < l.length) (hj : j < 4) : (l.map Straw.cells).flatten[k * 4 + j]? = (l.getD k default).cells[j]? := row_at Straw.cells (fun _ => rfl) l hk hj
theorem Straw.rat0 (l : List Straw) (k : Nat) (hk : k < l.length) : (l.map Straw.cells).flatten[k * 4]? = (l.getD k default).cells[0]? := row_at Straw.cells (s := 4) (fun _ => rfl) l (j := 0) hk (Nat.zero_lt_succ _)
theorem Straw.rpart (l : List Straw) (k : Nat) (hk : k < l.length) : ((l.map Straw.cells).flatten.drop (k * 4)).take 4 = (l.getD k default).cells := row_part Straw.cells (fun _ => rfl) l hk
theorem Straw.rin (l : List Straw) (k j : Nat) (hk : k < l.length) (hj : j ≤ 4) : (k * 4 + j ≤ (l.map Straw.cells).flatten.length) = True := eq_true (row_in Straw.cells (fun _ => rfl) l hk hj)
theorem Straw.rset (l : List Straw) (k : Nat) (hk : k < l.length) (d : Straw) : setRange (l.map Straw.cells).flatten (k * 4) d.cells = ((l.set k d).map Straw.cells).flatten := row_set Straw.cells (fun _ => rfl) l hk d
theorem Straw.rf0 (l : List Straw) (k : Nat) (hk : k < l.length) (v : Int) : setRange (l.map Straw.cells).flatten (k * 4 + 0) [.val (.int .i64 v)] = ((l.set k { l.getD k default with id := v }).map Straw.cells).flatten := row_field Straw.cells (s := 4) (fun _ => rfl) l hk _ _ rfl (by decide)
theorem Straw.rfz (l : List Straw) (k : Nat) (hk : k < l.length) (v : Int) : setRange (l.map Straw.cells).flatten (k * 4) [.val (.int .i64 v)] = ((l.set k { l.getD k default with id := v }).map Straw.cells).flatten := row_field Straw.cells (s := 4) (j := 0) (fun _ => rfl) l hk _ _ rfl (by decide)
theorem Straw.rf1 (l : List Straw) (k : Nat) (hk : k < l.length) (v : Int) : setRange (l.map Straw.cells).flatten (k * 4 + 1) [.val (.int .i64 v)] = ((l.set k { l.getD k default with weight := v }).map Straw.cells).flatten := row_field Straw.cells (s := 4) (fun _ => rfl) l hk _ _ rfl (by decide)
theorem Straw.rf2 (l : List Straw) (k : Nat) (hk : k < l.length) (v : Int) : setRange (l.map Straw.cells).flatten (k * 4 + 2) [.val (.int .i64 v)] = ((l.set k { l.getD k default with place := v }).map Straw.cells).flatten := row_field Straw.cells (s := 4) (fun _ => rfl) l hk _ _ rfl (by decide)
theorem Straw.rf3 (l : List Straw) (k : Nat) (hk : k < l.length) (v : Int) : setRange (l.map Straw.cells).flatten (k * 4 + 3) [.val (.int .i64 v)] = ((l.set k { l.getD k default with cost := v }).map Straw.cells).flatten := row_field Straw.cells (s := 4) (fun _ => rfl) l hk _ _ rfl (by decide)
theorem Straw.sall (d e : Straw) : setRange d.cells 0 e.cells = e.cells := rfl
theorem Straw.slit (d : Straw) (a0 a1 a2 a3 : AV) : setRange d.cells 0 [a0, a1, a2, a3] = [a0, a1, a2, a3] := rfl
theorem Straw.drop (d : Straw) : d.cells.drop 4 = [] := rfl
theorem Straw.all (d : Straw) : d.cells.all AV.one = true := rfl
theorem Straw.mk_agg (id : Int) (weight : Int) (place : Int) (cost : Int) : AV.agg [.val (.int .i64 id), .val (.int .i64 weight), .val (.int .i64 place), .val (.int .i64 cost)] = .agg (Straw.cells ⟨id, weight, place, cost⟩) := rfl
def Straw.ok (d : Straw) : Prop := (-9223372036854775808 ≤ d.id ∧ d.id ≤ 9223372036854775807) ∧ (-9223372036854775808 ≤ d.weight ∧ d.weight ≤ 9223372036854775807) ∧ (-9223372036854775808 ≤ d.place ∧ d.place ≤ 9223372036854775807) ∧ (-9223372036854775808 ≤ d.cost ∧ d.cost ≤ 9223372036854775807)
theorem Straw.of_shaped {cs : List AV} (h : Shaped Try.prog 42 cs) (hc : cs.length = 4) : ∃ d : Straw, cs = d.cells ∧ d.ok := by
  have h := Shaped.leaves laidOut 8 42 [3, 2, 3, 2] cs (of_decide_eq_true (by kernel_rfl)) (by kernel_rfl) h (hc.trans (cells_size ti_42).symm)
  match cs, h with
  | [c0, c1, c2, c3], ⟨h0, h1, h2, h3, _⟩ =>
    obtain ⟨x0, rfl, w0⟩ := h0.i64 ti_3 rfl
    obtain ⟨x1, rfl, w1⟩ := h1.i64 ti_2 rfl
    obtain ⟨x2, rfl, w2⟩ := h2.i64 ti_3 rfl
    obtain ⟨x3, rfl, w3⟩ := h3.i64 ti_2 rfl
    exact ⟨⟨x0, x1, x2, x3⟩, rfl, w0, w1, w2, w3⟩
theorem Straw.item (s : Straw) : s.cells = (Item.cells ⟨s.id, s.weight⟩) ++ [.val (.int .i64 s.place), .val (.int .i64 s.cost)] := rfl
/-- A straw that may be drawn. -/
structure Straw.fair (s : Straw) : Prop where
  w0 : 1 ≤ s.weight
  w1 : s.weight ≤ 1048576
  c0 : 0 ≤ s.cost
  c1 : s.cost ≤ 1048576
  p0 : 0 ≤ s.place
  p1 : s.place ≤ 140737488355328
def aheadI (a b : Straw) : Int := if a.cost * b.weight < b.cost * a.weight then -1 else if a.cost * b.weight ≠ b.cost * a.weight then 1 else a.place - b.place
theorem F22 (a b : Straw) (ha : a.fair) (hb : b.fair) : F Try.prog 22 [.agg a.cells, .agg b.cells] (.val (.int .i64 (aheadI a b))) := by
  obtain ⟨x, hx⟩ : ∃ x : Nat, a.cost = x := ⟨a.cost.toNat, by have := ha.c0; omega⟩
  obtain ⟨y, hy⟩ : ∃ y : Nat, b.cost = y := ⟨b.cost.toNat, by have := hb.c0; omega⟩
  obtain ⟨u, hu⟩ : ∃ u : Nat, a.weight = u := ⟨a.weight.toNat, by have := ha.w0; omega⟩
  obtain ⟨v, hv⟩ : ∃ v : Nat, b.weight = v := ⟨b.weight.toNat, by have := hb.w0; omega⟩
  have h1 : x ≤ 1048576 := by have := ha.c1; omega
  have h2 : y ≤ 1048576 := by have := hb.c1; omega
  have h3 : u ≤ 1048576 := by have := ha.w1; omega
  have h4 : v ≤ 1048576 := by have := hb.w1; omega
  have p1 := ha.p0
  have p2 := ha.p1
  have p3 := hb.p0
  have p4 := hb.p1
  have e : Kept (aheadI a b = if x * v < y * u then -1 else if x * v ≠ y * u then 1 else a.place - b.place) := by
    show aheadI a b = _
    unfold aheadI
    rw [hx, hy, hu, hv, ← Int.natCast_mul, ← Int.natCast_mul]
    by_cases c1 : x * v < y * u
    · rw [if_pos (by omega), if_pos c1]
    · rw [if_neg (by omega), if_neg c1]
      by_cases c2 : x * v = y * u
      · rw [if_neg (by omega), if_neg (by omega)]
      · rw [if_pos (by omega), if_pos c2]
  refine F22_of ?_
  unfold k22
  have f1 := F32 x v h1 h4
  have f2 := F32 y u h2 h3
  repeat' first
    | simp -dsimp (disch := omega) only [↓rulesA, rulesB, rulesC, Int.reduceLT, nth, upd, put, storeN, AV.one, Nat.reduceBEq, Nat.reduceBNe, Int.reduceBEq, Int.reduceBNe, Int.reduceLE, Int.reduceEq, Int.reduceMod, Int.reduceNeg, boolBin, strBin, intBin, unA, fillA, ne_eq, reduceCtorEq, Nat.reduceAdd, Nat.reduceSub, Nat.reduceLeDiff, Nat.reduceLT, Nat.reduceEqDiff, Int.reduceToNat, eq_self, rulesT, bne_self_eq_false, mm_min, mm_max, buOf_some, nilCheck_vp, nilCheck_ptr, nilCheck_yld, nilCheck_func, Straw.g0, Straw.g1, Straw.g2, Straw.g3, Straw.len, Straw.take, Straw.all, *]
    | (refine allK_intro fun n hn => ?_; try simp only [fresh_set] at hn)
    | (refine ifK_intro (fun h => ?_) (fun h => ?_) <;> (try simp only [decide_eq_true_eq, decide_eq_false_iff_not, Bool.not_eq_true', Bool.not_eq_false'] at h) <;> try (exfalso; (try simp only [beq_iff_eq, beq_eq_false_iff_ne, bne_iff_ne, bne_eq_false_iff_eq, ne_eq] at h); omega))
    | (refine keeps_sub (Mem.sub_set (by simp [Mem.set_at, nomem, *])) ?_)
    | (refine call_F (f1) (Seens.refl _ _) ?_)
    | (refine pure_F (f1) (Seens.refl _ _) ?_)
    | (refine call_F (f2) (Seens.refl _ _) ?_)
    | (refine pure_F (f2) (Seens.refl _ _) ?_)
  · refine New.eq ?_ rfl
    rw [(e : _ = _), if_pos (by omega)]
  · refine New.eq ?_ rfl
    have hb : (((x * v : Nat) : Int) != ((y * u : Nat) : Int)) = true := by assumption
    rw [bne_iff_ne] at hb
    rw [(e : _ = _), if_neg (by omega), if_pos (fun h => hb (by rw [h]))]
  · refine New.eq ?_ rfl
    have hb : (((x * v : Nat) : Int) != ((y * u : Nat) : Int)) = false := by assumption
    rw [bne_eq_false_iff_eq] at hb
    rw [(e : _ = _), if_neg (by omega), if_neg (fun h => h (by omega))]
end Go.Proofs.Yteilhoojlcpbpaa

