/- Package 11: who is chosen, in plain words; the law CrushMoves. -/
import Derived.Test.YteilhoojlcpbpaaD8
set_option maxRecDepth 100000
set_option maxHeartbeats 1000000
set_option linter.unusedSimpArgs false
set_option linter.unusedVariables false
namespace Go.Proofs.Yteilhoojlcpbpaa
open Go.Abs
attribute [local irreducible] C X CC Y CV CW binK litK AppK PureC PureCV againK loopV rangeV allK ifK got onB condK V stepsK planK opK firstK seeE keepsK

/-- The weight as it counts; the cost; who stands ahead. -/
def wAt (l : List Item) (q : Nat) : Int := capW (l.getD q default).weight
def cAt (l : List Item) (x : Nat) (r : Int) (q : Nat) : Int := costN x (l.getD q default).id r
def Less (l : List Item) (x : Nat) (r : Int) (p q : Nat) : Prop := cAt l x r p * wAt l q < cAt l x r q * wAt l p ∨ (cAt l x r p * wAt l q = cAt l x r q * wAt l p ∧ p < q)
def Val (l : List Item) (q : Nat) : Prop := q < l.length ∧ 1 ≤ wAt l q
theorem cAt_pos (l : List Item) (x : Nat) (r : Int) (q : Nat) : 0 ≤ cAt l x r q := Int.natCast_nonneg _
theorem ahead_less (l : List Item) (x : Nat) (r : Int) (p q : Nat) : aheadI (strawAt l x r p) (strawAt l x r q) < 0 ↔ Less l x r p q := by
  show (if cAt l x r p * wAt l q < cAt l x r q * wAt l p then (-1 : Int) else if cAt l x r p * wAt l q ≠ cAt l x r q * wAt l p then 1 else (p : Int) - q) < 0 ↔ _
  unfold Less
  split
  · constructor
    · intro _; exact .inl (by assumption)
    · intro _; omega
  · split
    · constructor
      · intro h; omega
      · rintro (h | ⟨h, _⟩)
        · omega
        · exact absurd h (by assumption)
    · constructor
      · intro h; exact .inr ⟨by omega, by omega⟩
      · rintro (h | ⟨_, h⟩)
        · omega
        · omega
theorem less_asym {l : List Item} {x : Nat} {r : Int} {p q : Nat} (h : Less l x r p q) (h' : Less l x r q p) : False := by
  rcases h with h | ⟨h, h2⟩ <;> rcases h' with h' | ⟨h', h3⟩ <;> omega
theorem less_tot (l : List Item) (x : Nat) (r : Int) (p q : Nat) (h : p ≠ q) (hn : ¬ Less l x r p q) : Less l x r q p := by
  unfold Less at *
  rcases Int.lt_trichotomy (cAt l x r p * wAt l q) (cAt l x r q * wAt l p) with h1 | h1 | h1
  · exact absurd (.inl h1) hn
  · refine .inr ⟨h1.symm, ?_⟩
    have : ¬ p < q := fun hh => hn (.inr ⟨h1, hh⟩)
    omega
  · exact .inl h1
theorem less_trans {l : List Item} {x : Nat} {r : Int} {p q s : Nat} (hp : 1 ≤ wAt l p) (hq : 1 ≤ wAt l q) (hs : 1 ≤ wAt l s) (h : Less l x r p q) (h' : Less l x r q s) : Less l x r p s := by
  unfold Less at *
  generalize cAt l x r p = a at *
  generalize cAt l x r q = b at *
  generalize cAt l x r s = c at *
  generalize wAt l p = u at *
  generalize wAt l q = v at *
  generalize wAt l s = w at *
  -- a v ≤ b u, b w ≤ c v
  have h1 : a * v ≤ b * u := by rcases h with h | ⟨h, _⟩ <;> omega
  have h2 : b * w ≤ c * v := by rcases h' with h' | ⟨h', _⟩ <;> omega
  have k1 : a * v * w ≤ b * u * w := Int.mul_le_mul_of_nonneg_right h1 (by omega)
  have k2 : b * w * u ≤ c * v * u := Int.mul_le_mul_of_nonneg_right h2 (by omega)
  have e1 : b * u * w = b * w * u := by rw [Int.mul_assoc, Int.mul_comm u w, ← Int.mul_assoc]
  have e2 : a * v * w = a * w * v := by rw [Int.mul_assoc, Int.mul_comm v w, ← Int.mul_assoc]
  have e3 : c * v * u = c * u * v := by rw [Int.mul_assoc, Int.mul_comm v u, ← Int.mul_assoc]
  have k3 : a * w * v ≤ c * u * v := by omega
  have k4 : a * w ≤ c * u := Int.le_of_mul_le_mul_right k3 (by omega)
  by_cases he : a * w = c * u
  · refine .inr ⟨he, ?_⟩
    have k5 : a * w * v = c * u * v := by rw [he]
    have m1 : a * v * w = b * u * w := by omega
    have m2 : b * w * u = c * v * u := by omega
    have n1 : a * v = b * u := Int.eq_of_mul_eq_mul_right (by omega) m1
    have n2 : b * w = c * v := Int.eq_of_mul_eq_mul_right (by omega) m2
    rcases h with h | ⟨_, h⟩
    · omega
    · rcases h' with h' | ⟨_, h'⟩
      · omega
      · omega
  · exact .inl (by omega)
/-- The best of what was drawn up to i. -/
theorem best_app (L : List Straw) (t : List Straw) : ∀ k, k ≤ L.length → bestTo (L ++ t) k = bestTo L k
  | 0, _ => rfl
  | k + 1, hk => by
    have e : (L ++ t).getD k default = L.getD k default := by
      rw [List.getD_eq_getElem?_getD, List.getD_eq_getElem?_getD, List.getElem?_append_left (by omega)]
    unfold bestTo
    rw [best_app L t k (by omega), e]
theorem best_snoc (L : List Straw) (s : Straw) : bestTo (L ++ [s]) (L ++ [s]).length = match bestTo L L.length with
    | none => some s
    | some b => if aheadI s b < 0 then some s else some b := by
  have e : (L ++ [s]).getD L.length default = s := by
    rw [List.getD_eq_getElem?_getD, List.getElem?_append_right (Nat.le_refl _)]; simp
  rw [List.length_append, List.length_singleton, bestTo, best_app L [s] _ (Nat.le_refl _), e]
  cases bestTo L L.length <;> rfl
theorem best_spec (l : List Item) (x : Nat) (r : Int) : ∀ i, i ≤ l.length →
    (bestTo (strawTo l x r i) (strawTo l x r i).length = none ∧ ∀ q, q < i → ¬ Val l q) ∨
    ∃ p, p < i ∧ Val l p ∧ bestTo (strawTo l x r i) (strawTo l x r i).length = some (strawAt l x r p) ∧ ∀ q, q < i → Val l q → q ≠ p → Less l x r p q
  | 0, _ => .inl ⟨rfl, fun q h => absurd h (by omega)⟩
  | i + 1, hi => by
    by_cases hv : 1 ≤ capW (l.getD i default).weight
    · have hV : Val l i := ⟨by omega, hv⟩
      rw [strawTo_yes hv, best_snoc]
      rcases best_spec l x r i (by omega) with ⟨h, hn⟩ | ⟨p, hp, hP, h, hn⟩
      · rw [h]
        refine .inr ⟨i, by omega, hV, rfl, fun q hq hQ hne => absurd hQ (hn q (by omega))⟩
      · rw [h]
        have ha := ahead_less l x r i p
        simp only
        by_cases hl : Less l x r i p
        · refine .inr ⟨i, by omega, hV, by rw [if_pos (ha.2 hl)], fun q hq hQ hne => ?_⟩
          by_cases hqp : q = p
          · rw [hqp]; exact hl
          · exact less_trans hV.2 hP.2 hQ.2 hl (hn q (by omega) hQ hqp)
        · refine .inr ⟨p, by omega, hP, by rw [if_neg (fun h => hl (ha.1 h))], fun q hq hQ hne => ?_⟩
          by_cases hqi : q = i
          · rw [hqi]; exact less_tot l x r i p (by omega) hl
          · exact hn q (by omega) hQ hne
    · rw [strawTo_no hv]
      rcases best_spec l x r i (by omega) with ⟨h, hn⟩ | ⟨p, hp, hP, h, hn⟩
      · refine .inl ⟨h, fun q hq => ?_⟩
        by_cases hqi : q = i
        · rw [hqi]; exact fun hh => hv hh.2
        · exact hn q (by omega)
      · refine .inr ⟨p, by omega, hP, h, fun q hq hQ hne => ?_⟩
        by_cases hqi : q = i
        · rw [hqi] at hQ; exact absurd hQ.2 hv
        · exact hn q (by omega) hQ hne
/-- Who is chosen. -/
theorem choose_spec (l : List Item) (x : Nat) (r : Int) : (choB l x r = false ∧ choP l x r = 0 ∧ ∀ q, ¬ Val l q) ∨ (choB l x r = true ∧ Val l (choP l x r) ∧ ∀ q, Val l q → q ≠ choP l x r → Less l x r (choP l x r) q) := by
  rcases best_spec l x r l.length (Nat.le_refl _) with ⟨h, hn⟩ | ⟨p, hp, hP, h, hn⟩
  · refine .inl ⟨?_, ?_, fun q hQ => hn q hQ.1 hQ⟩
    · unfold choB chooseS; rw [h]; rfl
    · unfold choP chooseS; rw [h]; rfl
  · have e : choP l x r = p := by unfold choP chooseS; rw [h]; rfl
    rw [e]
    exact .inr ⟨by unfold choB chooseS; rw [h]; rfl, hP, fun q hQ hne => hn q hQ.1 hQ hne⟩
def capM (w : Int) : Int := if capW w < 0 then 0 else capW w
theorem capM_lt {a b : Int} (h : capM a < capM b) : 1 ≤ capW b ∧ capW a < capW b := by
  unfold capM at h; split at h <;> split at h <;> omega
theorem capM_eq {a b : Int} (h : capM a = capM b) : (1 ≤ capW a ↔ 1 ≤ capW b) ∧ (1 ≤ capW a → capW a = capW b) := by
  unfold capM at h; split at h <;> split at h <;> omega
section
variable {l m : List Item} {x : Nat} {r : Int} {k : Nat} (hlen : m.length = l.length) (hid : ∀ q, (m.getD q default).id = (l.getD q default).id) (hw : ∀ q, q ≠ k → wAt m q = wAt l q)
include hlen hid hw
omit hid in
theorem val_iff {q : Nat} (hq : q ≠ k) : Val m q ↔ Val l q := by unfold Val; rw [hlen, hw q hq]
omit hlen hw in
theorem cAt_eq (q : Nat) : cAt m x r q = cAt l x r q := by unfold cAt; rw [hid]
omit hlen in
theorem less_iff {p q : Nat} (hp : p ≠ k) (hq : q ≠ k) : Less m x r p q ↔ Less l x r p q := by unfold Less; rw [cAt_eq hid, cAt_eq hid, hw p hp, hw q hq]
omit hlen in
/-- More weight keeps it ahead. -/
theorem less_more (hk : wAt l k ≤ wAt m k) {q : Nat} (hq : q ≠ k) (h : Less l x r k q) : Less m x r k q := by
  unfold Less at *
  rw [cAt_eq hid, cAt_eq hid, hw q hq]
  have := Int.mul_le_mul_of_nonneg_left hk (cAt_pos l x r q)
  omega
omit hlen in
theorem less_fewer (hk : wAt m k ≤ wAt l k) {q : Nat} (hq : q ≠ k) (h : Less l x r q k) : Less m x r q k := by
  unfold Less at *
  rw [cAt_eq hid, cAt_eq hid, hw q hq]
  have := Int.mul_le_mul_of_nonneg_left hk (cAt_pos l x r q)
  omega
end
end Go.Proofs.Yteilhoojlcpbpaa

