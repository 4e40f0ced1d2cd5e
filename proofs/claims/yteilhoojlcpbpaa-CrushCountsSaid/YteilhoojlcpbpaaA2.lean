/- The abstract layer, second part: what a store, a new block and a load come to. -/
import Derived.Test.YteilhoojlcpbpaaA1
set_option linter.unusedVariables false
set_option linter.unusedSimpArgs false
namespace Go.Abs

/-! ### Worlds that differ in one block -/
structure But (w w' : World) (g : Nat) : Prop where
  size : w.heap.size ≤ w'.heap.size
  blk : ∀ c, c < w.heap.size → c ≠ g → w'.heap[c]? = w.heap[c]?
  os : w'.os = w.os
  tape : w'.tape = w.tape
  output : w'.output = w.output
theorem But.refl (w : World) (g : Nat) : But w w g := ⟨Nat.le_refl _, fun _ _ _ => rfl, rfl, rfl, rfl⟩
theorem But.trans {w w' w'' : World} {g : Nat} (h : But w w' g) (h' : But w' w'' g) : But w w'' g :=
  ⟨Nat.le_trans h.size h'.size, fun c hc hg => (h'.blk c (Nat.lt_of_lt_of_le hc h.size) hg).trans (h.blk c hc hg), h'.os.trans h.os, h'.tape.trans h.tape, h'.output.trans h.output⟩
theorem But.setCell (w : World) (a : Addr) (v : Value) : But w (w.setCell a v) a.block :=
  ⟨by simp [World.setCell], fun c hc hg => by simp [World.setCell, Array.getElem?_modify, Ne.symm hg], rfl, rfl, rfl⟩
theorem But.alloc (w : World) (o : Obj) (g : Nat) : But w (w.alloc o) g :=
  ⟨by simp, fun c hc hg => by show (w.heap.push o)[c]? = _; simp [Array.getElem?_push, Nat.ne_of_lt hc], rfl, rfl, rfl⟩
theorem But.drew (w : World) (g : Nat) : But w w.drew g := ⟨Nat.le_refl _, fun _ _ _ => rfl, rfl, rfl, rfl⟩

/-- What lay there lies there as it did. -/
def Ext (w w' : World) : Prop := ∀ c, c < w.heap.size → w'.heap[c]? = w.heap[c]?
theorem Ext.refl (w : World) : Ext w w := fun _ _ => rfl
theorem Ext.cell {w w' : World} (h : Ext w w') {a : Addr} {v : Value} (hc : w.cell? a = some v) : w'.cell? a = some v := by
  have := h a.block (World.block_lt_of_cell? w a hc)
  rw [← hc]; simp [World.cell?, this]
theorem cell_of_heap {w w' : World} {c : Nat} (h : w'.heap[c]? = w.heap[c]?) (o : Nat) (s : Option Nat) : w'.cell? ⟨c, o, s⟩ = w.cell? ⟨c, o, s⟩ := by simp [World.cell?, h]

theorem BlkOK.congr {P : Program} {κ : K} {w w' : World} {l : Loc} {b : Blk} (h : w'.heap[l.blk]? = w.heap[l.blk]?) (hb : BlkOK P κ w l b) : BlkOK P κ w' l b := by
  cases b <;> (simp only [BlkOK, h]; exact hb)
theorem BlkOK.mono {P : Program} {κ κ' : K} {w : World} {l : Loc} {b : Blk} (hk : κ.le κ') (hb : BlkOK P κ w l b) : BlkOK P κ' w l b := by
  cases b with
  | cells opn t cs =>
    obtain ⟨arr, t', fz, h1, h2, h3, h4, h5, h6, h7⟩ := hb
    exact ⟨arr, t', fz, h1, h2, h3, h4, h5, h6, fun i h => let ⟨cv, a, b⟩ := h7 i h; ⟨cv, a, b.mono hk⟩⟩
  | map es =>
    obtain ⟨ents, clock, h1, h2, h3⟩ := hb
    exact ⟨ents, clock, h1, h2, fun i a b => ⟨(h3 i a b).1, (h3 i a b).2.mono hk⟩⟩
  | loop st pend env ps asg body =>
    obtain ⟨r, h1, h2, h3, h4, h5⟩ := hb
    exact ⟨r, h1, h2, h3, h4.mono hk, h5⟩
theorem BlkOK.lt {P : Program} {κ : K} {w : World} {l : Loc} {b : Blk} (hb : BlkOK P κ w l b) : l.blk < w.heap.size := by
  have : ∃ o, w.heap[l.blk]? = some o := by
    cases b with
    | cells opn t cs => obtain ⟨arr, t', fz, h1, _⟩ := hb; exact ⟨_, h1⟩
    | map es => obtain ⟨ents, clock, h1, _⟩ := hb; exact ⟨_, h1⟩
    | loop st pend env ps asg body => obtain ⟨r, h1, _⟩ := hb; exact ⟨_, h1⟩
  obtain ⟨o, ho⟩ := this
  exact (Array.getElem?_eq_some_iff.1 ho).1

/-- One own block turns. -/
theorem Step.change {P : Program} {κ : K} {m : Mem} {w w' : World} (hs : Sim P κ m w) {n : Nat} {l : Loc} (hm : m n ≠ none) (hl : κ.rho n = some (some l))
    (hp : ∀ o, κ.prot l.blk o = none) (hb : But w w' l.blk) (b' : Blk) (hok : BlkOK P κ w' l b') : Step P κ m w κ (m.set n b') w' := by
  have heap : ∀ c, c < w.heap.size → c ≠ l.blk → w'.heap[c]? = w.heap[c]? := hb.blk
  refine ⟨.refl _, ⟨?_, ?_, ?_, ?_, ?_⟩, hb.size, ?_, ?_, hb.os, hb.tape, hb.output, fun _ _ _ h => .inl h, fun k hk hk' => by
    have e : k ≠ n := fun e => hm (e ▸ hk')
    rw [Mem.set_ne _ _ e]; exact hk'⟩
  · intro c o v h
    have hne : c ≠ l.blk := fun e => by rw [e, hp o] at h; cases h
    rw [cell_of_heap (heap c (hs.protLt h) hne)]
    exact hs.prot c o v h
  · intro k b hk
    by_cases e : k = n
    · subst e
      rw [Mem.set_same] at hk
      cases hk
      exact .inl ⟨l, hl, hok, hp⟩
    · rw [Mem.set_ne _ _ e] at hk
      rcases hs.blk k b hk with ⟨l', h1, h2, h3⟩ | h
      · exact .inl ⟨l', h1, h2.congr (heap _ h2.lt (hs.excl k n l' l e (by rw [hk]; simp) hm h1 hl)), h3⟩
      · exact .inr h
  · exact fun k l' h => Nat.lt_of_lt_of_le (hs.lt k l' h) hb.size
  · intro k k' l1 l2 hne h1 h2 h3 h4
    refine hs.excl k k' l1 l2 hne ?_ ?_ h3 h4
    · by_cases e : k = n
      · subst e; exact hm
      · rwa [Mem.set_ne _ _ e] at h1
    · by_cases e : k' = n
      · subst e; exact hm
      · rwa [Mem.set_ne _ _ e] at h2
  · obtain ⟨N, hN⟩ := hs.fin
    refine ⟨N, fun k hk => ⟨(hN k hk).1, ?_⟩⟩
    have : k ≠ n := fun e => hm (e ▸ (hN k hk).2)
    rw [Mem.set_ne _ _ this]
    exact (hN k hk).2
  · intro c hc hnb
    exact heap c hc fun e => hnb ⟨n, l, hl, hm, e.symm⟩
  · rintro c hc ⟨k, l', h1, h2, h3⟩
    refine ⟨k, l', h1, ?_, h3⟩
    by_cases e : k = n
    · subst e; exact hm
    · rwa [Mem.set_ne _ _ e] at h2

/-- The own blocks are read where they were, and one more. -/
def K.add (κ : K) (n : Nat) (l : Loc) : K := { κ with rho := fun k => if k = n then some (some l) else κ.rho k }
theorem K.le_add {κ : K} {n : Nat} {l : Loc} (h : κ.rho n = none) : κ.le (κ.add n l) := ⟨fun _ _ _ h => h, fun k l' hk => by
  unfold K.add
  simp only
  split
  · rename_i e; rw [e, h] at hk; cases hk
  · exact hk⟩
@[simp] theorem K.add_same (κ : K) (n : Nat) (l : Loc) : (κ.add n l).rho n = some (some l) := by simp [K.add]
theorem K.add_ne (κ : K) {n k : Nat} (l : Loc) (h : k ≠ n) : (κ.add n l).rho k = κ.rho k := by simp [K.add, h]

/-- A new own block, behind a new block of the world. -/
theorem Step.alloc {P : Program} {κ : K} {m : Mem} {w w' : World} (hs : Sim P κ m w) {n : Nat} {l : Loc} (hm : m n = none) (hr : κ.rho n = none)
    (hlb : w.heap.size ≤ l.blk) (hll : l.blk < w'.heap.size) (hb : But w w' l.blk) (b : Blk) (hok : BlkOK P (κ.add n l) w' l b) : Step P κ m w (κ.add n l) (m.set n b) w' := by
  have heap : ∀ c, c < w.heap.size → w'.heap[c]? = w.heap[c]? := fun c hc => hb.blk c hc (by omega)
  have hle : κ.le (κ.add n l) := K.le_add hr
  refine ⟨hle, ⟨?_, ?_, ?_, ?_, ?_⟩, hb.size, fun c hc _ => heap c hc, ?_, hb.os, hb.tape, hb.output, fun _ _ _ h => .inl h, fun k hk hk' => by
    have e : k ≠ n := fun e => hk (e ▸ hr)
    rw [Mem.set_ne _ _ e]; exact hk'⟩
  · intro c o v h
    rw [cell_of_heap (heap c (hs.protLt h))]
    exact hs.prot c o v h
  · intro k b' hk
    by_cases e : k = n
    · subst e
      rw [Mem.set_same] at hk
      cases hk
      refine .inl ⟨l, K.add_same .., hok, fun o => ?_⟩
      cases hp : κ.prot l.blk o with
      | none => exact hp
      | some v => have := hs.protLt hp; omega
    · rw [Mem.set_ne _ _ e] at hk
      rcases hs.blk k b' hk with ⟨l', h1, h2, h3⟩ | ⟨h1, h2⟩
      · exact .inl ⟨l', (K.add_ne _ _ e).trans h1, (h2.congr (heap _ h2.lt)).mono hle, h3⟩
      · exact .inr ⟨(K.add_ne _ _ e).trans h1, h2⟩
  · intro k l' h
    by_cases e : k = n
    · subst e; rw [K.add_same] at h; cases h; exact hll
    · rw [K.add_ne _ _ e] at h; exact Nat.lt_of_lt_of_le (hs.lt k l' h) hb.size
  · intro k k' l1 l2 hne h1 h2 h3 h4
    by_cases e : k = n
    · subst e
      rw [K.add_same] at h3; cases h3
      rw [K.add_ne _ _ (Ne.symm hne)] at h4
      have := hs.lt _ _ h4; omega
    · rw [K.add_ne _ _ e] at h3
      rw [Mem.set_ne _ _ e] at h1
      by_cases e' : k' = n
      · subst e'
        rw [K.add_same] at h4; cases h4
        have := hs.lt _ _ h3; omega
      · rw [K.add_ne _ _ e'] at h4
        rw [Mem.set_ne _ _ e'] at h2
        exact hs.excl k k' l1 l2 hne h1 h2 h3 h4
  · obtain ⟨N, hN⟩ := hs.fin
    refine ⟨max N (n + 1), fun k hk => ?_⟩
    have e : k ≠ n := by omega
    rw [K.add_ne _ _ e, Mem.set_ne _ _ e]
    exact hN k (by omega)
  · rintro c hc ⟨k, l', h1, h2, h3⟩
    by_cases e : k = n
    · subst e; rw [K.add_same] at h1; cases h1; omega
    · rw [K.add_ne _ _ e] at h1
      rw [Mem.set_ne _ _ e] at h2
      exact ⟨k, l', h1, h2, h3⟩

/-- Cells of a block that nothing of the run's own lies behind (any more) are told for good. -/
def K.protect (κ : K) (c : Nat) (f : Nat → Option Value) : K := { κ with prot := fun c' o => if c' = c then (match f o with | some v => some v | none => κ.prot c' o) else κ.prot c' o }
theorem K.protect_same (κ : K) {c o : Nat} {f : Nat → Option Value} {v : Value} (h : f o = some v) : (κ.protect c f).prot c o = some v := by simp [K.protect, h]
theorem K.le_protect {κ : K} {c : Nat} {f : Nat → Option Value} (h : ∀ o v, κ.prot c o = some v → f o = none ∨ f o = some v) : κ.le (κ.protect c f) := ⟨fun c' o v hp => by
  unfold K.protect
  simp only
  split
  · rename_i e
    subst e
    rcases h o v hp with h' | h' <;> rw [h'] <;> first | exact hp | rfl
  · exact hp, fun _ _ h => h⟩

theorem Step.protect {P : Program} {κ : K} {m : Mem} {w w' : World} (hs : Sim P κ m w) {c : Nat} {f : Nat → Option Value} (hb : But w w' c) (hc : w.heap.size ≤ c)
    (hf : ∀ o v, f o = some v → w'.cell? ⟨c, o, none⟩ = some v) : Step P κ m w (κ.protect c f) m w' := by
  have heap : ∀ k, k < w.heap.size → w'.heap[k]? = w.heap[k]? := fun k hk => hb.blk k hk (by omega)
  have hle : κ.le (κ.protect c f) := K.le_protect fun o v hp => by have := hs.protLt hp; omega
  refine ⟨hle, ⟨?_, ?_, ?_, hs.excl, hs.fin⟩, hb.size, fun k hk _ => heap k hk, fun _ _ h => h, hb.os, hb.tape, hb.output, fun k o hk hp => by
    unfold K.protect at hp
    simp only at hp
    rw [if_neg (show k ≠ c by omega)] at hp
    exact .inl hp, fun _ _ h => h⟩
  · intro k o v h
    unfold K.protect at h
    simp only at h
    split at h
    · rename_i e
      subst e
      cases hfo : f o with
      | some v' => rw [hfo] at h; cases h; exact hf o _ hfo
      | none => rw [hfo] at h; have := hs.protLt h; omega
    · rw [cell_of_heap (heap k (hs.protLt h))]
      exact hs.prot k o v h
  · intro k b hk
    rcases hs.blk k b hk with ⟨l', h1, h2, h3⟩ | h
    · refine .inl ⟨l', h1, (h2.congr (heap _ h2.lt)).mono hle, fun o => ?_⟩
      have : l'.blk ≠ c := by have := h2.lt; omega
      simp only [K.protect, this, if_false]
      exact h3 o
    · exact .inr h
  · exact fun k l' h => Nat.lt_of_lt_of_le (hs.lt k l' h) hb.size

/-- The world has turned in nothing that is told of it. -/
theorem Step.quiet {P : Program} {κ : K} {m : Mem} {w w' : World} (hs : Sim P κ m w) (hb : ∀ g, But w w' g) : Step P κ m w κ m w' := by
  have heap : ∀ k, k < w.heap.size → w'.heap[k]? = w.heap[k]? := fun k hk => (hb (k + 1)).blk k hk (by omega)
  refine ⟨.refl _, ⟨?_, ?_, ?_, hs.excl, hs.fin⟩, (hb 0).size, fun k hk _ => heap k hk, fun _ _ h => h, (hb 0).os, (hb 0).tape, (hb 0).output, fun _ _ _ h => .inl h, fun _ _ h => h⟩
  · intro c o v h
    rw [cell_of_heap (heap c (hs.protLt h))]
    exact hs.prot c o v h
  · intro k b hk
    rcases hs.blk k b hk with ⟨l', h1, h2, h3⟩ | h
    · exact .inl ⟨l', h1, h2.congr (heap _ h2.lt), h3⟩
    · exact .inr h
  · exact fun k l' h => Nat.lt_of_lt_of_le (hs.lt k l' h) (hb 0).size
theorem Step.drew {P : Program} {κ : K} {m : Mem} {w : World} (hs : Sim P κ m w) : Step P κ m w κ m w.drew := .quiet hs fun g => But.drew w g

/-! ### An own block is told no more: its cells are told for good -/
theorem Step.freeze {P : Program} {κ : K} {m : Mem} {w : World} (hs : Sim P κ m w) {n : Nat} {l : Loc} {opn : Bool} {t : TypeId} {cs : List AV} (hm : m n = some (.cells opn t cs)) (hl : κ.rho n = some (some l)) :
    ∃ κ', ∃ f : Nat → Value, Step P κ m w κ' (m.del n) w ∧ l.top = cs.length ∧ ∀ i (h : i < cs.length), κ'.prot l.blk (l.base + i) = some (f i) ∧ Rel κ' cs[i] (f i) := by
  rcases hs.blk n _ hm with ⟨l', h1, hb, hp⟩ | ⟨h1, _⟩
  · rw [hl] at h1; cases h1
    obtain ⟨arr, t', fz, h1, h2, h3, h4, h5, h6, h7⟩ := hb
    let f : Nat → Option Value := fun o => if l.base ≤ o ∧ o < l.base + cs.length then arr[o]? else none
    have hle : κ.le (κ.protect l.blk f) := K.le_protect fun o v h => by rw [hp o] at h; cases h
    have hcell : ∀ o v, f o = some v → w.cell? ⟨l.blk, o, none⟩ = some v := fun o v h => by
      simp only [f] at h
      split at h
      · simp [World.cell?, h1, h]
      · cases h
    refine ⟨κ.protect l.blk f, fun i => (arr[l.base + i]?).getD (.bool false), ⟨hle, ⟨?_, ?_, hs.lt, ?_, ?_⟩, Nat.le_refl _, fun _ _ _ => rfl, ?_, rfl, rfl, rfl, fun c o hc hp => by
      unfold K.protect at hp
      simp only at hp
      split at hp
      · rename_i e
        exact .inr ⟨n, l, hl, by rw [hm]; simp, e.symm⟩
      · exact .inl hp, fun k hk hk' => by unfold Mem.del; split <;> first | rfl | exact hk'⟩, h3, ?_⟩
    · intro k o v h
      unfold K.protect at h
      simp only at h
      split at h
      · rename_i e
        subst e
        cases hfo : f o with
        | some v' => rw [hfo] at h; cases h; exact hcell o _ hfo
        | none => rw [hfo, hp o] at h; cases h
      · exact hs.prot k o v h
    · intro k b hk
      have e : k ≠ n := fun e => by subst e; simp at hk
      have hk' : m k = some b := Mem.del_sub m n k b hk
      rcases hs.blk k b hk' with ⟨l2, g1, g2, g3⟩ | h
      · refine .inl ⟨l2, g1, g2.mono hle, fun o => ?_⟩
        have : l2.blk ≠ l.blk := hs.excl k n l2 l e (by rw [hk']; simp) (by rw [hm]; simp) g1 hl
        simp only [K.protect, this, if_false]
        exact g3 o
      · exact .inr h
    · exact fun k k' l1 l2 hne a b c d => hs.excl k k' l1 l2 hne ((Mem.del_sub m n).live a) ((Mem.del_sub m n).live b) c d
    · obtain ⟨N, hN⟩ := hs.fin
      refine ⟨N, fun k hk => ⟨(hN k hk).1, ?_⟩⟩
      unfold Mem.del; split
      · rfl
      · exact (hN k hk).2
    · exact fun c _ hb => Backs.sub (κ := κ) (Mem.del_sub m n) hb
    · intro i hi
      obtain ⟨cv, g1, g2⟩ := h7 i hi
      have hfi : f (l.base + i) = some cv := by simp only [f]; rw [if_pos (by omega)]; exact g1
      simp only [g1, Option.getD_some]
      exact ⟨K.protect_same κ hfi, g2.mono hle⟩
  · rw [hl] at h1; cases h1

/-! ### Stores into a row of cells -/
def overwrite (c : Array Value) (off : Nat) : List Value → Array Value
  | [] => c
  | v :: r => overwrite (c.setIfInBounds off v) (off + 1) r
theorem overwrite_size (vs : List Value) : ∀ (c : Array Value) (off : Nat), (overwrite c off vs).size = c.size := by
  induction vs with
  | nil => intro c off; rfl
  | cons v r ih => intro c off; simp [overwrite, ih]
theorem overwrite_get (vs : List Value) : ∀ (c : Array Value) (off : Nat), off + vs.length ≤ c.size → ∀ k, (overwrite c off vs)[k]? = if off ≤ k ∧ k < off + vs.length then vs[k - off]? else c[k]? := by
  induction vs with
  | nil => intro c off _ k; simp [overwrite]; omega
  | cons v r ih =>
    intro c off h k
    simp only [List.length_cons] at h
    rw [overwrite, ih _ _ (by simp; omega)]
    by_cases h1 : off + 1 ≤ k ∧ k < off + 1 + r.length
    · rw [if_pos h1, if_pos (by simp only [List.length_cons]; omega)]
      have : k - off = (k - (off + 1)) + 1 := by omega
      rw [this, List.getElem?_cons_succ]
    · rw [if_neg h1]
      by_cases h2 : k = off
      · subst h2
        rw [if_pos (by simp)]
        simp [Array.getElem?_setIfInBounds_self, show k < c.size from by omega]
      · rw [if_neg (by simp only [List.length_cons]; omega), Array.getElem?_setIfInBounds_ne (Ne.symm h2)]

theorem addr_plain (c o i : Nat) : (⟨c, o, none⟩ : Addr).add i = ⟨c, o + i, none⟩ := by unfold Addr.add; split <;> simp_all

theorem run_storeCells' (P : Program) (g : Nat) (t : TypeId) (fz : Nat × Nat) (o : Nat) : ∀ (vs : List Value) (i : Nat) (arr : Array Value) (w : World), w.heap[g]? = some (.cells arr t fz) →
    (∀ k, k < arr.size → ¬ (fz.1 ≤ k ∧ k < fz.2)) → o + i + vs.length ≤ arr.size → (∀ v ∈ vs, v.oneCell' = true) →
    ∃ w', (storeCells ⟨g, o, none⟩ vs i).run P w = .ok () w' ∧ w'.heap[g]? = some (.cells (overwrite arr (o + i) vs) t fz) ∧ But w w' g := by
  intro vs
  induction vs with
  | nil => intro i arr w hg _ _ _; exact ⟨w, rfl, hg, .refl _ _⟩
  | cons v r ih =>
    intro i arr w hg hz hfit h1
    simp only [List.length_cons] at hfit
    have hlt : o + i < arr.size := by omega
    have hc : w.cell? ⟨g, o + i, none⟩ = some arr[o + i] := by simp [World.cell?, hg, hlt]
    have hf : w.frozen? ⟨g, o + i, none⟩ = false := by
      simp only [World.frozen?, hg]
      have := hz (o + i) hlt
      simp only [Bool.and_eq_false_imp, decide_eq_true_eq, decide_eq_false_iff_not]
      omega
    have hw' : (w.setCell ⟨g, o + i, none⟩ v).heap[g]? = some (.cells (arr.setIfInBounds (o + i) v) t fz) := by
      simp [World.setCell, Array.getElem?_modify, hg]
    obtain ⟨w'', h2, h3, h4⟩ := ih (i + 1) (arr.setIfInBounds (o + i) v) (w.setCell ⟨g, o + i, none⟩ v) hw' (fun k hk => hz k (by simpa using hk)) (by simp; omega) (fun u hu => h1 u (by simp [hu]))
    refine ⟨w'', ?_, ?_, (But.setCell w ⟨g, o + i, none⟩ v).trans h4⟩
    · simp only [storeCells, addr_plain, Sem.run_bind, run_store P w ⟨g, o + i, none⟩ v .plain (h1 v (by simp)), hc, hf]
      simpa using h2
    · rw [h3]; rfl

end Go.Abs
