/- The abstract layer, fourth part: addresses, loads, slices, lengths. -/
import Derived.Test.YteilhoojlcpbpaaA3
set_option linter.unusedVariables false
set_option linter.unusedSimpArgs false
namespace Go.Abs
variable {P : Program} {κ : K} {m : Mem} {w : World}

/-! ### Addresses -/
def moveA (k : Nat) : AV → Option AV
  | .ptr n off => some (.ptr n (off + k))
  | .vp cs off => some (.vp cs (off + k))
  | _ => none
theorem moveA_sound {k : Nat} {x r : AV} (h : moveA k x = some r) {cv : Value} (hx : Rel κ x cv) : ∃ a, cv = .pointer (some a) ∧ Rel κ r (.pointer (some (a.add k))) := by
  unfold moveA at h
  split at h <;> cases h
  · cases hx with
    | ptr hr => refine ⟨_, rfl, ?_⟩; rw [addr_plain, Nat.add_assoc]; exact .ptr hr
  · cases hx with
    | vp f h1 h2 => refine ⟨_, rfl, ?_⟩; rw [addr_plain, Nat.add_assoc]; exact .vp f h1 h2

def fieldAddrA (P : Program) (s : TypeId) (f : Nat) (x : AV) : Option AV :=
  match ti P s with
  | some i => match i.desc with
    | .struct fields => match fields[f]? with
      | some fd => match ti P fd.type with
        | some j => if j.size = 0 then none else moveA fd.offset x
        | none => none
      | none => none
    | _ => none
  | none => none
theorem fieldAddrA_sound {s : TypeId} {f : Nat} {x r : AV} (h : fieldAddrA P s f x = some r) {cv : Value} (hx : Rel κ x cv) : ∃ v, Rel κ r v ∧ ∀ w, (Instr.fieldAt s cv f).run P w = .ok v w := by
  unfold fieldAddrA at h
  split at h
  · rename_i i hi
    split at h
    · rename_i fields hd
      split at h
      · rename_i fd hf
        split at h
        · rename_i j hj
          split at h
          · cases h
          · rename_i hz
            obtain ⟨a, rfl, hr⟩ := moveA_sound h hx
            refine ⟨_, hr, fun w => ?_⟩
            simp only [Instr.fieldAt, Sem.run_bind, run_underlying' hi, hd, hf, Result.andThen_ok, Instr.sureAddr, Sem.run_pure, fieldPlace, run_sizeOf hj, hz, if_false]
        · cases h
      · cases h
    · cases h
  · cases h

def indexAddrA (P : Program) (t : TypeId) (x ix : AV) : Option AV :=
  match ti P t, ix with
  | some i, .val (.int _ k) => match i.desc with
    | .slice e => match ti P e with
      | some j => match x with
        | .vs es _ => if h : 0 ≤ k ∧ k < es.length then (if (es[k.toNat]'(by omega)).length = j.size then some (.vp (es[k.toNat]'(by omega)) 0) else none) else none
        | .sl n off len _ => if 0 ≤ k ∧ k < len then some (.ptr n (off + k.toNat * j.size)) else none
        | _ => none
      | none => none
    | .array len e => match ti P e with
      | some j => if 0 ≤ k ∧ k < len then moveA (k.toNat * j.size) x else none
      | none => none
    | _ => none
  | _, _ => none
theorem indexAddrA_sound {t : TypeId} {x ix r : AV} (h : indexAddrA P t x ix = some r) {cv ci : Value} (hx : Rel κ x cv) (hi : Rel κ ix ci) : ∃ v, Rel κ r v ∧ ∀ w, (Instr.indexAt t cv ci).run P w = .ok v w := by
  unfold indexAddrA at h
  split at h
  · rename_i i kk k ht
    obtain ⟨rfl, _⟩ := hi.val_inv
    split at h
    · rename_i e hd
      split at h
      · rename_i j hj
        split at h
        · rename_i es ex
          split at h
          · rename_i hk
            split at h
            · rename_i hlen
              cases h
              cases hx with
              | vnil => simp at hk; omega
              | vz => simp at hk; omega
              | @vs _ _ c o s cap f h1 h2 h3 h4 h5 =>
                have hs : j.size = s := by rw [← hlen]; exact h1 _ (List.getElem_mem _)
                refine ⟨.pointer (some ⟨c, (o + k.toNat * s) + 0, none⟩), .vp (f k.toNat) (fun q hq => ?_) (fun q hq => h5 _ _ _ hq), ?_⟩
                · have := h4 k.toNat q (by omega) (by omega)
                  rw [Nat.add_assoc]; exact this
                · intro w
                  simp only [Instr.indexAt, asIntOf, Sem.run_bind, Sem.run_pure, Result.andThen_ok, run_underlying' ht, hd, hk.1, hk.2, and_self, if_true, run_sizeOf hj, hs, addr_plain, Nat.add_zero]
            · cases h
          · cases h
        · rename_i n off len cap
          split at h
          · rename_i hk
            cases h
            cases hx with
            | snil => simp at hk; omega
            | szero => simp at hk; omega
            | @sl _ _ _ _ cap' c' o' l h1 h2 h3 h4 =>
              rcases h4 with h4 | ⟨rfl, rfl⟩
              · rcases h2 with h2 | h2 <;> omega
              · refine ⟨.pointer (some ⟨l.blk, l.base + (off + k.toNat * j.size), none⟩), .ptr h1, fun w => ?_⟩
                simp only [Instr.indexAt, asIntOf, Sem.run_bind, Sem.run_pure, Result.andThen_ok, run_underlying' ht, hd, hk.1, hk.2, and_self, if_true, run_sizeOf hj, addr_plain, Nat.add_assoc]
          · cases h
        · cases h
      · cases h
    · rename_i len e hd
      split at h
      · rename_i j hj
        split at h
        · rename_i hk
          obtain ⟨a, rfl, hr⟩ := moveA_sound h hx
          refine ⟨_, hr, fun w => ?_⟩
          simp only [Instr.indexAt, asIntOf, Sem.run_bind, Sem.run_pure, Result.andThen_ok, run_underlying' ht, hd, Instr.sureAddr, hk.1, hk.2, and_self, if_true, run_sizeOf hj]
        · cases h
      · cases h
    · cases h
  · cases h

/-! ### Loads -/
def cellsAt (m : Mem) : AV → Option (List AV × Nat)
  | .ptr n off => match m n with
    | some (.cells _ _ cs) => some (cs, off)
    | _ => none
  | .vp cs off => some (cs, off)
  | _ => none
theorem cellsAt_sound (hs : Sim P κ m w) {x : AV} {cs : List AV} {off : Nat} (h : cellsAt m x = some (cs, off)) {cv : Value} (hx : Rel κ x cv) :
    ∃ c o, (off < cs.length → cv = .pointer (some ⟨c, o + off, none⟩)) ∧ ∃ f : Nat → Value, ∀ i (hi : i < cs.length), w.cell? ⟨c, o + i, none⟩ = some (f i) ∧ Rel κ cs[i] (f i) := by
  unfold cellsAt at h
  split at h
  · rename_i n off'
    split at h
    · rename_i opn t cs' hm
      cases h
      rcases hs.blk n _ hm with ⟨l, h1, hb, _⟩ | ⟨h1, t', h2⟩
      · obtain ⟨arr, t', fz, g1, g2, g3, g4, g5, g6, g7⟩ := hb
        refine ⟨l.blk, l.base, fun _ => ?_, fun i => (arr[l.base + i]?).getD (.bool false), fun i hi => ?_⟩
        · cases hx with
          | ptr hr => rw [h1] at hr; cases hr; rfl
        · obtain ⟨cv', q1, q2⟩ := g7 i hi
          refine ⟨?_, by simpa only [q1, Option.getD_some] using q2⟩
          simp [World.cell?, g1, q1]
      · cases h2
        exact ⟨0, 0, fun h => by simp at h, fun _ => .bool false, fun i hi => by simp at hi⟩
    · cases h
  · cases h
    cases hx with
    | @vp _ _ c o f h1 h2 => exact ⟨c, o, fun _ => rfl, f, fun i hi => ⟨hs.prot _ _ _ (h1 i hi), h2 i hi⟩⟩
  · cases h

def loadA (P : Program) (m : Mem) (t : TypeId) (x : AV) : Option AV :=
  match ti P t, cellsAt m x with
  | some i, some (cs, off) => if isAggD i.desc then (if 0 < i.size ∧ off + i.size ≤ cs.length then some (.agg ((cs.drop off).take i.size)) else none) else cs[off]?
  | _, _ => none
theorem run_loadCells' {c o : Nat} (f : Nat → Value) (n : Nat) (h : ∀ j, j < n → w.cell? ⟨c, o + j, none⟩ = some (f j)) : (loadCells ⟨c, o, none⟩ n).run P w = .ok (Array.ofFn fun j : Fin n => f j) w := by
  have h2 := run_loadCells_list (P := P) (w := w) (⟨c, o, none⟩ : Addr) ((List.range n).map f) (fun j v hj => by
    rw [addr_plain]
    obtain ⟨hj1, rfl⟩ := List.getElem?_eq_some_iff.1 hj
    simp only [List.length_map, List.length_range] at hj1
    simp only [List.getElem_map, List.getElem_range]
    exact h j hj1)
  simp only [List.length_map, List.length_range] at h2
  rw [h2]
  congr 1
  apply Array.ext
  · simp
  · intro i h1 h2; simp
theorem loadA_sound (hs : Sim P κ m w) {t : TypeId} {x r : AV} (h : loadA P m t x = some r) {cv : Value} (hx : Rel κ x cv) : ∃ v, Rel κ r v ∧ ∀ w', Ext w w' → (Instr.loadAt t cv).run P w' = .ok v w' := by
  unfold loadA at h
  split at h
  · rename_i i cs off hi hc
    obtain ⟨c, o, e, f, hf⟩ := cellsAt_sound hs hc hx
    split at h
    · rename_i ha
      split at h
      · rename_i hsz
        cases h
        obtain rfl := e (by omega)
        have := fun (w' : World) (hw : Ext w w') => run_loadCells' (P := P) (w := w') (c := c) (o := o + off) (fun j => f (off + j)) i.size (fun j hj => by
          rw [Nat.add_assoc]; exact hw.cell (hf (off + j) (by omega)).1)
        refine ⟨.agg (Array.ofFn fun j : Fin i.size => f (off + j)), .agg (by simp; omega) (fun q h1 h2 => ?_), ?_⟩
        · simp only [List.length_take, List.length_drop] at h1
          simp only [List.getElem_take, List.getElem_drop, Array.getElem_ofFn]
          exact (hf (off + q) (by omega)).2
        · intro w' hw
          simp only [Instr.loadAt, Instr.sureAddr, loadVar, Sem.run_bind, Sem.run_pure, Result.andThen_ok, run_isAgg hi, ha, if_true, run_sizeOf hi, this w' hw]
      · cases h
    · rename_i ha
      obtain ⟨h1, rfl⟩ := List.getElem?_eq_some_iff.1 h
      obtain rfl := e h1
      obtain ⟨g1, g2⟩ := hf off h1
      refine ⟨f off, g2, fun w' hw => ?_⟩
      have g1 := hw.cell g1
      simp [Instr.loadAt, Instr.sureAddr, loadVar, run_isAgg hi, ha, g1]
  · cases h

/-! ### Parts of values -/
def partA (P : Program) (t : TypeId) (cs : List AV) (off : Nat) : Option AV :=
  match ti P t with
  | some i => if isAggD i.desc then (if off + i.size ≤ cs.length then some (.agg ((cs.drop off).take i.size)) else none) else cs[off]?
  | none => none
theorem partA_sound {t : TypeId} {cs : List AV} {off : Nat} {r : AV} (h : partA P t cs off = some r) {ca : Array Value} (hx : Rels κ cs ca) : ∃ v, Rel κ r v ∧ ∀ w, (part t ca off).run P w = .ok v w := by
  unfold partA at h
  split at h
  · rename_i i hi
    split at h
    · rename_i ha
      split at h
      · rename_i hsz
        cases h
        have hsz' : off + i.size ≤ ca.size := hx.1 ▸ hsz
        refine ⟨.agg (ca.extract off (off + i.size)), .agg (by simp; omega) (fun q h1 h2 => ?_), ?_⟩
        · simp only [List.length_take, List.length_drop] at h1
          simp only [List.getElem_take, List.getElem_drop, Array.getElem_extract]
          exact hx.2 _ _ _
        · intro w
          simp only [part, Sem.run_bind, Sem.run_pure, Result.andThen_ok, run_isAgg hi, ha, if_true, run_sizeOf hi]
      · cases h
    · rename_i ha
      obtain ⟨h1, rfl⟩ := List.getElem?_eq_some_iff.1 h
      have h2 : off < ca.size := hx.1 ▸ h1
      exact ⟨ca[off], hx.2 _ _ _, fun w => by simp [part, run_isAgg hi, ha, h2]⟩
  · cases h
def fieldA (P : Program) (t : TypeId) (x : AV) (f : Nat) : Option AV :=
  match ti P t, x with
  | some i, .agg cs => match i.desc with
    | .struct fields => match fields[f]? with
      | some fd => partA P fd.type cs fd.offset
      | none => none
    | _ => none
  | _, _ => none
theorem fieldA_sound {t : TypeId} {x r : AV} {f : Nat} (h : fieldA P t x f = some r) {cv : Value} (hx : Rel κ x cv) : ∃ v, Rel κ r v ∧ ∀ w, (Instr.field t cv f).run P w = .ok v w := by
  unfold fieldA at h
  split at h
  · rename_i i cs hi
    split at h
    · rename_i fields hd
      split at h
      · rename_i fd hf
        cases hx with
        | agg hl hr =>
          obtain ⟨v, h1, h2⟩ := partA_sound h ⟨hl, hr⟩
          exact ⟨v, h1, fun w => by simp only [Instr.field, Sem.run_bind, run_underlying' hi, hd, hf, Result.andThen_ok, asAgg, Sem.run_pure, h2]⟩
      · cases h
    · cases h
  · cases h
def indexA (P : Program) (t : TypeId) (x ix : AV) : Option AV :=
  match ti P t, x, ix with
  | some i, .agg cs, .val (.int _ k) => match i.desc with
    | .array len e => match ti P e with
      | some j => if 0 ≤ k ∧ k < len then partA P e cs (k.toNat * j.size) else none
      | none => none
    | _ => none
  | some i, .val (.string s), .val (.int _ k) => match i.desc with
    | .string => if h : 0 ≤ k ∧ k < s.size then some (.val (.int .u8 (s[k.toNat]'(by omega)).toNat)) else none
    | _ => none
  | _, _, _ => none
theorem indexA_sound {t : TypeId} {x ix r : AV} (h : indexA P t x ix = some r) {cv ci : Value} (hx : Rel κ x cv) (hi : Rel κ ix ci) : ∃ v, Rel κ r v ∧ ∀ w, (Instr.index t cv ci).run P w = .ok v w := by
  unfold indexA at h
  split at h
  · rename_i i cs kk k ht
    obtain ⟨rfl, _⟩ := hi.val_inv
    split at h
    · rename_i len e hd
      split at h
      · rename_i j hj
        split at h
        · rename_i hk
          cases hx with
          | agg hl hr =>
            obtain ⟨v, h1, h2⟩ := partA_sound h ⟨hl, hr⟩
            exact ⟨v, h1, fun w => by simp only [Instr.index, asIntOf, Sem.run_bind, run_underlying' ht, hd, Result.andThen_ok, Sem.run_pure, hk.1, hk.2, and_self, if_true, run_sizeOf hj, h2]⟩
        · cases h
      · cases h
    · cases h
  · rename_i i s kk k ht
    obtain ⟨rfl, _⟩ := hi.val_inv
    obtain ⟨rfl, _⟩ := hx.val_inv
    split at h
    · rename_i hd
      split at h
      · rename_i hk
        cases h
        have hk2 : k.toNat < s.size := by omega
        refine ⟨_, .val rfl, fun w => ?_⟩
        simp [Instr.index, asIntOf, run_underlying' ht, hd, hk.1, hk2]
      · cases h
    · cases h
  · cases h

/-! ### Slices -/
def natOf (d : Nat) : Option AV → Option Nat
  | none => some d
  | some (.val (.int _ i)) => if 0 ≤ i then some i.toNat else none
  | _ => none
/-- What the three indexes come to: the low one, the high one, the new capacity's end. -/
def boundsA (len cap : Nat) (lo hi mx : Option AV) : Option (Nat × Nat × Nat) :=
  match natOf 0 lo, natOf len hi, natOf cap mx with
  | some l, some h, some mm => if l ≤ h ∧ h ≤ mm ∧ mm ≤ cap ∧ (mx.isSome → hi.isSome) then some (l, h, mm) else none
  | _, _, _ => none
def OptRel (κ : K) (a : Option AV) (b : Option Value) : Prop := match a, b with
  | none, none => True
  | some x, some y => Rel κ x y
  | _, _ => False
theorem run_sliceBound {k : IntKind} {i : Int} {y : Nat} {c : BoundsCode} (h0 : 0 ≤ i) (h1 : i ≤ y) : (Instr.sliceBound (.int k i) y c).run P w = .ok i.toNat w := by
  simp [Instr.sliceBound, asIntOf, h0, h1]
theorem run_low {clo : Option Value} {h l X : Nat} {c : BoundsCode} : (match clo with | some v => Instr.sliceBound v h c | none => pure 0 : Sem Nat).run P w = .ok l w →
    (match clo with | some v => (do let l ← Instr.sliceBound v h c; pure (l, h, X)) | none => (do let l ← pure 0; pure (l, h, X)) : Sem (Nat × Nat × Nat)).run P w = .ok (l, h, X) w := by
  intro this
  cases clo with
  | none => simp only [Sem.run_pure, Result.ok.injEq] at this; obtain ⟨rfl, _⟩ := this; rfl
  | some v => simp only at this ⊢; simp only [Sem.run_bind, this, Result.andThen_ok, Sem.run_pure]
theorem boundsA_sound {isS : Bool} {len cap cap' : Nat} {lo hi mx : Option AV} {l h mm : Nat} (hb : boundsA len cap lo hi mx = some (l, h, mm)) (hlc : len ≤ cap) (hc : cap ≤ cap') {clo chi cmx : Option Value}
    (h1 : OptRel κ lo clo) (h2 : OptRel κ hi chi) (h3 : OptRel κ mx cmx) :
    ∃ m', (∀ w, (Instr.sliceBounds isS len cap' clo chi cmx).run P w = .ok (l, h, m') w) ∧ l ≤ h ∧ h ≤ mm ∧ mm ≤ cap ∧ ((mx = none ∧ mm = cap ∧ m' = cap') ∨ (mx ≠ none ∧ m' = mm)) := by
  unfold boundsA at hb
  split at hb
  · rename_i l' h' mm' e1 e2 e3
    split at hb
    · rename_i hh
      cases hb
      obtain ⟨g1, g2, g3, g4⟩ := hh
      have L : ∀ w y c, h ≤ y → (match clo with | some v => Instr.sliceBound v h c | none => pure 0 : Sem Nat).run P w = .ok l w := fun w y c hy => by
        cases lo with
        | none => cases clo with
          | none => simp only [natOf] at e1; cases e1; rfl
          | some _ => exact h1.elim
        | some a => cases clo with
          | none => exact h1.elim
          | some v =>
            unfold natOf at e1
            split at e1
            · cases ‹some a = none›
            · rename_i k i ea
              cases ea
              split at e1
              · cases e1
                obtain ⟨rfl, _⟩ := Rel.val_inv h1
                exact run_sliceBound (by assumption) (by omega)
              · cases e1
            · cases e1
      cases mx with
      | none =>
        cases cmx with
        | some _ => exact h3.elim
        | none =>
          simp only [natOf] at e3; cases e3
          refine ⟨cap', fun w => ?_, g1, g2, g3, .inl ⟨rfl, rfl, rfl⟩⟩
          cases hi with
          | none => cases chi with
            | some _ => exact h2.elim
            | none =>
              simp only [natOf] at e2; cases e2
              have := L w cap' .sliceB (by omega)
              simp only [Instr.sliceBounds, Sem.run_bind, Sem.run_pure, Result.andThen_ok, Option.isSome_none, Bool.false_eq_true, if_false]
              exact run_low this
          | some b => cases chi with
            | none => exact h2.elim
            | some v =>
              unfold natOf at e2
              split at e2
              · cases ‹some b = none›
              · rename_i k i ea
                cases ea
                split at e2
                · cases e2
                  obtain ⟨rfl, _⟩ := Rel.val_inv h2
                  have := L w cap' .sliceB (by omega)
                  simp only [Instr.sliceBounds, Sem.run_bind, Sem.run_pure, Result.andThen_ok, Option.isSome_none, Bool.false_eq_true, if_false]
                  rw [run_sliceBound (by assumption) (by omega)]
                  simp only [Result.andThen_ok]
                  exact run_low this
                · cases e2
              · cases e2
      | some a =>
        cases cmx with
        | none => exact h3.elim
        | some vm =>
          unfold natOf at e3
          split at e3
          · cases ‹some a = none›
          · rename_i k i ea
            cases ea
            split at e3
            · rename_i hi0
              cases e3
              obtain ⟨rfl, _⟩ := Rel.val_inv h3
              refine ⟨i.toNat, fun w => ?_, g1, g2, g3, .inr ⟨by simp, rfl⟩⟩
              cases hi with
              | none => simp at g4
              | some b => cases chi with
                | none => exact h2.elim
                | some v =>
                  unfold natOf at e2
                  split at e2
                  · cases ‹some b = none›
                  · rename_i k' i' ea
                    cases ea
                    split at e2
                    · cases e2
                      obtain ⟨rfl, _⟩ := Rel.val_inv h2
                      have := L w cap' .slice3C (by omega)
                      simp only [Instr.sliceBounds, Sem.run_bind, Sem.run_pure, Result.andThen_ok, Option.isSome_some, if_true]
                      rw [run_sliceBound hi0 (by omega)]
                      simp only [Result.andThen_ok]
                      rw [run_sliceBound (by assumption) (by omega)]
                      simp only [Result.andThen_ok]
                      exact run_low this
                    · cases e2
                  · cases e2
            · cases e3
          · cases e3
    · cases hb
  · cases hb
end Go.Abs
