/- The abstract layer, twentieth part: the bridge to the rows: what a law's arguments are read as, and how a pure contract closes its row. -/
import Derived.Test.YteilhoojlcpbpaaA19
import Derived.WalkKit
import Derived.ProofKit
import Derived.OpenShut
import Derived.ChangeOld
import Derived.Below
import Derived.Carry
import Derived.SizedLaws
set_option linter.unusedVariables false
set_option linter.unusedSimpArgs false
namespace Go.Abs
open Go.RowKit Go.ChangeShapes Go.WideShapes
variable {P : Program}

/-- All cells that lie there are told for good. -/
def K.of (w : World) : K := ⟨fun c o => w.cell? ⟨c, o, none⟩, fun _ => none⟩
theorem Sim.of (P : Program) (w : World) : Sim P (K.of w) nomem w :=
  ⟨fun _ _ _ h => h, (fun _ _ h => by cases h), (fun _ _ h => by cases h), fun _ _ _ _ _ h => absurd rfl h, ⟨0, fun _ _ => ⟨rfl, rfl⟩⟩⟩

/-- What a reading of a type looks like (kinds that are not told: nothing is said). -/
def Shape (P : Program) : Nat → TypeId → List AV → Prop
  | 0, _, _ => False
  | n + 1, t, cs => match P.underlying t with
    | some .bool => ∃ b, cs = [.val (.bool b)]
    | some (.int k) => ∃ x, cs = [.val (.int k x)] ∧ (Lit.int k x).wf = true
    | some .string => ∃ s : ByteArray, cs = [.val (.string s)] ∧ s.size ≤ reachBytes
    | some (.slice e) => 0 < P.cellsOf e → ∃ es, cs = [.vs es false] ∧ es.length * P.bytesOf e ≤ reachBytes ∧ es.length ≤ maxLen ∧ ∀ x ∈ es, x.length = P.cellsOf e ∧ Shape P n e x
    | some (.struct fs) => cs.length = P.cellsOf t ∧ ∀ f ∈ fs.toList, Shape P n f.type ((cs.drop f.offset).take (P.cellsOf f.type))
    | some (.array k e) => cs.length = P.cellsOf t ∧ ∀ i, i < k → Shape P n e ((cs.drop (i * P.cellsOf e)).take (P.cellsOf e))
    | _ => True
def Shaped (P : Program) (t : TypeId) (cs : List AV) : Prop := ∃ n, Shape P n t cs

section
variable {t : TypeId} {cs : List AV}
theorem Shaped.bool (hu : P.underlying t = some .bool) (h : Shaped P t cs) : ∃ b, cs = [.val (.bool b)] := by
  obtain ⟨n, h⟩ := h
  cases n with
  | zero => exact h.elim
  | succ n => simpa only [Shape, hu] using h
theorem Shaped.int {k : IntKind} (hu : P.underlying t = some (.int k)) (h : Shaped P t cs) : ∃ x, cs = [.val (.int k x)] ∧ (Lit.int k x).wf = true := by
  obtain ⟨n, h⟩ := h
  cases n with
  | zero => exact h.elim
  | succ n => simpa only [Shape, hu] using h
theorem Shaped.string (hu : P.underlying t = some .string) (h : Shaped P t cs) : ∃ s : ByteArray, cs = [.val (.string s)] ∧ s.size ≤ reachBytes := by
  obtain ⟨n, h⟩ := h
  cases n with
  | zero => exact h.elim
  | succ n => simpa only [Shape, hu] using h
theorem Shaped.slice {e : TypeId} (hu : P.underlying t = some (.slice e)) (h0 : Nat.ble 1 (P.cellsOf e) = true) (h : Shaped P t cs) :
    ∃ es, cs = [.vs es false] ∧ es.length * P.bytesOf e ≤ reachBytes ∧ es.length ≤ maxLen ∧ ∀ x ∈ es, x.length = P.cellsOf e ∧ Shaped P e x := by
  obtain ⟨n, h⟩ := h
  cases n with
  | zero => exact h.elim
  | succ n =>
    simp only [Shape, hu] at h
    obtain ⟨es, h1, h2, h3, h4⟩ := h (Nat.le_of_ble_eq_true h0)
    exact ⟨es, h1, h2, h3, fun x hx => ⟨(h4 x hx).1, n, (h4 x hx).2⟩⟩
theorem Shaped.struct {fs : Array Field} (hu : P.underlying t = some (.struct fs)) (h : Shaped P t cs) :
    cs.length = P.cellsOf t ∧ ∀ f ∈ fs.toList, Shaped P f.type ((cs.drop f.offset).take (P.cellsOf f.type)) := by
  obtain ⟨n, h⟩ := h
  cases n with
  | zero => exact h.elim
  | succ n =>
    simp only [Shape, hu] at h
    exact ⟨h.1, fun f hf => ⟨n, h.2 f hf⟩⟩
theorem Shaped.array {k : Nat} {e : TypeId} (hu : P.underlying t = some (.array k e)) (h : Shaped P t cs) :
    cs.length = P.cellsOf t ∧ ∀ i, i < k → Shaped P e ((cs.drop (i * P.cellsOf e)).take (P.cellsOf e)) := by
  obtain ⟨n, h⟩ := h
  cases n with
  | zero => exact h.elim
  | succ n =>
    simp only [Shape, hu] at h
    exact ⟨h.1, fun i hi => ⟨n, h.2 i hi⟩⟩
end

theorem mapM_get' {α β : Type} {f : α → Option β} : ∀ {l : List α} {r : List β}, l.mapM f = some r → r.length = l.length ∧ ∀ i (h : i < l.length) (h' : i < r.length), f l[i] = some r[i]
  | [], r, h => by simp at h; subst h; exact ⟨rfl, fun i h => by simp at h⟩
  | x :: l, r, h => by
    simp only [List.mapM_cons, Option.bind_eq_bind, Option.bind_eq_some_iff, Option.pure_def, Option.some.injEq] at h
    obtain ⟨y, h1, r', h2, rfl⟩ := h
    obtain ⟨g1, g2⟩ := mapM_get' h2
    refine ⟨by simp [g1], fun i a b => ?_⟩
    cases i with
    | zero => exact h1
    | succ i => exact g2 i (by simpa using a) (by simpa using b)

section
variable {H : Type} {enc : TypeId × Value → H} {w : World}
theorem weightsAll_mem {e : TypeId} : ∀ {l : List (DataW H)} {d : DataW H}, d ∈ l → ∀ n ∈ d.weights P e, n ∈ DataW.weightsAll P e l
  | x :: l, d, hd, n, hn => by
    simp only [DataW.weightsAll, List.mem_append]
    rcases List.mem_cons.1 hd with rfl | hd
    · exact .inl hn
    · exact .inr (weightsAll_mem hd n hn)
def light (P : Program) (t : TypeId) (d : DataW H) : Prop := ∀ n ∈ d.weights P t, n ≤ reachBytes
theorem cells_get {base : Nat} {a : Addr} {n : Nat} {cs : List Value} (h : w.cells? base a n = some cs) : cs.length = n ∧ ∀ i (h : i < cs.length), w.cell? (a.add i) = some cs[i] := by
  unfold World.cells? at h
  split at h
  · obtain ⟨g1, g2⟩ := mapM_get' h
    refine ⟨by simpa using g1, fun i hi => ?_⟩
    have := g2 i (by simp at g1; simp; omega) hi
    simpa using this
  · cases h
theorem cell_spot {a : Addr} {v : Value} (h : w.cell? a = some v) : a.spot = none := by
  unfold World.cell? at h
  split at h
  · split at h
    · cases h
    · rename_i h'; simpa using h'
  · cases h
def Rels' (κ : K) (as : List AV) (cs : List Value) : Prop := as.length = cs.length ∧ ∀ i (h : i < as.length) (h' : i < cs.length), Rel κ as[i] cs[i]
theorem Rels'.junk (κ : K) (cs : List Value) : Rels' κ (List.replicate cs.length .junk) cs := ⟨by simp, fun i a b => by simp only [List.getElem_replicate]; exact .junk⟩
theorem Rels'.one {κ : K} {a : AV} {c : Value} (h : Rel κ a c) : Rels' κ [a] [c] := ⟨rfl, fun i a b => by
  have : i = 0 := by simpa using a
  subst this; exact h⟩
theorem Rels'.part {κ : K} {as : List AV} {cs : List Value} (h : Rels' κ as cs) (o n : Nat) : Rels' κ ((as.drop o).take n) ((cs.drop o).take n) :=
  ⟨by simp [h.1], fun i a b => by
    simp only [List.getElem_take, List.getElem_drop]
    exact h.2 _ _ _⟩

theorem Rels'.append {κ : K} {as bs : List AV} {cs ds : List Value} (h : Rels' κ as cs) (h' : Rels' κ bs ds) : Rels' κ (as ++ bs) (cs ++ ds) := by
  refine ⟨by simp [h.1, h'.1], fun i a b => ?_⟩
  by_cases hi : i < as.length
  · rw [List.getElem_append_left hi, List.getElem_append_left (h.1 ▸ hi)]; exact h.2 _ _ _
  · rw [List.getElem_append_right (by omega), List.getElem_append_right (by rw [← h.1]; omega)]
    simp only [h.1]
    exact h'.2 _ _ _
/-- Parts side by side. -/
abbrev Piece := Nat × (List AV → Prop)
theorem join_parts {κ : K} : ∀ (l : List Piece) (cs : List Value), cs.length = (l.map (·.1)).sum →
    (∀ (j : Nat) (p : Piece), l[j]? = some p → ∃ as, Rels' κ as ((cs.drop ((l.take j).map (·.1)).sum).take p.1) ∧ p.2 as) → ∃ as, Rels' κ as cs ∧ ∀ (j : Nat) (p : Piece), l[j]? = some p → p.2 ((as.drop ((l.take j).map (·.1)).sum).take p.1)
  | [], cs, hl, _ => ⟨[], ⟨by simpa using hl.symm, fun i h => by simp at h⟩, fun j p h => by simp at h⟩
  | q :: l, cs, hl, h => by
    simp only [List.map_cons, List.sum_cons] at hl
    obtain ⟨as0, g1, g2⟩ := h 0 q rfl
    simp only [List.take_zero, List.map_nil, List.sum_nil, List.drop_zero] at g1
    obtain ⟨as1, k1, k2⟩ := join_parts l (cs.drop q.1) (by simp; omega) (fun j p hj => by
      obtain ⟨as, a1, a2⟩ := h (j + 1) p (by simpa using hj)
      simp only [List.take_succ_cons, List.map_cons, List.sum_cons] at a1
      exact ⟨as, by rw [List.drop_drop]; exact a1, a2⟩)
    have hlen : as0.length = q.1 := by rw [g1.1]; simp; omega
    refine ⟨as0 ++ as1, ?_, fun j p hj => ?_⟩
    · have := g1.append k1
      rwa [List.take_append_drop] at this
    · cases j with
      | zero =>
        simp only [List.getElem?_cons_zero, Option.some.injEq] at hj
        subst hj
        simp only [List.take_zero, List.map_nil, List.sum_nil, List.drop_zero]
        rw [List.take_append_of_le_length (by omega), List.take_of_length_le (by omega)]
        exact g2
      | succ j =>
        simp only [List.take_succ_cons, List.map_cons, List.sum_cons]
        rw [← hlen]
        have e : ∀ s, (as0 ++ as1).drop (as0.length + s) = as1.drop s := fun s => by
          rw [List.drop_append, List.drop_eq_nil_of_le (by omega), List.nil_append]; congr 1; omega
        rw [e]
        exact k2 j p (by simpa using hj)
theorem shape_of_trod (hl : laidOutB P = true) : ∀ (fuel : Nat) (t : TypeId) (cs : List Value) (d : DataW H) (ps : List MemPlace), t < P.types.size → DataW.trod enc P w 0 (fun _ => true) true fuel t cs = some (d, ps) → light P t d →
    ∃ as, Rels' (K.of w) as cs ∧ Shape P fuel t as
  | 0, t, cs, d, ps, ht, h, hw => by simp [DataW.trod] at h
  | n + 1, t, cs, d, ps, ht, h, hw => by
    have ih := shape_of_trod hl n
    have junk : (Shape P (n + 1) t (List.replicate cs.length .junk)) → ∃ as, Rels' (K.of w) as cs ∧ Shape P (n + 1) t as := fun h => ⟨_, Rels'.junk _ cs, h⟩
    cases hu : P.underlying t with
    | none => exact junk (by simp only [Shape, hu])
    | some k =>
      cases k with
      | bool =>
        unfold DataW.trod at h
        rw [hu] at h
        match cs, h with
        | [.bool b], h => exact ⟨[.val (.bool b)], Rels'.one (.val rfl), by simp only [Shape, hu]; exact ⟨_, rfl⟩⟩
      | int k =>
        unfold DataW.trod at h
        rw [hu] at h
        match cs, h with
        | [.int k' x], h =>
          simp only at h
          split at h
          · rename_i hk
            obtain ⟨rfl, hk⟩ := hk
            exact ⟨[.val (.int _ x)], Rels'.one (.val rfl), by simp only [Shape, hu]; exact ⟨_, rfl, hk⟩⟩
          · cases h
      | string =>
        unfold DataW.trod at h
        rw [hu] at h
        match cs, h with
        | [.string s], h =>
          simp only at h
          split at h
          · cases h
            refine ⟨[.val (.string s)], Rels'.one (.val rfl), ?_⟩
            simp only [Shape, hu]
            exact ⟨_, rfl, hw _ (by simp [DataW.weights])⟩
          · cases h
      | slice e =>
        unfold DataW.trod at h
        rw [hu] at h
        have he : e < P.types.size := kid_slice hl ht hu
        match cs, h with
        | [.slice none 0 0], h =>
          refine ⟨[.vs [] false], Rels'.one .vnil, ?_⟩
          simp only [Shape, hu]
          exact fun _ => ⟨[], rfl, by simp, by simp, fun x h => by simp at h⟩
        | [.slice (some a) len cap], h =>
          simp only at h
          split at h
          · rename_i hc
            obtain ⟨_, hlc, hcm⟩ := hc
            by_cases hs : 0 < P.cellsOf e
            · simp only [if_true, Option.bind_eq_some_iff, Option.map_eq_some_iff] at h
              obtain ⟨elems, hE, rest, hR, h⟩ := h
              obtain ⟨rfl, rfl⟩ := Prod.mk.inj h
              obtain ⟨e1, e2⟩ := mapM_get' hE
              obtain ⟨r1, r2⟩ := mapM_get' hR
              simp only [List.length_range] at e1 r1
              have spot : 0 < cap → a.spot = none := fun h0 => by
                rcases Nat.eq_zero_or_pos len with hlen | hlen
                · have := r2 0 (by simp; omega) (by omega)
                  simp only [List.getElem_range, Option.bind_eq_some_iff] at this
                  obtain ⟨cl, g1, g2⟩ := this
                  obtain ⟨g3, g4⟩ := cells_get g1
                  have := g4 0 (by omega)
                  simp only [hlen, Nat.add_zero, Nat.zero_mul, Addr.add, if_true] at this
                  exact cell_spot this
                · have := e2 0 (by simp; omega) (by omega)
                  simp only [List.getElem_range, Option.bind_eq_some_iff] at this
                  obtain ⟨cl, g1, g2⟩ := this
                  obtain ⟨g3, g4⟩ := cells_get g1
                  have := g4 0 (by omega)
                  simp only [Nat.zero_mul, Addr.add, if_true] at this
                  exact cell_spot this
              have hlight : ∀ x ∈ elems, light P e x.1 := fun x hx m hm => hw m (by
                simp only [DataW.weights, hu, List.mem_cons, List.mem_append]
                exact .inr (.inl (weightsAll_mem (List.mem_map.2 ⟨x, hx, rfl⟩) m hm)))
              have hbytes : len * P.bytesOf e ≤ reachBytes := by
                have := hw ((elems.length + rest.length) * P.bytesOf e) (by simp [DataW.weights, hu])
                refine Nat.le_trans (Nat.mul_le_mul_right _ ?_) this
                omega
              rcases Nat.eq_zero_or_pos cap with h0 | h0
              · have : len = 0 := by omega
                subst h0 this
                refine ⟨[.vs [] false], Rels'.one .vz, ?_⟩
                simp only [Shape, hu]
                exact fun _ => ⟨[], rfl, by simp, by simp, fun x h => by simp at h⟩
              · have hsp := spot h0
                obtain ⟨c, o, sp⟩ := a
                simp only at hsp
                subst hsp
                have each : ∀ i : Fin len, ∃ as : List AV, as.length = P.cellsOf e ∧ Shape P n e as ∧ ∀ j (hj : j < as.length), ∃ cv, w.cell? ⟨c, o + (i.1 * P.cellsOf e + j), none⟩ = some cv ∧ Rel (K.of w) as[j] cv := fun i => by
                  have := e2 i.1 (by simp) (by omega)
                  simp only [List.getElem_range, Option.bind_eq_some_iff] at this
                  obtain ⟨cl, g1, g2⟩ := this
                  obtain ⟨g3, g4⟩ := cells_get g1
                  obtain ⟨as, k1, k2⟩ := ih e cl _ _ he g2 (hlight _ (List.getElem_mem _))
                  refine ⟨as, k1.1.trans g3, k2, fun j hj => ⟨cl[j]'(k1.1 ▸ hj), ?_, k1.2 j hj _⟩⟩
                  have := g4 j (k1.1 ▸ hj)
                  rw [addr_plain, addr_plain] at this
                  rw [← this, Nat.add_assoc]
                let g : Fin len → List AV := fun i => Classical.choose (each i)
                have hg := fun i => Classical.choose_spec (each i)
                refine ⟨[.vs (List.ofFn g) false], Rels'.one ?_, ?_⟩
                · have hlen : (List.ofFn g).length = len := by simp
                  have := @Rel.vs (K.of w) (List.ofFn g) false c o (P.cellsOf e) cap (fun i j => (w.cell? ⟨c, o + (i * P.cellsOf e + j), none⟩).getD default)
                    (fun x hx => by obtain ⟨i, rfl⟩ := List.mem_ofFn.1 hx; exact (hg i).1) (by rw [hlen]; exact hlc) (fun h => by cases h)
                    (fun i j hi hj => by
                      rw [hlen] at hi
                      obtain ⟨cv, y1, _⟩ := (hg ⟨i, hi⟩).2.2 j (by rw [(hg ⟨i, hi⟩).1]; exact hj)
                      show w.cell? _ = _
                      simp only at y1
                      rw [y1]; rfl)
                    (fun i hi j hj => by
                      rw [hlen] at hi
                      have hge : (List.ofFn g)[i] = g ⟨i, hi⟩ := by simp
                      have hj' : j < (g ⟨i, hi⟩).length := by rw [← hge]; exact hj
                      obtain ⟨cv, y1, y2⟩ := (hg ⟨i, hi⟩).2.2 j hj'
                      simp only at y1
                      rw [y1]
                      simp only [hge, Option.getD_some]
                      exact y2)
                  rwa [hlen] at this
                · simp only [Shape, hu]
                  refine fun _ => ⟨_, rfl, by simpa using hbytes, by simp; omega, fun x hx => ?_⟩
                  obtain ⟨i, rfl⟩ := List.mem_ofFn.1 hx
                  exact ⟨(hg i).1, (hg i).2.1⟩
            · refine junk ?_
              simp only [Shape, hu]
              exact fun h => absurd h hs
          · cases h
      | struct fs =>
        unfold DataW.trod at h
        rw [hu] at h
        simp only at h
        obtain ⟨k1, k2, k3⟩ := kid_struct hl ht hu
        split at h
        · rename_i hlen
          simp only [Option.map_eq_some_iff] at h
          obtain ⟨xs, hX, h⟩ := h
          obtain ⟨rfl, rfl⟩ := Prod.mk.inj h
          obtain ⟨x1, x2⟩ := mapM_get' hX
          obtain ⟨as, g1, g2⟩ := join_parts (κ := K.of w) (fs.toList.map fun f => ((P.cellsOf f.type, Shape P n f.type) : Piece)) cs (by rw [List.map_map]; exact hlen.trans k2) (fun j p hj => by
            rw [List.getElem?_map, Option.map_eq_some_iff] at hj
            obtain ⟨f, hf, rfl⟩ := hj
            obtain ⟨hjl, hfe⟩ := List.getElem?_eq_some_iff.1 hf
            have := x2 j hjl (by omega)
            rw [hfe] at this
            have hoff := k3 j f hf
            have hx : light P f.type (xs[j]'(by omega)).1 := fun m hm => hw m (by
              simp only [DataW.weights, hu]
              exact DataW.weights_mem_each (j := j) (t := f.type) (d := (xs[j]'(by omega)).1) (by simp [List.getElem?_map, hf]) (by simp [List.getElem?_map, List.getElem?_eq_getElem (show j < xs.length by omega)]) m hm)
            obtain ⟨as, y1, y2⟩ := ih f.type _ _ _ (k1 f (List.mem_of_getElem? hf)) this hx
            refine ⟨as, ?_, y2⟩
            rw [hoff] at y1
            simpa [List.map_take, Function.comp_def] using y1)
          refine ⟨as, g1, ?_⟩
          simp only [Shape, hu]
          refine ⟨g1.1.trans hlen, fun f hf => ?_⟩
          obtain ⟨j, hjl, hfe⟩ := List.getElem_of_mem hf
          have hj : fs.toList[j]? = some f := by rw [List.getElem?_eq_getElem hjl, hfe]
          have := g2 j (P.cellsOf f.type, Shape P n f.type) (by rw [List.getElem?_map, hj]; rfl)
          rw [k3 j f hj]
          simpa [List.map_take, Function.comp_def] using this
        · cases h
      | array k e =>
        unfold DataW.trod at h
        rw [hu] at h
        simp only at h
        obtain ⟨k1, k2⟩ := kid_array hl ht hu
        split at h
        · rename_i hlen
          simp only [Option.map_eq_some_iff] at h
          obtain ⟨xs, hX, h⟩ := h
          obtain ⟨rfl, rfl⟩ := Prod.mk.inj h
          obtain ⟨x1, x2⟩ := mapM_get' hX
          simp only [List.length_range] at x1
          have hsum : ∀ j, j ≤ k → (((List.replicate k ((P.cellsOf e, Shape P n e) : Piece)).take j).map (·.1)).sum = j * P.cellsOf e := fun j hj => by
            rw [List.take_replicate, List.map_replicate, List.sum_replicate_nat, Nat.min_eq_left hj]
          obtain ⟨as, g1, g2⟩ := join_parts (κ := K.of w) (List.replicate k ((P.cellsOf e, Shape P n e) : Piece)) cs (by rw [List.map_replicate, List.sum_replicate_nat]; exact hlen.trans k2) (fun j p hj => by
            obtain ⟨hjl, hpe⟩ := List.getElem?_eq_some_iff.1 hj
            simp only [List.length_replicate] at hjl
            simp only [List.getElem_replicate] at hpe
            subst hpe
            have := x2 j (by simpa using hjl) (by omega)
            simp only [List.getElem_range] at this
            have hx : light P e (xs[j]'(by omega)).1 := fun m hm => hw m (by
              simp only [DataW.weights, hu]
              exact weightsAll_mem (List.mem_map.2 ⟨_, List.getElem_mem _, rfl⟩) m hm)
            obtain ⟨as, y1, y2⟩ := ih e _ _ _ k1 this hx
            exact ⟨as, by rw [hsum j (by omega)]; exact y1, y2⟩)
          refine ⟨as, g1, ?_⟩
          simp only [Shape, hu]
          refine ⟨g1.1.trans hlen, fun i hi => ?_⟩
          have := g2 i (P.cellsOf e, Shape P n e) (by rw [List.getElem?_replicate]; simp [hi])
          rw [hsum i (by omega)] at this
          exact this
        · cases h
      | _ => exact junk (by simp only [Shape, hu])
end
end Go.Abs
