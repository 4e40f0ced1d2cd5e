/- The abstract layer, ninth part: stores, new blocks, appending, copying. -/
import Derived.Test.YteilhoojlcpbpaaA8
import Derived.Laws.AppendOwn
set_option linter.unusedVariables false
set_option linter.unusedSimpArgs false
namespace Go.Abs
variable {P : Program} {κ : K} {m : Mem} {w : World}

/-! ### Stores -/
def storeA (P : Program) (m : Mem) (t : TypeId) (a v : AV) : Option Mem :=
  match a with
  | .ptr n off => match m n, ti P t, v.cells with
    | some (.cells opn bt cs), some i, some vs => if vs.length = i.size ∧ off + vs.length ≤ cs.length ∧ 0 < vs.length then some (m.set n (.cells opn bt (setRange cs off vs))) else none
    | _, _, _ => none
  | _ => none

theorem Sim.cells (hs : Sim P κ m w) {n : Nat} {opn : Bool} {t : TypeId} {cs : List AV} (hm : m n = some (.cells opn t cs)) (h0 : 0 < cs.length) :
    ∃ l, κ.rho n = some (some l) ∧ BlkOK P κ w l (.cells opn t cs) ∧ ∀ o, κ.prot l.blk o = none := by
  rcases hs.blk n _ hm with h | ⟨_, t', e⟩
  · exact h
  · cases e; simp at h0

/-- A row of values over the cells of an own block. -/
theorem store_cells (hs : Sim P κ m w) {n : Nat} {opn : Bool} {bt : TypeId} {cs : List AV} {l : Loc} (hm : m n = some (.cells opn bt cs)) (hl : κ.rho n = some (some l)) {off : Nat} {vs : List AV} (hfit : off + vs.length ≤ cs.length)
    {ca : Array Value} (hv : Rels κ vs ca) (h1 : ∀ u ∈ ca.toList, u.oneCell' = true) :
    ∃ w', (storeCells ⟨l.blk, l.base + off, none⟩ ca.toList).run P w = .ok () w' ∧ Step P κ m w κ (m.set n (.cells opn bt (setRange cs off vs))) w' := by
  rcases hs.blk n _ hm with ⟨l', e1, e2, e3⟩ | ⟨e1, _⟩
  · rw [hl] at e1; cases e1
    obtain ⟨arr, t', fz, z1, z2, z3, z4, z5, z6, z7⟩ := e2
    have hlen : ca.toList.length = vs.length := by simp [hv.1]
    have hfit' : l.base + off + 0 + ca.toList.length ≤ arr.size := by rw [hlen]; omega
    obtain ⟨w', g1, g2, g3⟩ := run_storeCells' P l.blk t' fz (l.base + off) ca.toList 0 arr w z1 (fun k hk => z2 k (Nat.le_of_lt hk)) hfit' h1
    refine ⟨w', g1, Step.change hs (by rw [hm]; simp) hl e3 g3 _ ?_⟩
    refine ⟨_, t', fz, g2, ?_, ?_, ?_, z5, z6, ?_⟩
    · rw [overwrite_size]; exact z2
    · rw [setRange_length _ _ _ hfit]; exact z3
    · rw [overwrite_size]; exact z4
    · intro i hi
      rw [setRange_length _ _ _ hfit] at hi
      have e := overwrite_get ca.toList arr (l.base + off + 0) hfit' (l.base + i)
      have e' := setRange_get cs off vs hfit i
      have hi' : i < (setRange cs off vs).length := by rw [setRange_length _ _ _ hfit]; exact hi
      rw [List.getElem?_eq_getElem hi'] at e'
      by_cases hc : off ≤ i ∧ i < off + vs.length
      · rw [if_pos hc] at e'
        rw [if_pos (by rw [hlen]; omega)] at e
        have i1 : i - off < vs.length := by omega
        have i2 : i - off < ca.size := by rw [← hv.1]; exact i1
        have i3 : l.base + i - (l.base + off + 0) = i - off := by omega
        rw [i3, Array.getElem?_toList, Array.getElem?_eq_getElem i2] at e
        rw [List.getElem?_eq_getElem i1] at e'
        exact ⟨_, e, by rw [Option.some.inj e']; exact hv.2 _ i1 i2⟩
      · rw [if_neg hc] at e'
        rw [if_neg (by rw [hlen]; omega)] at e
        rw [List.getElem?_eq_getElem hi] at e'
        obtain ⟨cv, y1, y2⟩ := z7 i hi
        exact ⟨cv, e.trans y1, by rw [Option.some.inj e']; exact y2⟩
  · rw [hl] at e1; cases e1

theorem storeA_sound (hs : Sim P κ m w) {t : TypeId} {a v : AV} {m' : Mem} (h : storeA P m t a v = some m') {ca cv : Value} (ha : Rel κ a ca) (hv : Rel κ v cv) :
    ∃ w', (Instr.storeAt t ca cv).run P w = .ok () w' ∧ Step P κ m w κ m' w' := by
  unfold storeA at h
  split at h
  · rename_i n off
    split at h
    · rename_i opn bt cs i vs hm hi hvs
      split at h
      · rename_i hc
        cases h
        obtain ⟨l, hl, _⟩ := hs.cells hm (by omega)
        cases ha with
        | ptr hr =>
          rw [hl] at hr; cases hr
          obtain ⟨g1, g2⟩ := hv.cells hvs
          obtain ⟨w', g3, g4⟩ := store_cells hs hm hl hc.2.1 g1 g2
          refine ⟨w', ?_, g4⟩
          have hsz : ¬ (cv.cells.size ≠ i.size) := by rw [← g1.1]; simpa using hc.1
          simp only [Instr.storeAt, Instr.sureAddr, storeVar, Sem.run_bind, Sem.run_pure, Result.andThen_ok, run_sizeOf hi, if_neg hsz]
          exact g3
      · cases h
    · cases h
  · cases h

/-! ### New blocks -/
theorem heap_alloc_new' (w : World) (o : Obj) : (w.alloc o).heap[w.heap.size]? = some o := by show (w.heap.push o)[w.heap.size]? = _; simp
/-- A new row of cells, of the run's own. -/
theorem new_cells (hs : Sim P κ m w) {n : Nat} (hm : m n = none) (hr : κ.rho n = none) {opn : Bool} {t : TypeId} {cs : List AV} {ca : Array Value} (hc : Rels κ cs ca) (ext : Nat) (rest : Array Value)
    (h0 : opn = false → ext = 0) (hrest : ext * P.cellsOf t ≤ rest.size) {fz : Nat × Nat} (hfz : ∀ i, i ≤ (ca ++ rest).size → ¬ (fz.1 ≤ i ∧ i < fz.2)) {w' : World} (hb : But w w' w.heap.size)
    (hw' : w'.heap[w.heap.size]? = some (.cells (ca ++ rest) t fz)) :
    Step P κ m w (κ.add n ⟨w.heap.size, 0, P.cellsOf t, cs.length, ext⟩) (m.set n (.cells opn t cs)) w' := by
  refine Step.alloc hs hm hr (Nat.le_refl _) (Array.getElem?_eq_some_iff.1 hw').1 hb _ ?_
  refine ⟨_, t, fz, hw', hfz, rfl, ?_, h0, fun _ => rfl, fun i hi => ?_⟩
  · have : cs.length = ca.size := hc.1
    simp only [Array.size_append]; omega
  · have hi' : i < ca.size := hc.1 ▸ hi
    refine ⟨ca[i], by rw [Nat.zero_add, Array.getElem?_append_left hi', Array.getElem?_eq_getElem hi'], (hc.2 i hi hi').mono (K.le_add hr)⟩

theorem new_box (hs : Sim P κ m w) {t : TypeId} {cs : List AV} {ca : Array Value} (hc : Rels κ cs ca) :
    ∃ n, m n = none ∧ ∃ κ', Step P κ m w κ' (m.set n (.cells false t cs)) (w.alloc (.cells ca t)) ∧ Rel κ' (.ptr n 0) (.pointer (some ⟨w.heap.size, 0, none⟩)) := by
  obtain ⟨n, hr, hm⟩ := hs.fresh
  refine ⟨n, hm, κ.add n ⟨w.heap.size, 0, P.cellsOf t, cs.length, 0⟩, ?_, ?_⟩
  · exact new_cells hs hm hr hc 0 #[] (fun _ => rfl) (by simp) (fz := (0, 0)) (fun i _ => by simp) (But.alloc w _ _) (by rw [heap_alloc_new']; simp)
  · have := @Rel.ptr (κ.add n ⟨w.heap.size, 0, P.cellsOf t, cs.length, 0⟩) n 0 _ (K.add_same ..)
    simpa using this

/-- New cells that no one will write: a literal that is only read. -/
theorem new_lit (hs : Sim P κ m w) {t : TypeId} {es : List (List AV)} {s : Nat} (hl : ∀ e ∈ es, e.length = s) {ca : Array Value} (hc : Rels κ es.flatten ca) :
    ∃ κ', Step P κ m w κ' m (w.alloc (.cells ca t)) ∧ Rel κ' (.vs es true) (.slice (some ⟨w.heap.size, 0, none⟩) es.length es.length) := by
  have hst := Step.protect (P := P) (m := m) (w := w) (w' := w.alloc (.cells ca t)) hs (c := w.heap.size) (f := fun o => ca[o]?) (But.alloc w _ _) (Nat.le_refl _) (fun o v h => by
    simp only [World.cell?, heap_alloc_new']
    simpa using h)
  refine ⟨_, hst, ?_⟩
  have key : ∀ i j, i < es.length → j < s → ∃ (h : i * s + j < es.flatten.length), ∃ (hi : i < es.length) (hj : j < es[i].length), es.flatten[i * s + j] = es[i][j] := by
    clear hc hst hs
    intro i j hi hj
    induction es generalizing i with
    | nil => simp at hi
    | cons e es ih =>
      have he : e.length = s := hl e (by simp)
      cases i with
      | zero =>
        refine ⟨by simp [he]; omega, by simp, by simpa [he] using hj, ?_⟩
        simp only [List.flatten_cons, Nat.zero_mul, Nat.zero_add, List.getElem_cons_zero]
        rw [List.getElem_append_left (by omega)]
      | succ i =>
        obtain ⟨h1, h2, h3, h4⟩ := ih (fun x hx => hl x (by simp [hx])) i (by simpa using hi)
        refine ⟨by simp only [List.flatten_cons, List.length_append, he]; rw [Nat.add_mul]; omega, hi, by simpa using h3, ?_⟩
        simp only [List.flatten_cons, List.getElem_cons_succ]
        rw [List.getElem_append_right (by rw [he, Nat.add_mul]; omega)]
        have : (i + 1) * s + j - e.length = i * s + j := by rw [he, Nat.add_mul]; omega
        simp only [this]
        exact h4
  refine @Rel.vs _ es true w.heap.size 0 s es.length (fun i j => (ca[i * s + j]?).getD (.bool false)) hl (Nat.le_refl _) (fun _ => rfl) (fun i j hi hj => ?_) (fun i hi j hj => ?_)
  · obtain ⟨h1, h2, h3, h4⟩ := key i j hi hj
    have h5 : i * s + j < ca.size := by rw [← hc.1]; exact h1
    rw [Nat.zero_add]
    simp only [Array.getElem?_eq_getElem h5, Option.getD_some]
    exact K.protect_same _ (by simp [h5])
  · have hjs : j < s := by rw [← hl _ (List.getElem_mem hi)]; exact hj
    obtain ⟨h1, h2, h3, h4⟩ := key i j hi hjs
    have h5 : i * s + j < ca.size := by rw [← hc.1]; exact h1
    simp only [Array.getElem?_eq_getElem h5, Option.getD_some]
    rw [← h4]
    exact (hc.2 _ h1 h5).mono hst.le

/-! ### A literal slice -/
def litA (P : Program) (t : TypeId) (len : Nat) (parts : List (Nat × AV)) : Option (TypeId × Nat × List AV) :=
  match ti P t with
  | some i => match i.desc with
    | .slice e => match ti P e, zeroA P e with
      | some j, some z => if z.length = j.size ∧ 0 < j.size ∧ len * j.size ≤ 16777216 then
          (match fillA (fun k => some (k * j.size, j.size)) (List.replicate len z).flatten parts with
          | some cs => some (e, j.size, cs)
          | none => none) else none
      | _, _ => none
    | _ => none
  | none => none
theorem replicate_flatten_get (z : List AV) (hz : 0 < z.length) : ∀ (n k : Nat) (h : k < n * z.length), ∃ h1 h2, (List.replicate n z).flatten[k]'h1 = z[k % z.length]'h2
  | 0, k, h => by simp at h
  | n + 1, k, h => by
    have hm := Nat.mod_lt k hz
    by_cases hk : k < z.length
    · refine ⟨by simp only [List.length_flatten, List.map_replicate, List.sum_replicate_nat]; rw [Nat.add_mul] at h ⊢; omega, hm, ?_⟩
      simp only [List.replicate_succ, List.flatten_cons]
      rw [List.getElem_append_left hk]
      congr 1; exact (Nat.mod_eq_of_lt hk).symm
    · obtain ⟨h1, h2, h3⟩ := replicate_flatten_get z hz n (k - z.length) (by rw [Nat.add_mul] at h; omega)
      refine ⟨by simpa [Nat.add_mul] using h, hm, ?_⟩
      simp only [List.replicate_succ, List.flatten_cons]
      rw [List.getElem_append_right (by omega), h3]
      congr 1
      exact (Nat.mod_eq_sub_mod (by omega)).symm
theorem rels_zeros {z : List AV} {zc : Array Value} (hz : Rels κ z zc) (h0 : 0 < z.length) (n : Nat) : Rels κ (List.replicate n z).flatten ((Array.range (n * z.length)).map (zc[· % zc.size]!)) := by
  refine ⟨by simp, fun i h h' => ?_⟩
  simp only [Array.size_map, Array.size_range] at h'
  obtain ⟨h1, h2, h3⟩ := replicate_flatten_get z h0 n i h'
  rw [h3]
  simp only [Array.getElem_map, Array.getElem_range]
  have : i % zc.size < zc.size := Nat.mod_lt _ (by rw [← hz.1]; exact h0)
  rw [getElem!_pos zc _ this]
  have e : z.length = zc.size := hz.1
  have := hz.2 (i % z.length) h2 (by rw [e]; exact this)
  simpa [e] using this
theorem litA_sound {t : TypeId} {len : Nat} {parts : List (Nat × AV)} {e : TypeId} {s : Nat} {cs : List AV} (h : litA P t len parts = some (e, s, cs)) {cparts : Array (Nat × Value)} (hl : parts.length = cparts.size)
    (hp : ∀ i (h : i < parts.length) (h' : i < cparts.size), parts[i].1 = cparts[i].1 ∧ Rel κ parts[i].2 cparts[i].2) :
    ∃ ca, Rels κ cs ca ∧ ∀ w, (Instr.buildSlice t len cparts).run P w = .ok (.slice (some ⟨w.heap.size, 0, none⟩) len len) (w.alloc (.cells ca e)) := by
  unfold litA at h
  split at h
  · rename_i i hi
    split at h
    · rename_i e' hd
      split at h
      · rename_i j z hj hz
        split at h
        · rename_i hc
          split at h
          · rename_i cs' hcs
            cases h
            obtain ⟨zv, z1, z2, _⟩ := zeroA_sound (κ := κ) hz
            have hz2 := rels_zeros z2 (by omega) len
            obtain ⟨cr, g1, g2⟩ := fillA_sound (κ := κ) _ parts _ cs hcs cparts.toList _ hz2 (by simpa using hl) (fun k a b => by simpa using hp k a (by simpa using b))
            refine ⟨cr, g2, fun w => ?_⟩
            rw [hc.1] at g1
            have hbig : ¬ (len * j.size > 2 ^ 24) := by have := hc.2.2; omega
            simp only [Instr.buildSlice, Sem.run_bind, run_underlying' hi, hd, Result.andThen_ok, run_sizeOf hj, if_neg hbig, Sem.run_pure]
            by_cases h0 : len * j.size = 0
            · simp only [h0, if_true] at g1 ⊢
              simp only [Array.range_zero', List.map_toArray, List.map_nil] at g1
              simp only [Sem.run_bind, Sem.run_pure, Result.andThen_ok, Array.range_zero', List.map_toArray, List.map_nil, g1]
              rfl
            · rw [if_neg h0]
              simp only [Sem.run_bind, z1, Result.andThen_ok, Sem.run_pure]
              rw [g1]
              rfl
          · cases h
        · cases h
      · cases h
    · cases h
  · cases h
end Go.Abs
