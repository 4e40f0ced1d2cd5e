/- The abstract layer, seventh part: conversions, building, and all quiet operations in one function. -/
import Derived.Test.YteilhoojlcpbpaaA6
set_option linter.unusedVariables false
set_option linter.unusedSimpArgs false
namespace Go.Abs
variable {P : Program} {κ : K} {m : Mem} {w : World}

/-! ### Conversions -/
theorem run_convert_bytes_zero (w : World) (src e : TypeId) (hs : P.underlying src = some (.slice e)) (he : P.underlying e = some (.int .u8)) (a : Addr) (dst : TypeId) (hd : P.underlying dst = some .string) :
    (convert src dst (.slice (some a) 0 0)).run P w = .ok (.string (strOfNums [])) w := by
  have hl : (loadCells a 0).run P w = .ok #[] w := by simp [loadCells, loadCellsFrom]
  rw [run_convert_bytes_string w src dst e _ 0 0 hs he hd, run_bytesToString w _ 0 0 [] hl, foldl_push_bytes]
  rfl
def byteOfA : AV → Option Int
  | .val (.int .u8 x) => some x
  | _ => none
def byteOfE : List AV → Option Int
  | [.val (.int .u8 x)] => some x
  | _ => none
theorem mapM_get {α β : Type} (f : α → Option β) : ∀ (l : List α) (r : List β), l.mapM f = some r → r.length = l.length ∧ ∀ i (h : i < l.length) (h' : i < r.length), f l[i] = some r[i]
  | [], r, h => by simp at h; subst h; exact ⟨rfl, fun i h => by simp at h⟩
  | a :: l, r, h => by
    simp only [List.mapM_cons, Option.bind_eq_bind, Option.bind_eq_some_iff, Option.pure_def, Option.some.injEq] at h
    obtain ⟨b, h1, bs, h2, rfl⟩ := h
    obtain ⟨g1, g2⟩ := mapM_get f l bs h2
    refine ⟨by simp [g1], fun i h h' => ?_⟩
    cases i with
    | zero => exact h1
    | succ i => exact g2 i (by simpa using h) (by simpa using h')
def convA (P : Program) (m : Mem) (src dst : TypeId) (x : AV) : Option AV :=
  match ti P src, ti P dst with
  | some i, some j => match j.desc, x with
    | .int k, .val (.int _ n) => some (.val (.int k (k.wrap n)))
    | .string, .val (.string s) => some (.val (.string s))
    | .string, .vs es _ => match i.desc with
      | .slice e => match ti P e with
        | some q => match q.desc with
          | .int .u8 => match es.mapM byteOfE with
            | some xs => some (.val (.string (strOfNums xs)))
            | none => none
          | _ => none
        | none => none
      | _ => none
    | .string, .sl n off len _ => match i.desc, m n with
      | .slice e, some (.cells _ _ cs) => match ti P e with
        | some q => match q.desc with
          | .int .u8 => if off + len ≤ cs.length then (match ((cs.drop off).take len).mapM byteOfA with
            | some xs => some (.val (.string (strOfNums xs)))
            | none => none) else none
          | _ => none
        | none => none
      | _, _ => none
    | _, _ => none
  | _, _ => none
theorem convA_sound (hs : Sim P κ m w) {src dst : TypeId} {x r : AV} (h : convA P m src dst x = some r) {cv : Value} (hx : Rel κ x cv) : ∃ v, Rel κ r v ∧ ∀ w', Ext w w' → (convert src dst cv).run P w' = .ok v w' := by
  unfold convA at h
  split at h
  · rename_i i j hi hj
    split at h
    · rename_i k _ n hd; cases h
      obtain ⟨rfl, _⟩ := hx.val_inv
      exact ⟨_, .val rfl, fun w' hw => by simp [convert, run_underlying' hi, run_underlying' hj, hd, Conv.intToInt]⟩
    · rename_i s hd; cases h
      obtain ⟨rfl, _⟩ := hx.val_inv
      exact ⟨_, .val rfl, fun w' hw => by simp [convert, run_underlying' hi, run_underlying' hj, hd]⟩
    · rename_i es ex hd
      split at h
      · rename_i e hsl
        split at h
        · rename_i q hq
          split at h
          · rename_i hq8
            split at h
            · rename_i xs hxs
              cases h
              obtain ⟨hlen, hget⟩ := mapM_get _ _ _ hxs
              have hs' : P.underlying src = some (.slice e) := (ti_spec hi).1.trans (by rw [hsl])
              have he' : P.underlying e = some (.int .u8) := (ti_spec hq).1.trans (by rw [hq8])
              have hd' : P.underlying dst = some .string := (ti_spec hj).1.trans (by rw [hd])
              cases hx with
              | vnil =>
                refine ⟨.string (strOfNums xs), .val rfl, fun w' hw => ?_⟩
                have : xs = [] := List.eq_nil_of_length_eq_zero (by simpa using hlen)
                subst this
                exact run_convert_bytes_nil w' src e hs' he' 0 0 dst hd'
              | vz =>
                refine ⟨.string (strOfNums xs), .val rfl, fun w' hw => ?_⟩
                have : xs = [] := List.eq_nil_of_length_eq_zero (by simpa using hlen)
                subst this
                exact run_convert_bytes_zero w' src e hs' he' _ dst hd'
              | @vs _ _ c o s cap f q1 q2 q3 q4 q5 =>
                refine ⟨.string (strOfNums xs), .val rfl, fun w' hw => ?_⟩
                refine run_convert_bytes_arg w' src e hs' he' c o es.length cap xs hlen (fun k hk => ?_) dst hd'
                have hk' : k < xs.length := by omega
                have hb := hget k hk hk'
                have hone : es[k] = [.val (.int .u8 xs[k])] := by
                  unfold byteOfE at hb
                  split at hb
                  · rename_i y hy; cases hb; exact hy
                  · cases hb
                have hs1 : s = 1 := by rw [← q1 _ (List.getElem_mem hk), hone]; rfl
                subst hs1
                have g1 := hw.cell (hs.prot _ _ _ (q4 k 0 hk (by omega)))
                have g2 := q5 k hk 0 (by rw [hone]; simp)
                have g3 : Rel κ (.val (.int .u8 xs[k])) (f k 0) := by
                  have : es[k][0]'(by rw [hone]; simp) = AV.val (.int .u8 xs[k]) := by simp [hone]
                  rw [this] at g2; exact g2
                obtain ⟨g4, _⟩ := g3.val_inv
                rw [g4] at g1
                simpa [List.getD_eq_getElem?_getD, List.getElem?_eq_getElem hk'] using g1
            · cases h
          · cases h
        · cases h
      · cases h
    · rename_i n off len cap hd
      split at h
      · rename_i e opn bt cs hsl hm
        split at h
        · rename_i q hq
          split at h
          · rename_i hq8
            split at h
            · rename_i hfit
              split at h
              · rename_i xs hxs
                cases h
                obtain ⟨hlen, hget⟩ := mapM_get _ _ _ hxs
                have hs' : P.underlying src = some (.slice e) := (ti_spec hi).1.trans (by rw [hsl])
                have he' : P.underlying e = some (.int .u8) := (ti_spec hq).1.trans (by rw [hq8])
                have hd' : P.underlying dst = some .string := (ti_spec hj).1.trans (by rw [hd])
                have hl2 : xs.length = len := by rw [hlen]; simp; omega
                refine ⟨.string (strOfNums xs), .val rfl, fun w' hw => ?_⟩
                cases hx with
                | snil =>
                  have : xs = [] := List.eq_nil_of_length_eq_zero hl2
                  subst this
                  exact run_convert_bytes_nil w' src e hs' he' 0 0 dst hd'
                | szero =>
                  have : xs = [] := List.eq_nil_of_length_eq_zero hl2
                  subst this
                  exact run_convert_bytes_zero w' src e hs' he' _ dst hd'
                | @sl _ _ _ _ cap' c' o' l q1 q2 q3 q4 =>
                  by_cases h0 : len = 0
                  · refine run_convert_bytes_arg w' src e hs' he' c' o' len cap' xs hl2 (fun k hk => by omega) dst hd'
                  · have ha : c' = l.blk ∧ o' = l.base + off := by
                      rcases q4 with q4 | q4
                      · rcases q2 with q2 | q2 <;> omega
                      · exact q4
                    obtain ⟨rfl, rfl⟩ := ha
                    refine run_convert_bytes_arg w' src e hs' he' l.blk (l.base + off) len cap' xs hl2 (fun k hk => ?_) dst hd'
                    have hk' : k < xs.length := by omega
                    have hkk : k < ((cs.drop off).take len).length := by omega
                    have hb := hget k hkk hk'
                    simp only [List.getElem_take, List.getElem_drop] at hb
                    have hkc : off + k < cs.length := by omega
                    have hone : cs[off + k] = .val (.int .u8 xs[k]) := by
                      unfold byteOfA at hb
                      split at hb
                      · rename_i y hy; cases hb; exact hy
                      · cases hb
                    rcases hs.blk n _ hm with ⟨l', e1, e2, _⟩ | ⟨e1, _⟩
                    · rw [q1] at e1; cases e1
                      obtain ⟨arr, t', fz, z1, z2, z3, z4, z5, z6, z7⟩ := e2
                      have z1 := (hw _ (hs.lt _ _ q1)).trans z1
                      obtain ⟨cv, y1, y2⟩ := z7 (off + k) hkc
                      rw [hone] at y2
                      obtain ⟨rfl, _⟩ := y2.val_inv
                      simp [World.cell?, z1, Nat.add_assoc, y1, List.getElem?_eq_getElem hk']
                    · rw [q1] at e1; cases e1
              · cases h
            · cases h
          · cases h
        · cases h
      · cases h
    · cases h
  · cases h

/-! ### Building -/
def zeroA (P : Program) (t : TypeId) : Option (List AV) :=
  match ti P t with
  | some i => match i.zero with
    | some z => if z.cells.toList.all plain then some (z.cells.toList.map .val) else none
    | none => none
  | none => none
theorem zeroA_sound {t : TypeId} {cs : List AV} (h : zeroA P t = some cs) : ∃ z : Value, (∀ w, (zeroValue t).run P w = .ok z w) ∧ Rels κ cs z.cells ∧ ∀ u ∈ z.cells.toList, u.oneCell' = true := by
  unfold zeroA at h
  split at h
  · rename_i i hi
    split at h
    · rename_i z hz
      split at h
      · rename_i hall
        cases h
        obtain ⟨_, j, h1, h2, h3, h4⟩ := ti_spec hi
        refine ⟨z, fun w => by simp [zeroValue, typeInfo, h1, h4, hz], ⟨by simp, fun k hk hk' => ?_⟩, fun u hu => ?_⟩
        · simp only [List.getElem_map, Array.getElem_toList]
          exact .val (List.all_eq_true.1 hall _ (by simp))
        · have := List.all_eq_true.1 hall u hu
          cases u <;> simp [plain] at this <;> rfl
      · cases h
    · cases h
  · cases h
def setRange (l : List AV) (off : Nat) (vs : List AV) : List AV := l.take off ++ vs ++ l.drop (off + vs.length)
theorem setRange_get (l : List AV) (off : Nat) (vs : List AV) (h : off + vs.length ≤ l.length) (k : Nat) : (setRange l off vs)[k]? = if off ≤ k ∧ k < off + vs.length then vs[k - off]? else l[k]? := by
  unfold setRange
  have ht : (l.take off).length = off := by simp; omega
  by_cases h1 : k < off
  · rw [if_neg (by omega), List.append_assoc, List.getElem?_append_left (by omega), List.getElem?_take_of_lt h1]
  · by_cases h2 : k < off + vs.length
    · rw [if_pos ⟨by omega, h2⟩, List.append_assoc, List.getElem?_append_right (by omega), ht, List.getElem?_append_left (by omega)]
    · rw [if_neg (by omega), List.getElem?_append_right (by simp; omega)]
      simp only [List.length_append, ht, List.getElem?_drop]
      congr 1; omega
theorem setRange_length (l : List AV) (off : Nat) (vs : List AV) (h : off + vs.length ≤ l.length) : (setRange l off vs).length = l.length := by
  unfold setRange; simp; omega
theorem Rels.setRange {l vs : List AV} {off : Nat} {ca cv : Array Value} (hl : Rels κ l ca) (hv : Rels κ vs cv) (h : off + vs.length ≤ l.length) : Rels κ (setRange l off vs) (overwrite ca off cv.toList) := by
  have hsz : off + cv.toList.length ≤ ca.size := by simp [← hv.1, ← hl.1]; omega
  refine ⟨by rw [setRange_length _ _ _ h, overwrite_size]; exact hl.1, fun i h1 h2 => ?_⟩
  have e1 := setRange_get l off vs h i
  have e2 := overwrite_get cv.toList ca off hsz i
  rw [List.getElem?_eq_getElem h1] at e1
  rw [Array.getElem?_eq_getElem h2] at e2
  simp only [Array.length_toList, ← hv.1] at e2
  by_cases hc : off ≤ i ∧ i < off + vs.length
  · rw [if_pos hc] at e1 e2
    have i1 : i - off < vs.length := by omega
    have i2 : i - off < cv.size := by rw [← hv.1]; exact i1
    rw [List.getElem?_eq_getElem i1] at e1
    rw [Array.getElem?_toList, Array.getElem?_eq_getElem i2] at e2
    rw [Option.some.inj e1, Option.some.inj e2]
    exact hv.2 _ _ _
  · rw [if_neg hc] at e1 e2
    have i1 : i < l.length := by rw [setRange_length _ _ _ h] at h1; exact h1
    have i2 : i < ca.size := by rw [← hl.1]; exact i1
    rw [List.getElem?_eq_getElem i1] at e1
    rw [Array.getElem?_eq_getElem i2] at e2
    rw [Option.some.inj e1, Option.some.inj e2]
    exact hl.2 _ _ _
theorem foldl_overwrite : ∀ (l : List Value) (off k : Nat) (ca : Array Value), (l.zipIdx k).foldl (fun cs (x : Value × Nat) => cs.setIfInBounds (off + x.2) x.1) ca = overwrite ca (off + k) l
  | [], off, k, ca => rfl
  | v :: l, off, k, ca => by rw [List.zipIdx_cons, List.foldl_cons, foldl_overwrite l off (k + 1)]; rfl
def fillA (place : Nat → Option (Nat × Nat)) (cells : List AV) : List (Nat × AV) → Option (List AV)
  | [] => some cells
  | (i, v) :: rest => match place i, v.cells with
    | some (off, size), some vs => if vs.length = size ∧ off + size ≤ cells.length then fillA place (setRange cells off vs) rest else none
    | _, _ => none
theorem fillA_sound (place : Nat → Option (Nat × Nat)) : ∀ (parts : List (Nat × AV)) (cells r : List AV), fillA place cells parts = some r → ∀ (cparts : List (Nat × Value)) (ca : Array Value), Rels κ cells ca →
    parts.length = cparts.length → (∀ i (h : i < parts.length) (h' : i < cparts.length), parts[i].1 = cparts[i].1 ∧ Rel κ parts[i].2 cparts[i].2) → ∃ cr, Instr.fill place ca cparts = some cr ∧ Rels κ r cr
  | [], cells, r, h, cparts, ca, hc, hl, _ => by
    cases h
    have : cparts = [] := List.eq_nil_of_length_eq_zero hl.symm
    subst this
    exact ⟨ca, rfl, hc⟩
  | (i, v) :: rest, cells, r, h, cparts, ca, hc, hl, hp => by
    cases cparts with
    | nil => simp at hl
    | cons cp cparts =>
      obtain ⟨ci, cv⟩ := cp
      obtain ⟨e1, e2⟩ := hp 0 (by simp) (by simp)
      simp only [List.getElem_cons_zero] at e1 e2
      subst e1
      rw [fillA] at h
      split at h
      · rename_i off size vs hpl hvs
        split at h
        · rename_i hfit
          obtain ⟨hvc, _⟩ := e2.cells hvs
          obtain ⟨cr, g1, g2⟩ := fillA_sound place rest _ r h cparts (overwrite ca off cv.cells.toList) (hc.setRange hvc (by omega)) (by simpa using hl)
            (fun k a b => hp (k + 1) (by simpa using a) (by simpa using b))
          refine ⟨cr, ?_, g2⟩
          have hsz : cv.cells.size = size := by rw [← hvc.1]; exact hfit.1
          have hfits : ¬ (cv.cells.size ≠ size ∨ off + cv.cells.size > ca.size) := by rw [hsz, ← hc.1]; omega
          have hfold : cv.cells.zipIdx.foldl (fun cs (x : Value × Nat) => cs.setIfInBounds (off + x.2) x.1) ca = overwrite ca off cv.cells.toList := by
            rw [← Array.foldl_toList, Array.toList_zipIdx]
            simpa using foldl_overwrite cv.cells.toList off 0 ca
          simp only [Instr.fill, hpl]
          rw [if_neg (by simpa using hfits)]
          have : (cv.cells.zipIdx.foldl (fun cs (x : Value × Nat) => match x with | (c, j) => cs.setIfInBounds (off + j) c) ca) = overwrite ca off cv.cells.toList := hfold
          rw [this]
          exact g1
        · cases h
      · cases h
def placesA (P : Program) : List Field → Option (List (Nat × Nat))
  | [] => some []
  | f :: fs => match ti P f.type, placesA P fs with
    | some j, some l => some ((f.offset, j.size) :: l)
    | _, _ => none
theorem placesA_sound : ∀ (fs : List Field) (l : List (Nat × Nat)), placesA P fs = some l → ((fs.mapM fun f => do pure (f.offset, ← sizeOf f.type) : Sem (List (Nat × Nat)))).run P w = .ok l w
  | [], l, h => by cases h; rfl
  | f :: fs, l, h => by
    rw [placesA] at h
    split at h
    · rename_i j l' hj hl
      cases h
      have := placesA_sound fs l' hl
      simp only [List.mapM_cons, Sem.run_bind, run_sizeOf hj, Result.andThen_ok, Sem.run_pure, this]
    · cases h
def buildA (P : Program) (t : TypeId) (parts : List (Nat × AV)) : Option AV :=
  match ti P t, zeroA P t with
  | some i, some z => match i.desc with
    | .struct fields => match placesA P fields.toList with
      | some pl => match fillA (pl[·]?) z parts with
        | some cs => some (.agg cs)
        | none => none
      | none => none
    | .array _ e => match ti P e with
      | some j => match fillA (fun k => some (k * j.size, j.size)) z parts with
        | some cs => some (.agg cs)
        | none => none
      | none => none
    | _ => none
  | _, _ => none
theorem buildA_sound {t : TypeId} {parts : List (Nat × AV)} {r : AV} (h : buildA P t parts = some r) {cparts : Array (Nat × Value)} (hl : parts.length = cparts.size)
    (hp : ∀ i (h : i < parts.length) (h' : i < cparts.size), parts[i].1 = cparts[i].1 ∧ Rel κ parts[i].2 cparts[i].2) : ∃ v, Rel κ r v ∧ ∀ w, (Instr.build t cparts).run P w = .ok v w := by
  unfold buildA at h
  split at h
  · rename_i i z hi hz
    obtain ⟨zv, z1, z2, _⟩ := zeroA_sound (κ := κ) hz
    split at h
    · rename_i fields hd
      split at h
      · rename_i pl hpl
        split at h
        · rename_i cs hcs
          cases h
          obtain ⟨cr, g1, g2⟩ := fillA_sound (κ := κ) _ parts z cs hcs cparts.toList zv.cells z2 (by simpa using hl) (fun k a b => by simpa using hp k a (by simpa using b))
          have hm : ∀ w, (fields.mapM fun f => do pure (f.offset, ← sizeOf f.type) : Sem (Array (Nat × Nat))).run P w = .ok pl.toArray w := by
            intro w
            rw [Array.mapM_eq_mapM_toList]
            have := placesA_sound (w := w) fields.toList pl hpl
            rw [Sem.run_map, this]; rfl
          refine ⟨.agg cr, .agg g2.1 g2.2, fun w => ?_⟩
          simp only [Instr.build, Sem.run_bind, z1, run_underlying' hi, hd, Result.andThen_ok, hm, List.getElem?_toArray, g1, Sem.run_pure]
        · cases h
      · cases h
    · rename_i len e hd
      split at h
      · rename_i j hj
        split at h
        · rename_i cs hcs
          cases h
          obtain ⟨cr, g1, g2⟩ := fillA_sound (κ := κ) _ parts z cs hcs cparts.toList zv.cells z2 (by simpa using hl) (fun k a b => by simpa using hp k a (by simpa using b))
          refine ⟨.agg cr, .agg g2.1 g2.2, fun w => ?_⟩
          simp only [Instr.build, Sem.run_bind, z1, run_underlying' hi, hd, Result.andThen_ok, run_sizeOf hj, g1, Sem.run_pure]
        · cases h
      · cases h
    · cases h
  · cases h
end Go.Abs
