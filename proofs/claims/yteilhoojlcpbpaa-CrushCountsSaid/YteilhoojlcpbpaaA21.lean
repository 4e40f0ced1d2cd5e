/- The abstract layer, twenty-first part: a law's row, out of its pure contract. -/
import Derived.Test.YteilhoojlcpbpaaA20
set_option linter.unusedVariables false
set_option linter.unusedSimpArgs false
namespace Go.Abs
open Go.RowKit Go.ChangeShapes Go.WideShapes
variable {P : Program}

/-- An argument, as it is read. -/
def ShapedV (P : Program) (t : TypeId) (a : AV) : Prop :=
  match P.underlying t with
  | some (.struct _) | some (.array _ _) => ∃ cs, a = .agg cs ∧ Shaped P t cs
  | _ => Shaped P t [a]
def ShapedAll (P : Program) : List TypeId → List AV → Prop
  | [], [] => True
  | t :: ts, a :: as => ShapedV P t a ∧ ShapedAll P ts as
  | _, _ => False
section
variable {H : Type} {enc : TypeId × Value → H} {w : World}
theorem arg_shaped (hl : laidOutB P = true) {t : TypeId} {v : Value} {d : DataW H} {ps : List MemPlace} {base : Nat} (ht : t < P.types.size) (h : DataW.Trod enc P w 0 (fun _ => true) true t v d ps) (hv : Value.okWide P w .any base t v) (hw : light P t d) :
    ∃ a, Rel (K.of w) a v ∧ ShapedV P t a := by
  obtain ⟨fuel, h⟩ := h
  obtain ⟨as, h1, h2⟩ := shape_of_trod hl fuel t _ d ps ht h hw
  have one : v.cells = #[v] → Shaped P t as → ∃ a, Rel (K.of w) a v ∧ Shaped P t [a] := fun hc hs => by
    rw [hc] at h1
    have hlen := h1.1
    simp only [List.length_cons, List.length_nil] at hlen
    match as, hlen, h1, hs with
    | [a], _, h1, hs => exact ⟨a, h1.2 0 (by simp) (by simp), hs⟩
  have agg : ∀ ca, v = .agg ca → ∃ a, Rel (K.of w) a v ∧ ∃ cs, a = .agg cs ∧ Shaped P t cs := fun ca hca => by
    subst hca
    exact ⟨.agg as, .agg (by simpa [Value.cells] using h1.1) (fun i a b => by have := h1.2 i a (by simpa [Value.cells] using b); simpa [Value.cells] using this), as, rfl, fuel, h2⟩
  unfold Value.okWide at hv
  unfold ShapedV
  split at hv
  · rename_i fs hu; obtain ⟨ca, hca, _⟩ := hv; rw [hu]; exact agg ca hca
  · rename_i k e hu; obtain ⟨ca, hca, _⟩ := hv; rw [hu]; exact agg ca hca
  · rename_i hn1 hn2
    have hc : v.cells = #[v] := by
      cases v with
      | agg ca =>
        exfalso
        unfold Cell.okWide Cell.ok at hv
        cases hu : P.underlying t with
        | none => rw [hu] at hv; exact hv
        | some k => rw [hu] at hv; cases k <;> exact hv
      | _ => rfl
    obtain ⟨a, g1, g2⟩ := one hc ⟨fuel, h2⟩
    refine ⟨a, g1, ?_⟩
    split
    · rename_i fs hu; exact absurd hu (hn1 fs)
    · rename_i k e hu; exact absurd hu (hn2 k e)
    · exact g2
theorem args_shaped (hl : laidOutB P = true) {base : Nat} : ∀ (ts : List TypeId) (vs : List Value) (ds : List (DataW H)) (ps : List MemPlace), (∀ t ∈ ts, t < P.types.size) → DataW.TrodAll enc P w 0 (fun _ => true) true ts vs ds ps →
    (∀ (j : Nat) t v, ts[j]? = some t → vs[j]? = some v → Value.okWide P w .any base t v) → (∀ n ∈ DataW.weightsEach P ts ds, n ≤ reachBytes) → ∃ as, Rels' (K.of w) as vs ∧ ShapedAll P ts as
  | [], [], [], _, _, _, _, _ => ⟨[], ⟨rfl, fun i h => by simp at h⟩, trivial⟩
  | t :: ts, v :: vs, d :: ds, ps, ht, h, hv, hw => by
    obtain ⟨p, q, h1, h2, rfl⟩ := h
    obtain ⟨a, g1, g2⟩ := arg_shaped hl (ht t (by simp)) h1 (hv 0 t v rfl rfl) (fun n hn => hw n (by simp [DataW.weightsEach, hn]))
    obtain ⟨as, k1, k2⟩ := args_shaped hl ts vs ds q (fun t h => ht t (by simp [h])) h2 (fun j t v a b => hv (j + 1) t v (by simpa using a) (by simpa using b)) (fun n hn => hw n (by simp [DataW.weightsEach, hn]))
    exact ⟨a :: as, (Rels'.one g1).append k1, g2, k2⟩
  | [], [], _ :: _, _, _, h, _, _ => h.elim
  | [], _ :: _, _, _, _, h, _, _ => h.elim
  | _ :: _, [], _, _, _, h, _, _ => h.elim
  | _ :: _, _ :: _, [], _, _, h, _, _ => h.elim
theorem trodAll_len {base : Nat} {spare : Nat → Bool} {held : Bool} : ∀ (ts : List TypeId) (vs : List Value) (ds : List (DataW H)) (ps : List MemPlace), DataW.TrodAll enc P w base spare held ts vs ds ps → ds.length = ts.length
  | [], [], [], _, _ => rfl
  | t :: ts, v :: vs, d :: ds, ps, h => by
    obtain ⟨p, q, h1, h2, rfl⟩ := h
    simp [trodAll_len ts vs ds q h2]
  | [], [], _ :: _, _, h => h.elim
  | [], _ :: _, _, _, h => h.elim
  | _ :: _, [], _, _, h => h.elim
  | _ :: _, _ :: _, [], _, h => h.elim
theorem weights_of_left : ∀ (ts : List TypeId) (ds : List (DataW H)) (ts' : List TypeId) (ds' : List (DataW H)), ds.length = ts.length → ∀ n ∈ DataW.weightsEach P ts ds, n ∈ DataW.weightsEach P (ts ++ ts') (ds ++ ds')
  | [], [], _, _, _, n, hn => by simp [DataW.weightsEach] at hn
  | t :: ts, d :: ds, ts', ds', hl, n, hn => by
    simp only [DataW.weightsEach, List.cons_append, List.mem_append] at *
    rcases hn with hn | hn
    · exact .inl hn
    · exact .inr (weights_of_left ts ds ts' ds' (by simpa using hl) n hn)
  | [], _ :: _, _, _, hl, _, _ => by simp at hl
  | _ :: _, [], _, _, hl, _, _ => by simp at hl
theorem trodAll_below (hl : laidOutB P = true) {W' : World} (hb : Below w.heap.size w W') : ∀ (ts : List TypeId) (vs : List Value) (ds : List (DataW H)) (ps : List MemPlace), (∀ t ∈ ts, P.readableRec t = true ∧ t < P.types.size) →
    DataW.TrodAll enc P w 0 (fun _ => true) true ts vs ds ps → (∀ x ∈ ps, x.block < w.heap.size) → DataW.TrodAll enc P W' 0 (fun b => decide (b < w.heap.size)) true ts vs ds ps
  | [], [], [], ps, _, h, _ => h
  | t :: ts, v :: vs, d :: ds, ps, ht, h, hlt => by
    obtain ⟨p, q, h1, h2, rfl⟩ := h
    exact ⟨p, q, Below.trod hl (ht t (by simp)).1 (ht t (by simp)).2 h1 hb (fun x hx => hlt x (by simp [hx])), trodAll_below hl hb ts vs ds q (fun t h => ht t (by simp [h])) h2 (fun x hx => hlt x (by simp [hx])), rfl⟩
  | [], [], _ :: _, _, _, h, _ => h.elim
  | [], _ :: _, _, _, _, h, _ => h.elim
  | _ :: _, [], _, _, _, h, _ => h.elim
  | _ :: _, _ :: _, [], _, _, h, _ => h.elim
end

/-- A pure contract, where a world is. -/
theorem F.below {f : FuncId} {args : List AV} {R : AV} (h : F P f args R) {w : World} {cargs : Array Value} (hr : Rels' (K.of w) args cargs.toList) :
    Calls P f cargs w fun e w' => ∃ cv κ', e = .returned cv ∧ Below w.heap.size w w' ∧ Rel κ' R cv := by
  rw [← callsIn_wide (n := 0)]
  refine (h.2 (K.of w) w cargs (Sim.of P w) ⟨by simpa using hr.1, fun i a b => by have := hr.2 i a (by simpa using b); rw [Array.getElem_toList] at this; exact this⟩).mono ?_
  rintro e w' ⟨cv, κ', rfl, hst, hrel⟩
  exact ⟨cv, _, rfl, ⟨hst.os, hst.tape, hst.output, hst.size, fun k hk => hst.frame k hk fun ⟨n, l, _, h, _⟩ => h rfl⟩, hrel⟩

/-- The row of a law, out of its pure contract. -/
theorem law_lift {C : Checked} {f : FuncId} {fn : Func} {s : ChangeSpec} {conds : List PathCond} {rt : TypeId} {os : Os} {H : Type} {enc : TypeId × Value → H} (own : ownKnob C.prog.godebug = none) (started : os.Started) (noInit : C.prog.inits.idxOf? f = none) (hfn : C.prog.funcs[f]? = some fn)
    (witness : ∃ (w : World) (tape : Tape) (i : Input), w.os = os ∧ (w.forCall tape i).Shaped C.prog ∧ i.vars = [] ∧ Input.okWide C.prog (w.forCall tape i) .any w.heap.size f i ∧
      s.pre6 enc C.prog fn conds false (w.forCall tape i).memory i.args ∧ Assume.holds {} C.prog (lone (Frame.enter C.prog f i.args .normal) [] (w.forCall tape i)))
    (hvars : s.vars = []) (hs : ∀ (H : Type) (ds : List (DataW H)), ds.length = fn.params.size → s.fn H ds = { results := [.lit (.bool true)], args := ds })
    (laid : laidOutB C.prog = true) (hread : fn.params.toList.all (fun t => C.prog.readableRec t && decide (t < C.prog.types.size)) = true) (hrt : fn.resultTypes = #[rt]) (hb : C.prog.underlying rt = some .bool)
    (hF : ∀ args : List AV, ShapedAll C.prog fn.params.toList args → F C.prog f args (.val (.bool true))) :
    ReturnsInHanded {} C os f .any (s.pre6 enc C.prog fn conds false) (s.post enc C.prog fn false true false false) := by
  refine returnsInHanded_of_change_sized own started noInit hfn witness ?_
  intro W base args ds gs before hval hW _ hsz _
  have hW' := hW
  obtain ⟨p, q, hA, hV, rfl, hfz, hnd⟩ := hW
  rw [hvars] at hV
  obtain ⟨rfl, rfl⟩ := trodVars_none hV
  have hread' : ∀ t ∈ fn.params.toList, C.prog.readableRec t = true ∧ t < C.prog.types.size := fun t ht => by
    have := List.all_eq_true.1 hread t ht
    simpa using this
  have hlen := trodAll_len _ _ _ _ hA
  obtain ⟨as, k1, k2⟩ := args_shaped laid (base := base) _ _ _ _ (fun t ht => (hread' t ht).2) hA (fun j t v a b => hval j t v (by simpa using a) (by simpa using b)) (fun n hn => by
    have := List.all_eq_true.1 hsz n (weights_of_left _ _ _ _ hlen n hn)
    simpa using this)
  refine ((hF as k2).below k1).mono ?_
  rintro e W' ⟨cv, κ', rfl, hbel, hrel⟩
  obtain ⟨rfl, _⟩ := hrel.val_inv
  have hlt : ∀ x ∈ p, x.block < W.heap.size := fun x hx => by simpa using hW'.lt x (by simpa using hx)
  have hsf := hs H (ds ++ []) (by simpa using hlen)
  refine ⟨_, rfl, ds, [], p ++ [], [], p, [], hW', ?_, ?_, ?_, hbel.frame _, fun h => by cases h⟩
  · rw [hsf, hrt]
    exact trodAll_mk1 (shut_bool hb _)
  · rw [hsf]
    simp only [List.append_nil]
    exact trodAll_below laid hbel _ _ _ _ hread' hA hlt
  · rw [hsf, hvars]
    trivial

/-! ### Structures, cell by cell -/
def leaves (P : Program) : Nat → TypeId → Option (List TypeId)
  | 0, _ => none
  | n + 1, t => match P.underlying t with
    | some (.struct fs) => (fs.toList.mapM fun f => leaves P n f.type).map List.flatten
    | some (.array k e) => (leaves P n e).map fun l => (List.replicate k l).flatten
    | _ => if P.cellsOf t = 1 then some [t] else none
def ShapedL (P : Program) : List TypeId → List AV → Prop
  | [], [] => True
  | t :: ts, c :: cs => Shaped P t [c] ∧ ShapedL P ts cs
  | _, _ => False
theorem ShapedL.append {P : Program} : ∀ {ts us : List TypeId} {cs ds : List AV}, ShapedL P ts cs → ShapedL P us ds → ShapedL P (ts ++ us) (cs ++ ds)
  | [], us, [], ds, _, h => h
  | t :: ts, us, c :: cs, ds, h, h' => ⟨h.1, ShapedL.append h.2 h'⟩
  | [], _, _ :: _, _, h, _ => h.elim
  | _ :: _, _, [], _, h, _ => h.elim
theorem Shaped.leaves {P : Program} (hl : laidOutB P = true) : ∀ (n : Nat) (t : TypeId) (ts : List TypeId) (cs : List AV), t < P.types.size → leaves P n t = some ts → Shaped P t cs → cs.length = P.cellsOf t → ShapedL P ts cs
  | 0, t, ts, cs, ht, h, hs, hc => by simp [Abs.leaves] at h
  | n + 1, t, ts, cs, ht, h, hs, hc => by
    have ih := Shaped.leaves hl n
    unfold Abs.leaves at h
    split at h
    · rename_i fs hu
      obtain ⟨k1, k2, k3⟩ := kid_struct hl ht hu
      obtain ⟨s1, s2⟩ := hs.struct hu
      simp only [Option.map_eq_some_iff] at h
      obtain ⟨ls, hL, rfl⟩ := h
      have key : ∀ (gs : List Field) (o : Nat) (ls : List (List TypeId)), gs.mapM (fun f => Abs.leaves P n f.type) = some ls → (∀ f ∈ gs, f ∈ fs.toList) →
          (∀ (j : Nat) f, gs[j]? = some f → f.offset = o + ((gs.take j).map fun f => P.cellsOf f.type).sum) → (cs.drop o).length = (gs.map fun f => P.cellsOf f.type).sum → ShapedL P ls.flatten (cs.drop o) := by
        intro gs
        induction gs with
        | nil =>
          intro o ls h _ _ hlen
          simp at h; subst h
          simp only [List.map_nil, List.sum_nil] at hlen
          rw [List.eq_nil_of_length_eq_zero hlen]
          trivial
        | cons g gs ihg =>
          intro o ls h hmem hoff hlen
          simp only [List.mapM_cons, Option.bind_eq_bind, Option.bind_eq_some_iff, Option.pure_def, Option.some.injEq] at h
          obtain ⟨l0, h1, ls', h2, rfl⟩ := h
          have ho : g.offset = o := by have := hoff 0 g rfl; simpa using this
          simp only [List.map_cons, List.sum_cons] at hlen
          have hg := hmem g (by simp)
          have a := ih g.type l0 _ (k1 g hg) h1 (s2 g hg) (by rw [ho, List.length_take]; omega)
          have b := ihg (o + P.cellsOf g.type) ls' h2 (fun f hf => hmem f (by simp [hf])) (fun j f hj => by
            have := hoff (j + 1) f (by simpa using hj)
            simp only [List.take_succ_cons, List.map_cons, List.sum_cons] at this
            omega) (by simp only [List.length_drop] at *; omega)
          rw [ho] at a
          have c := a.append b
          rw [← List.drop_drop, List.take_append_drop] at c
          exact c
      have := key fs.toList 0 ls hL (fun f hf => hf) (fun j f hj => by rw [k3 j f hj]; simp) (by simpa using s1.trans k2)
      simpa using this
    · rename_i k e hu
      obtain ⟨k1, k2⟩ := kid_array hl ht hu
      obtain ⟨s1, s2⟩ := hs.array hu
      simp only [Option.map_eq_some_iff] at h
      obtain ⟨l, hL, rfl⟩ := h
      have key : ∀ j, j ≤ k → ShapedL P (List.replicate (k - j) l).flatten (cs.drop (j * P.cellsOf e)) := by
        have : ∀ d j, j + d = k → ShapedL P (List.replicate d l).flatten (cs.drop (j * P.cellsOf e)) := by
          intro d
          induction d with
          | zero =>
            intro j hj
            have : cs.drop (j * P.cellsOf e) = [] := List.eq_nil_of_length_eq_zero (by rw [List.length_drop, hc, k2, ← hj]; simp)
            rw [this]; trivial
          | succ d ihd =>
            intro j hj
            have hle : (j + 1) * P.cellsOf e ≤ cs.length := by rw [hc, k2]; exact Nat.mul_le_mul_right _ (by omega)
            rw [Nat.add_mul] at hle
            have a := ih e l _ k1 hL (s2 j (by omega)) (by rw [List.length_take, List.length_drop]; omega)
            have c := a.append (ihd (j + 1) (by omega))
            rw [show (j + 1) * P.cellsOf e = j * P.cellsOf e + P.cellsOf e by rw [Nat.add_mul]; omega, ← List.drop_drop, List.take_append_drop] at c
            exact c
        intro j hj
        exact this (k - j) j (by omega)
      have := key 0 (by omega)
      simpa using this
    · rename_i hn1 hn2
      split at h
      · rename_i h1
        cases h
        rw [h1] at hc
        match cs, hc, hs with
        | [c], _, hs => exact ⟨hs, trivial⟩
      · cases h
/-- A row of elements, each of which is told. -/
theorem rows_of {α : Type} (f : α → List AV) (Q : α → Prop) : ∀ (es : List (List AV)), (∀ x ∈ es, ∃ a, x = f a ∧ Q a) → ∃ l : List α, es = l.map f ∧ ∀ a ∈ l, Q a
  | [], _ => ⟨[], rfl, fun a h => by simp at h⟩
  | x :: es, h => by
    obtain ⟨a, rfl, ha⟩ := h x (by simp)
    obtain ⟨l, rfl, hl⟩ := rows_of f Q es (fun y hy => h y (by simp [hy]))
    exact ⟨a :: l, rfl, fun b hb => by
      rcases List.mem_cons.1 hb with rfl | hb
      · exact ha
      · exact hl b hb⟩
theorem wf_i64 {x : Int} (h : (Lit.int .i64 x).wf = true) : -9223372036854775808 ≤ x ∧ x ≤ 9223372036854775807 := by
  simpa [Lit.wf, IntKind.min, IntKind.max, IntKind.signed, IntKind.bits] using h
theorem wf_u64 {x : Int} (h : (Lit.int .u64 x).wf = true) : 0 ≤ x ∧ x ≤ 18446744073709551615 := by
  simpa [Lit.wf, IntKind.min, IntKind.max, IntKind.signed, IntKind.bits] using h
theorem wf_u32 {x : Int} (h : (Lit.int .u32 x).wf = true) : 0 ≤ x ∧ x ≤ 4294967295 := by
  simpa [Lit.wf, IntKind.min, IntKind.max, IntKind.signed, IntKind.bits] using h
theorem wf_u8 {x : Int} (h : (Lit.int .u8 x).wf = true) : 0 ≤ x ∧ x ≤ 255 := by
  simpa [Lit.wf, IntKind.min, IntKind.max, IntKind.signed, IntKind.bits] using h
section
variable {P : Program} {t : TypeId} {c : AV} {i : TI}
theorem Shaped.i64 (ht : ti P t = some i) (hd : i.desc = .int .i64) (h : Shaped P t [c]) : ∃ x, c = .val (.int .i64 x) ∧ -9223372036854775808 ≤ x ∧ x ≤ 9223372036854775807 := by
  obtain ⟨x, e, hw⟩ := h.int ((ti_spec ht).1.trans (by rw [hd]))
  exact ⟨x, (List.cons.inj e).1, wf_i64 hw⟩
theorem Shaped.u64 (ht : ti P t = some i) (hd : i.desc = .int .u64) (h : Shaped P t [c]) : ∃ x, c = .val (.int .u64 x) ∧ 0 ≤ x ∧ x ≤ 18446744073709551615 := by
  obtain ⟨x, e, hw⟩ := h.int ((ti_spec ht).1.trans (by rw [hd]))
  exact ⟨x, (List.cons.inj e).1, wf_u64 hw⟩
theorem Shaped.u32 (ht : ti P t = some i) (hd : i.desc = .int .u32) (h : Shaped P t [c]) : ∃ x, c = .val (.int .u32 x) ∧ 0 ≤ x ∧ x ≤ 4294967295 := by
  obtain ⟨x, e, hw⟩ := h.int ((ti_spec ht).1.trans (by rw [hd]))
  exact ⟨x, (List.cons.inj e).1, wf_u32 hw⟩
theorem Shaped.u8 (ht : ti P t = some i) (hd : i.desc = .int .u8) (h : Shaped P t [c]) : ∃ x, c = .val (.int .u8 x) ∧ 0 ≤ x ∧ x ≤ 255 := by
  obtain ⟨x, e, hw⟩ := h.int ((ti_spec ht).1.trans (by rw [hd]))
  exact ⟨x, (List.cons.inj e).1, wf_u8 hw⟩
theorem Shaped.str (ht : ti P t = some i) (hd : i.desc = .string) (h : Shaped P t [c]) : ∃ s : ByteArray, c = .val (.string s) ∧ s.size ≤ 140737488351232 := by
  obtain ⟨x, e, hw⟩ := h.string ((ti_spec ht).1.trans (by rw [hd]))
  exact ⟨x, (List.cons.inj e).1, hw⟩
theorem Shaped.boo (ht : ti P t = some i) (hd : i.desc = .bool) (h : Shaped P t [c]) : ∃ b, c = .val (.bool b) := by
  obtain ⟨x, e⟩ := h.bool ((ti_spec ht).1.trans (by rw [hd]))
  exact ⟨x, (List.cons.inj e).1⟩
theorem ShapedV.one (ht : ti P t = some i) (hd : isAggD i.desc = false) (h : ShapedV P t c) : Shaped P t [c] := by
  unfold ShapedV at h
  split at h
  · rename_i fs hu; have e := Option.some.inj ((ti_spec ht).1.symm.trans hu); rw [e] at hd; cases hd
  · rename_i k e' hu; have e := Option.some.inj ((ti_spec ht).1.symm.trans hu); rw [e] at hd; cases hd
  · exact h
theorem ShapedV.cells {fs : Array Field} (ht : ti P t = some i) (hd : i.desc = .struct fs) (h : ShapedV P t c) : ∃ cs, c = .agg cs ∧ cs.length = i.size ∧ Shaped P t cs := by
  obtain ⟨hu, j, g1, g2, _⟩ := ti_spec ht
  unfold ShapedV at h
  rw [hu, hd] at h
  obtain ⟨cs, rfl, hs⟩ := h
  refine ⟨cs, rfl, ?_, hs⟩
  rw [(hs.struct (hu.trans (by rw [hd]))).1]
  simp [Program.cellsOf, g1, g2]
theorem cells_size {P : Program} {t : TypeId} {i : TI} (ht : ti P t = some i) : P.cellsOf t = i.size := by
  obtain ⟨hu, j, g1, g2, _⟩ := ti_spec ht
  simp [Program.cellsOf, g1, g2]
end
/-- A slice of what is told. -/
theorem Shaped.rows {P : Program} {t e : TypeId} {c : AV} {i j : TI} {α : Type} (f : α → List AV) (Q : α → Prop) (ht : ti P t = some i) (hd : i.desc = .slice e) (he : ti P e = some j) (h0 : Nat.ble 1 j.size = true)
    (hf : ∀ x, Shaped P e x → x.length = j.size → ∃ a, x = f a ∧ Q a) (h : Shaped P t [c]) :
    ∃ l : List α, c = .vs (l.map f) false ∧ l.length * j.bytes ≤ 140737488351232 ∧ l.length ≤ 9223372036854775807 ∧ ∀ a ∈ l, Q a := by
  obtain ⟨h1, _⟩ := ti_spec ht
  obtain ⟨_, jj, g1, g2, g3, _⟩ := ti_spec he
  have hc : P.cellsOf e = j.size := by simp [Program.cellsOf, g1, g2]
  have hb : P.bytesOf e = j.bytes := by simp [Program.bytesOf, g1, g3]
  obtain ⟨es, k1, k2, k3, k4⟩ := h.slice (h1.trans (by rw [hd])) (by rw [hc]; exact h0)
  obtain ⟨l, rfl, hl⟩ := rows_of f Q es (fun x hx => hf x (k4 x hx).2 ((k4 x hx).1.trans hc))
  simp only [List.cons.injEq, and_true] at k1
  rw [hb, List.length_map] at k2
  rw [List.length_map] at k3
  exact ⟨l, k1, k2, Nat.le_trans k3 (by decide), hl⟩
end Go.Abs
