/- The abstract layer, twenty-third part: a result told otherwise (nil as a row of the run's own; a row that is opened again). -/
import Derived.Test.YteilhoojlcpbpaaA22
set_option linter.unusedVariables false
set_option linter.unusedSimpArgs false
set_option linter.unusedSectionVars false
namespace Go.Abs
variable {P : Program}
def Turns (P : Program) (r : AV) (m : Mem) (K' : AV → Mem → Prop) : Prop :=
  ∀ κ w cv, Sim P κ m w → Rel κ r cv → ∃ r' m' κ', K' r' m' ∧ Step P κ m w κ' m' w ∧ Rel κ' r' cv
theorem C.turn {f : FuncId} {args : List AV} {m : Mem} {K' : AV → Mem → Prop} (h : C P f args m (fun r m' => Turns P r m' K')) : C P f args m K' :=
  ⟨h.1, fun κ w cargs hs hr => (h.2 κ w cargs hs hr).mono fun e w' ⟨cv, r, m', κ', a, b, c, d⟩ =>
    let ⟨r2, m2, κ2, x, y, z⟩ := b κ' w' cv c.sim d; ⟨cv, r2, m2, κ2, a, x, c.trans y, z⟩⟩
theorem Turns.id {r : AV} {m : Mem} {K' : AV → Mem → Prop} (h : K' r m) : Turns P r m K' := fun κ w cv hs hr => ⟨r, m, κ, h, Step.refl hs, hr⟩
theorem Turns.nil (t : TypeId) {m : Mem} {K' : AV → Mem → Prop} (h : ∀ n, m n = none → K' (.sl n 0 0 0) (m.set n (.cells true t []))) : Turns P (.val (.slice none 0 0)) m K' := fun κ w cv hs hr => by
  obtain ⟨n, hr', hm⟩ := hs.fresh
  obtain ⟨rfl, _⟩ := hr.val_inv
  exact ⟨_, _, _, h n hm, Step.empty hs hm hr' t, .snil⟩
theorem Turns.reopen {t : TypeId} {N len c : Nat} {bt : TypeId} {cs rest : List AV} {m : Mem} {K' : AV → Mem → Prop} (hm : m N = some (.cells false bt (cs ++ rest))) (h0 : 0 < len) (hl : cs.length = len * P.cellsOf t) (hc : len ≤ c) (hrest : rest.length = (c - len) * P.cellsOf t)
    (h : ∀ n, m n = none → K' (.sl n 0 len len) ((m.del N).set n (.cells true t cs))) : Turns P (.sl N 0 len c) m K' := fun κ w cv hs hr => by
  cases hr with
  | snil => omega
  | szero => omega
  | @sl _ _ _ _ cap' c' o' l q1 q2 q3 q4 =>
    rcases hs.blk N _ hm with ⟨l', e1, e2, e3⟩ | ⟨e1, _⟩
    · rw [q1] at e1; cases e1
      obtain ⟨arr, t', fz, z1, z2, z3, z4, z5, z6, z7⟩ := e2
      have hext := z5 rfl
      have hcap : cap' = c := by rcases q2 with q2 | q2 <;> omega
      subst hcap
      obtain ⟨n, hrn, hn⟩ := hs.fresh
      have hmul : cap' * P.cellsOf t = len * P.cellsOf t + (cap' - len) * P.cellsOf t := by rw [← Nat.add_mul]; congr 1; omega
      rw [List.length_append] at z3
      have hst := Step.move (w' := w) (l' := ⟨l.blk, l.base, P.cellsOf t, cs.length, cap' - len⟩) hs (by rw [hm]; simp) q1 e3 hn hrn rfl (But.refl w _) (.cells true t cs)
        ⟨arr, t', fz, z1, z2, rfl, by simp only; omega, (fun h => by cases h), (fun _ => rfl), fun i hi => by
          obtain ⟨cv, y1, y2⟩ := z7 i (by simp; omega)
          refine ⟨cv, y1, ?_⟩
          rw [List.getElem_append_left hi] at y2
          exact y2.mono (K.le_add hrn)⟩
      refine ⟨_, _, _, h n hn, hst, .sl (K.add_same ..) (.inr ⟨by simp [hl], by simp only; omega⟩) (Nat.le_refl _) ?_⟩
      rcases q4 with q4 | q4
      · exact .inl q4
      · exact .inr q4
    · rw [q1] at e1; cases e1
theorem rels_retell {κ : K} {env : List AV} {ca : Array Value} (h : Rels κ env ca) (t : Nat) (ht : t < env.length) {v : AV} (hv : ∀ cv, Rel κ (nth env t) cv → Rel κ v cv) : Rels κ (upd env t v) ca := by
  have hc : t < ca.size := h.1 ▸ ht
  have := h.upd t (v := v) (cv := ca[t]) (hv _ (by rw [nth_eq, List.getElem?_eq_getElem ht]; exact h.2 t ht hc))
  have e : ca.setIfInBounds t ca[t] = ca := by
    apply Array.ext'
    rw [Array.toList_setIfInBounds, ← Array.getElem_toList]
    exact List.set_getElem_self _
  rwa [e] at this
theorem Ghosts.nil {env : List AV} {m : Mem} {K' : List AV → Mem → Prop} (t : Nat) (e : TypeId) (ht : t < env.length) (h0 : nth env t = .val (.slice none 0 0)) (h : ∀ n, m n = none → Ghosts P (upd env t (.sl n 0 0 0)) (m.set n (.cells true e [])) K') : Ghosts P env m K' := fun κ w ca hs hr => by
  obtain ⟨n, hrn, hm⟩ := hs.fresh
  have hst := Step.empty hs hm hrn e
  obtain ⟨env', m', κ', a, b, c⟩ := h n hm (κ.ghost n) w ca hst.sim (rels_retell (hr.mono hst.le) t ht (fun cv hv => by
    rw [h0] at hv
    obtain ⟨rfl, _⟩ := hv.val_inv
    exact .snil))
  exact ⟨env', m', κ', a, hst.trans b, c⟩
/-- Rows whose elements are put in place. -/
theorem flatten_set {s : Nat} : ∀ {es : List (List AV)} {k : Nat} {v : List AV}, (∀ e ∈ es, e.length = s) → v.length = s → k < es.length → setRange es.flatten (k * s) v = (es.set k v).flatten
  | e :: es, 0, v, h, hv, hk => by
    have he := h e (by simp)
    simp only [Nat.zero_mul, setRange, List.take_zero, List.nil_append, Nat.zero_add, List.set_cons_zero, List.flatten_cons]
    rw [hv, ← he, List.drop_left]
  | e :: es, k + 1, v, h, hv, hk => by
    have he := h e (by simp)
    have ih := flatten_set (es := es) (k := k) (fun x hx => h x (by simp [hx])) hv (by simpa using hk)
    simp only [List.set_cons_succ, List.flatten_cons]
    rw [← ih]
    unfold setRange
    have e1 : (k + 1) * s = e.length + k * s := by rw [Nat.add_mul, he]; omega
    rw [e1, List.take_append, List.drop_append, List.take_of_length_le (show e.length ≤ e.length + k * s by omega), List.drop_eq_nil_of_le (show e.length ≤ e.length + k * s + v.length by omega)]
    simp only [Nat.add_sub_cancel_left, List.nil_append, List.append_assoc]
    congr 3
    congr 1
    omega
theorem flatten_take {s : Nat} {es : List (List AV)} (h : ∀ e ∈ es, e.length = s) (k : Nat) : es.flatten.take (k * s) = (es.take k).flatten := by
  induction k generalizing es with
  | zero => simp
  | succ k ih =>
    cases es with
    | nil => simp
    | cons e es =>
      have he := h e (by simp)
      simp only [List.flatten_cons, List.take_succ_cons]
      rw [List.take_append, List.take_of_length_le (by rw [he, Nat.add_mul]; omega), show (k + 1) * s - e.length = k * s by rw [he, Nat.add_mul]; omega, ih (fun x hx => h x (by simp [hx]))]
theorem flatten_drop {s : Nat} {es : List (List AV)} (h : ∀ e ∈ es, e.length = s) (k : Nat) : es.flatten.drop (k * s) = (es.drop k).flatten := by
  induction k generalizing es with
  | zero => simp
  | succ k ih =>
    cases es with
    | nil => simp
    | cons e es =>
      have he := h e (by simp)
      simp only [List.flatten_cons, List.drop_succ_cons]
      rw [List.drop_append, List.drop_eq_nil_of_le (by rw [he, Nat.add_mul]; omega), List.nil_append, show (k + 1) * s - e.length = k * s by rw [he, Nat.add_mul]; omega, ih (fun x hx => h x (by simp [hx]))]

theorem flatten_put {s : Nat} {es ms : List (List AV)} (h : ∀ e ∈ es, e.length = s) (hm : ∀ e ∈ ms, e.length = s) {k : Nat} (hk : k + ms.length ≤ es.length) : setRange es.flatten (k * s) ms.flatten = (es.take k ++ ms ++ es.drop (k + ms.length)).flatten := by
  unfold setRange
  rw [flatten_len hm, ← Nat.add_mul, flatten_take h, flatten_drop h]
  simp
theorem src_own {xt e : TypeId} {i : TI} (hi : ti P xt = some i) (hd : i.desc = .slice e) {m : Mem} {n : Nat} {opn : Bool} {bt : TypeId} {s : Nat} {es : List (List AV)} (hm : m n = some (.cells opn bt es.flatten)) (hes : ∀ e ∈ es, e.length = s) {k q cap : Nat} (hk : k + q ≤ es.length)
    (h1 : ∀ x ∈ ((es.drop k).take q).flatten, x.one = true) : srcA P m xt s (.sl n (k * s) q cap) = some (q, ((es.drop k).take q).flatten) := by
  have hl := flatten_len hes
  have h2 : k * s + q * s ≤ es.length * s := by rw [← Nat.add_mul]; exact Nat.mul_le_mul_right _ hk
  have e : (es.flatten.drop (k * s)).take (q * s) = ((es.drop k).take q).flatten := by
    rw [flatten_drop hes, flatten_take (fun x hx => hes x (List.mem_of_mem_drop hx))]
  simp only [srcA, hi, hd, hm, e]
  rw [if_pos ⟨by omega, List.all_eq_true.2 h1⟩]

/-! ### Slicing and indexing, as equations -/
def sliceOwn (P : Program) (s : Nat) (b : Option Blk) (n off len cap : Nat) (lo hi mx : Option AV) : Option AV :=
  match b with
  | some (.cells opn bt _) => if opn = false ∨ P.cellsOf bt = s then
      (match boundsA len cap lo hi mx with
      | some (l, h, mm) => some (.sl n (off + l * s) (h - l) (mm - l))
      | none => none) else none
  | _ => none
theorem sliceA_own {t e : TypeId} {i j : TI} (ht : ti P t = some i) (hd : i.desc = .slice e) (he : ti P e = some j) (m : Mem) (n off len cap : Nat) (lo hi mx : Option AV) :
    sliceA P m t (.sl n off len cap) lo hi mx = sliceOwn P j.size (m n) n off len cap lo hi mx := by
  simp only [sliceA, ht, hd, he, sliceOwn]
  cases m n with
  | none => rfl
  | some b => cases b <;> rfl
def sliceTo (s n off : Nat) (r : Option (Nat × Nat × Nat)) : Option AV := match r with | some (l, h, mm) => some (.sl n (off + l * s) (h - l) (mm - l)) | none => none
theorem sliceTo_some (s n off l h mm : Nat) : sliceTo s n off (some (l, h, mm)) = some (.sl n (off + l * s) (h - l) (mm - l)) := rfl
theorem sliceOwn_false (s : Nat) (bt : TypeId) (cs : List AV) (n off len cap : Nat) (lo hi mx : Option AV) : sliceOwn P s (some (.cells false bt cs)) n off len cap lo hi mx = sliceTo s n off (boundsA len cap lo hi mx) := by
  simp only [sliceOwn, true_or, if_true]; rfl
theorem sliceOwn_true (s : Nat) (bt : TypeId) (cs : List AV) (n off len cap : Nat) (lo hi mx : Option AV) : sliceOwn P s (some (.cells true bt cs)) n off len cap lo hi mx = if P.cellsOf bt = s then sliceTo s n off (boundsA len cap lo hi mx) else none := by
  simp only [sliceOwn, reduceCtorEq, false_or]; rfl
theorem bnd_none (len cap : Nat) (h : len ≤ cap) : boundsA len cap none none none = some (0, len, cap) := by
  simp only [boundsA, natOf]; rw [if_pos (by simp [h])]
theorem bnd_lo (len cap : Nat) (k : IntKind) (lo : Int) (h0 : 0 ≤ lo) (h1 : lo ≤ len) (h : len ≤ cap) : boundsA len cap (some (.val (.int k lo))) none none = some (lo.toNat, len, cap) := by
  simp only [boundsA, natOf]
  rw [if_pos h0]
  simp only
  rw [if_pos (by refine ⟨by omega, h, by omega, by simp⟩)]
theorem bnd_hi (len cap : Nat) (k : IntKind) (hi : Int) (h0 : 0 ≤ hi) (h1 : hi ≤ cap) : boundsA len cap none (some (.val (.int k hi))) none = some (0, hi.toNat, cap) := by
  simp only [boundsA, natOf]
  rw [if_pos h0]
  simp only
  rw [if_pos (by refine ⟨by omega, by omega, by omega, by simp⟩)]
theorem bnd_lohi (len cap : Nat) (k k' : IntKind) (lo hi : Int) (h0 : 0 ≤ lo) (h1 : lo ≤ hi) (h2 : hi ≤ cap) : boundsA len cap (some (.val (.int k lo))) (some (.val (.int k' hi))) none = some (lo.toNat, hi.toNat, cap) := by
  simp only [boundsA, natOf]
  rw [if_pos h0, if_pos (by omega)]
  simp only
  rw [if_pos (by refine ⟨by omega, by omega, by omega, by simp⟩)]
theorem len_own {t e : TypeId} {i : TI} (ht : ti P t = some i) (hd : i.desc = .slice e) (m : Mem) (n off len cap : Nat) : lenA P m t (.sl n off len cap) = some (.val (.int .i64 len)) := by simp only [lenA, ht, hd]
theorem len_read {t e : TypeId} {i : TI} (ht : ti P t = some i) (hd : i.desc = .slice e) (m : Mem) (es : List (List AV)) (x : Bool) : lenA P m t (.vs es x) = some (.val (.int .i64 es.length)) := by simp only [lenA, ht, hd]
theorem len_nil {t e : TypeId} {i : TI} (ht : ti P t = some i) (hd : i.desc = .slice e) (m : Mem) : lenA P m t (.val (.slice none 0 0)) = some (.val (.int .i64 0)) := by simp only [lenA, ht, hd]
theorem len_str {t : TypeId} {i : TI} (ht : ti P t = some i) (hd : i.desc = .string) (m : Mem) (s : ByteArray) : lenA P m t (.val (.string s)) = some (.val (.int .i64 s.size)) := by simp only [lenA, ht, hd]
theorem index_own {t e : TypeId} {i j : TI} (ht : ti P t = some i) (hd : i.desc = .slice e) (he : ti P e = some j) (n off len cap : Nat) (kk : IntKind) (k : Int) (h0 : 0 ≤ k) (h1 : k < len) :
    indexAddrA P t (.sl n off len cap) (.val (.int kk k)) = some (.ptr n (off + k.toNat * j.size)) := by
  simp only [indexAddrA, ht, hd, he]
  rw [if_pos ⟨h0, h1⟩]
theorem slice_read {α : Type} (f : α → List AV) {t e : TypeId} {i j : TI} (ht : ti P t = some i) (hd : i.desc = .slice e) (he : ti P e = some j) (hf : ∀ a, (f a).length = j.size) (m : Mem) (l : List α) (x : Bool) (lo hi mx : Option AV) {a b c : Nat}
    (hb : boundsA l.length l.length lo hi mx = some (a, b, c)) : sliceA P m t (.vs (l.map f) x) lo hi mx = some (.vs (((l.drop a).take (b - a)).map f) (exactA mx x b c)) := by
  simp only [sliceA, ht, hd, he, List.length_map, hb]
  rw [if_pos (fun e he => by obtain ⟨y, _, rfl⟩ := List.mem_map.1 he; exact hf y)]
  rw [List.map_take, List.map_drop]
def capOwn (b : Option Blk) (cap : Nat) : Option AV := match b with | some (.cells false _ _) => some (.val (.int .i64 cap)) | _ => none
theorem capOwn_false (bt : TypeId) (cs : List AV) (cap : Nat) : capOwn (some (.cells false bt cs)) cap = some (.val (.int .i64 cap)) := rfl
theorem cap_own {t e : TypeId} {i : TI} (ht : ti P t = some i) (hd : i.desc = .slice e) (m : Mem) (n off len cap : Nat) : capA P m t (.sl n off len cap) = capOwn (m n) cap := by
  simp only [capA, ht, hd, capOwn]
  cases m n with
  | none => rfl
  | some b => cases b <;> first | rfl | (rename_i o _ _; cases o <;> rfl)
theorem setRange_cons (x : AV) (l : List AV) (off : Nat) (vs : List AV) : setRange (x :: l) off vs = (x :: l).take off ++ vs ++ (x :: l).drop (off + vs.length) := rfl
theorem Mem.del_at (m : Mem) (n k : Nat) : m.del n k = if k = n then none else m k := rfl
theorem if_le {α : Type} {a b : Nat} [inst : Decidable (a ≤ b)] {x y : α} (h : a ≤ b) : (if a ≤ b then x else y) = x := if_pos h
theorem Mem.del_set_eq (m : Mem) (n : Nat) (b : Blk) : (m.set n b).del n = m.del n := by
  funext k; unfold Mem.del Mem.set; split <;> rfl
theorem Mem.del_set_ne (m : Mem) (n c : Nat) (b : Blk) (h : n ≠ c) : (m.set n b).del c = (m.del c).set n b := by
  funext k; unfold Mem.del Mem.set
  by_cases h1 : k = c
  · subst h1; simp [Ne.symm h]
  · simp [h1]
theorem nomem_del (c : Nat) : nomem.del c = nomem := by funext k; unfold Mem.del nomem; simp
theorem setRange_nil (l : List AV) (off : Nat) : setRange l off [] = l := by simp [setRange]
theorem Mem.set_id {m : Mem} {n : Nat} {b : Blk} (h : m n = some b) : m.set n b = m := by
  funext k; unfold Mem.set; split
  · rename_i e; rw [e, h]
  · rfl
theorem copy_own {t xt e : TypeId} {i j : TI} (ht : ti P t = some i) (hd : i.desc = .slice e) (he : ti P e = some j) {m : Mem} {n off len cap : Nat} {x : AV} {opn : Bool} {bt : TypeId} {cs src : List AV} {k q : Nat} (hm : m n = some (.cells opn bt cs)) (hk : lenS x = some k)
    (hs : srcA P m xt j.size (truncA (min k len) x) = some (q, src)) (hl : src.length = min k len * j.size) (hfit : off + len * j.size ≤ cs.length) {K : Nat × Mem → Prop} {h : Hid K} (hK : K (min k len, m.set n (.cells opn bt (setRange cs off src)))) :
    got (copyA P m t xt (.sl n off len cap) x) (hid K h) := by
  have : copyA P m t xt (.sl n off len cap) x = some (min k len, m.set n (.cells opn bt (setRange cs off src))) := by
    simp only [copyA, ht, hd, he, hk]
    by_cases h0 : min k len = 0
    · rw [if_pos h0, h0]
      rw [h0, Nat.zero_mul] at hl
      rw [List.eq_nil_of_length_eq_zero hl, setRange_nil, Mem.set_id hm]
    · rw [if_neg h0]
      simp only [hm, hs]
      rw [if_pos hfit]
  rw [this]; exact hK
/-- A copy of elements onto elements. -/
theorem copy_rows {t xt e : TypeId} {i j : TI} (ht : ti P t = some i) (hd : i.desc = .slice e) (he : ti P e = some j) {m : Mem} {n k len cap : Nat} {x : AV} {opn : Bool} {bt : TypeId} {es ms : List (List AV)} {q : Nat} (hm : m n = some (.cells opn bt es.flatten)) (hes : ∀ e ∈ es, e.length = j.size)
    (hfit : k + len ≤ es.length) (hk : lenS x = some q) (hs : srcA P m xt j.size (truncA (min q len) x) = some (min q len, ms.flatten)) (hms : ∀ e ∈ ms, e.length = j.size) (hml : ms.length = min q len) {K : Nat × Mem → Prop} {h : Hid K}
    (hK : K (ms.length, m.set n (.cells opn bt (es.take k ++ ms ++ es.drop (k + ms.length)).flatten))) : got (copyA P m t xt (.sl n (k * j.size) len cap) x) (hid K h) := by
  have hle : ms.length ≤ len := by rw [hml]; exact Nat.min_le_right _ _
  refine copy_own ht hd he hm hk hs (by rw [flatten_len hms, hml]) (by rw [← Nat.add_mul, flatten_len hes]; exact Nat.mul_le_mul_right _ hfit) ?_
  rw [flatten_put hes hms (by omega), ← hml]
  exact hK
theorem shr_half64' (x : Int) : x.fdiv (2 ^ min 1 IntKind.u64.bits) = x / 2 := shr_half64 x
theorem toNat_add (a b : Nat) : ((a : Int) + (b : Int)).toNat = a + b := by omega
theorem toNat_add1 (a : Nat) : ((a : Int) + 1).toNat = a + 1 := by omega
theorem toNat_sub1 (a : Nat) : ((a : Int) - 1).toNat = a - 1 := by omega
theorem toNat_sub (a b : Nat) : ((a : Int) - (b : Int)).toNat = a - b := by omega

theorem row_len' {α : Type} (f : α → List AV) {s : Nat} (hf : ∀ a, (f a).length = s) (l : List α) : (l.map f).flatten.length = l.length * s := by
  rw [flatten_len (fun e he => by obtain ⟨a, _, rfl⟩ := List.mem_map.1 he; exact hf a)]; simp
/-! ### Rows of elements: one of them -/
section
variable {α : Type} [Inhabited α] (f : α → List AV) {s : Nat} (hf : ∀ a, (f a).length = s) (l : List α)
include hf
theorem row_all : ∀ e ∈ l.map f, e.length = s := fun e he => by obtain ⟨a, _, rfl⟩ := List.mem_map.1 he; exact hf a
theorem row_len : (l.map f).flatten.length = l.length * s := by rw [flatten_len (row_all f hf l)]; simp
theorem row_at {k j : Nat} (hk : k < l.length) (hj : j < s) : (l.map f).flatten[k * s + j]? = (f (l.getD k default))[j]? := by
  have h1 : (k + 1) * s ≤ l.length * s := Nat.mul_le_mul_right _ hk
  rw [Nat.add_mul] at h1
  have hlt : k * s + j < (l.map f).flatten.length := by rw [row_len f hf]; omega
  have hk' : k < (l.map f).length := by simpa using hk
  have e : (l.map f)[k] = f (l.getD k default) := by simp [List.getD_eq_getElem?_getD, hk]
  have hj' : j < ((l.map f)[k]).length := by rw [e, hf]; exact hj
  rw [List.getElem?_eq_getElem hlt, flatten_get (row_all f hf l) k hk' j hj' hlt]
  rw [← e, List.getElem?_eq_getElem hj']
theorem row_part {k : Nat} (hk : k < l.length) : ((l.map f).flatten.drop (k * s)).take s = f (l.getD k default) := by
  rw [flatten_drop (row_all f hf l), ← List.map_drop, List.drop_eq_getElem_cons hk, List.map_cons, List.flatten_cons]
  rw [List.take_append_of_le_length (by rw [hf]; omega), List.take_of_length_le (by rw [hf]; omega)]
  simp [List.getD_eq_getElem?_getD, hk]
theorem row_in {k j : Nat} (hk : k < l.length) (hj : j ≤ s) : k * s + j ≤ (l.map f).flatten.length := by
  have h1 : (k + 1) * s ≤ l.length * s := Nat.mul_le_mul_right _ hk
  rw [Nat.add_mul] at h1
  rw [row_len f hf]; omega
theorem row_set {k : Nat} (hk : k < l.length) (b : α) : setRange (l.map f).flatten (k * s) (f b) = ((l.set k b).map f).flatten := by
  rw [flatten_set (row_all f hf l) (hf b) (by simpa using hk), List.map_set]
theorem row_field {k j : Nat} (hk : k < l.length) (v : AV) (b : α) (hb : f b = (f (l.getD k default)).set j v) (hj : j < s) : setRange (l.map f).flatten (k * s + j) [v] = ((l.set k b).map f).flatten := by
  have hin := row_in f hf l hk (j := j + 1) (by omega)
  apply List.ext_getElem?
  intro q
  rw [setRange_get _ _ _ (by simp only [List.length_singleton]; omega), ← row_set f hf l hk b, setRange_get _ _ _ (by rw [hf]; have := row_in f hf l hk (j := s) (Nat.le_refl _); omega)]
  simp only [List.length_singleton, hf]
  by_cases h1 : k * s ≤ q ∧ q < k * s + s
  · rw [if_pos h1, hb]
    by_cases h2 : q = k * s + j
    · subst h2
      rw [if_pos (by omega)]
      have : k * s + j - k * s = j := by omega
      rw [this, List.getElem?_set_self (by rw [hf]; exact hj)]
      simp
    · rw [if_neg (by omega), List.getElem?_set_ne (by omega)]
      have : q = k * s + (q - k * s) := by omega
      rw [this, row_at f hf l hk (by omega)]
      congr 1; omega
  · rw [if_neg h1, if_neg (by omega)]
end
/-! ### What is told of a slice's type; what is told of a function -/
structure SlT (P : Program) (t e : TypeId) (j : TI) (z : List AV) : Prop where
  ht : ∃ i, ti P t = some i ∧ i.desc = .slice e
  he : ti P e = some j
  hz : zeroA P e = some z
  zl : z.length = j.size
  zo : z.all AV.one = true
  pos : 0 < j.size
  bpos : 0 < j.bytes
section
variable {t e : TypeId} {j : TI} {z : List AV} (T : SlT P t e j z)
include T
theorem SlT.sl (m : Mem) (n off len cap : Nat) (lo hi mx : Option AV) : sliceA P m t (.sl n off len cap) lo hi mx = sliceOwn P j.size (m n) n off len cap lo hi mx := let ⟨_, a, b⟩ := T.ht; sliceA_own a b T.he m n off len cap lo hi mx
theorem SlT.len (m : Mem) (n off len cap : Nat) : lenA P m t (.sl n off len cap) = some (.val (.int .i64 len)) := let ⟨_, a, b⟩ := T.ht; len_own a b m n off len cap
theorem SlT.lenr (m : Mem) (es : List (List AV)) (x : Bool) : lenA P m t (.vs es x) = some (.val (.int .i64 es.length)) := let ⟨_, a, b⟩ := T.ht; len_read a b m es x
theorem SlT.lenn (m : Mem) : lenA P m t (.val (.slice none 0 0)) = some (.val (.int .i64 0)) := let ⟨_, a, b⟩ := T.ht; len_nil a b m
theorem SlT.cap (m : Mem) (n off len cap : Nat) : capA P m t (.sl n off len cap) = capOwn (m n) cap := let ⟨_, a, b⟩ := T.ht; cap_own a b m n off len cap
theorem SlT.ix (n off len cap : Nat) (kk : IntKind) (k : Int) (h0 : 0 ≤ k) (h1 : k < len) : indexAddrA P t (.sl n off len cap) (.val (.int kk k)) = some (.ptr n (off + k.toNat * j.size)) := let ⟨_, a, b⟩ := T.ht; index_own a b T.he n off len cap kk k h0 h1
theorem SlT.rhi {α : Type} {F : α → List AV} (hF : ∀ a, (F a).length = j.size) (m : Mem) (l : List α) (x : Bool) (kk : IntKind) (hi : Int) (h0 : 0 ≤ hi) (h1 : hi ≤ l.length) : sliceA P m t (.vs (l.map F) x) none (some (.val (.int kk hi))) none = some (.vs ((l.take hi.toNat).map F) (x && hi.toNat == l.length)) := by
  obtain ⟨_, a, b⟩ := T.ht
  rw [slice_read F a b T.he hF m l x none _ none (bnd_hi _ _ kk hi h0 h1)]
  simp [exactA]
theorem SlT.rlo {α : Type} {F : α → List AV} (hF : ∀ a, (F a).length = j.size) (m : Mem) (l : List α) (x : Bool) (kk : IntKind) (lo : Int) (h0 : 0 ≤ lo) (h1 : lo ≤ l.length) : sliceA P m t (.vs (l.map F) x) (some (.val (.int kk lo))) none none = some (.vs ((l.drop lo.toNat).map F) x) := by
  obtain ⟨_, a, b⟩ := T.ht
  rw [slice_read F a b T.he hF m l x _ none none (bnd_lo _ _ kk lo h0 h1 (Nat.le_refl _))]
  have : (l.drop lo.toNat).take (l.length - lo.toNat) = l.drop lo.toNat := List.take_of_length_le (by simp)
  simp [exactA, this]
theorem SlT.rlohi {α : Type} {F : α → List AV} (hF : ∀ a, (F a).length = j.size) (m : Mem) (l : List α) (x : Bool) (kk kk' : IntKind) (lo hi : Int) (h0 : 0 ≤ lo) (h1 : lo ≤ hi) (h2 : hi ≤ l.length) : sliceA P m t (.vs (l.map F) x) (some (.val (.int kk lo))) (some (.val (.int kk' hi))) none = some (.vs (((l.drop lo.toNat).take (hi.toNat - lo.toNat)).map F) (x && hi.toNat == l.length)) := by
  obtain ⟨_, a, b⟩ := T.ht
  rw [slice_read F a b T.he hF m l x _ _ none (bnd_lohi _ _ kk kk' lo hi h0 h1 h2)]
  simp [exactA]
theorem SlT.cs : P.cellsOf e = j.size := cellsOf_ti T.he
theorem SlT.app : AppT P t t e j z := let ⟨i, a, b⟩ := T.ht; ⟨⟨i, a, b⟩, ⟨i, a, .inl ⟨_, b⟩⟩, T.he, T.hz, T.zl, T.pos, T.bpos⟩
theorem SlT.appz {xt : TypeId} {ix : TI} {k : IntKind} (hx : ti P xt = some ix) (hd : ix.desc = .int k) : AppT P t xt e j z := ⟨T.ht, ⟨ix, hx, .inr (.inr ⟨_, hd⟩)⟩, T.he, T.hz, T.zl, T.pos, T.bpos⟩
theorem SlT.lit0 : litA P t 0 [] = some (e, j.size, []) := by
  obtain ⟨i, a, b⟩ := T.ht
  simp only [litA, a, b, T.he, T.hz]
  rw [if_pos ⟨T.zl, T.pos, by omega⟩]
  simp [fillA]
theorem SlT.src {α : Type} {F : α → List AV} (hF : ∀ a, (F a).length = j.size ∧ (F a).all AV.one = true) (m : Mem) (l : List α) (x : Bool) : srcA P m t j.size (.vs (l.map F) x) = some (l.length, (l.map F).flatten) := let ⟨i, a, b⟩ := T.ht; src_vs F a b hF m l x
theorem SlT.nil {op : BinOp} {x : AV} {K : AV → Prop} {h : Hid K} (hop : op = .eql ∨ op = .neq) (hx : (∃ es ex, x = .vs es ex) ∨ ∃ n off len cap, x = .sl n off len cap) (hk : ∀ b, K (.val (.bool b))) :
    binK P op t x (.val (.slice none 0 0)) (cmpA P t op x (.val (.slice none 0 0))) (hid K h) := let ⟨_, a, b⟩ := T.ht; nil_any a b hop hx hk
theorem SlT.notNil (es : List (List AV)) (x : Bool) (h : 0 < es.length) : cmpA P t .eql (.vs es x) (.val (.slice none 0 0)) = some (.val (.bool false)) := by
  obtain ⟨i, a, b⟩ := T.ht
  simp only [cmpA, a, b, binA, nilBin, isNilA, if_pos h]
theorem SlT.notNilC (y : List AV) (es : List (List AV)) (x : Bool) : cmpA P t .eql (.vs (y :: es) x) (.val (.slice none 0 0)) = some (.val (.bool false)) := T.notNil (y :: es) x (Nat.zero_lt_succ _)
theorem SlT.notNilS (n off len cap : Nat) (h : 0 < cap) : cmpA P t .eql (.sl n off len cap) (.val (.slice none 0 0)) = some (.val (.bool false)) := by
  obtain ⟨i, a, b⟩ := T.ht
  simp only [cmpA, a, b, binA, nilBin, isNilA, if_pos h]
theorem SlT.nilNil : cmpA P t .eql (.val (.slice none 0 0)) (.val (.slice none 0 0)) = some (.val (.bool true)) := by
  obtain ⟨i, a, b⟩ := T.ht
  simp only [cmpA, a, b, binA, nilBin, isNilA]
  rfl
theorem SlT.copy {xt : TypeId} {m : Mem} {n k len cap : Nat} {x : AV} {opn : Bool} {bt : TypeId} {es ms : List (List AV)} {q : Nat} (hm : m n = some (.cells opn bt es.flatten)) (hes : ∀ e ∈ es, e.length = j.size)
    (hfit : k + len ≤ es.length) (hk : lenS x = some q) (hs : srcA P m xt j.size (truncA (min q len) x) = some (min q len, ms.flatten)) (hms : ∀ e ∈ ms, e.length = j.size) (hml : ms.length = min q len) {K : Nat × Mem → Prop} {h : Hid K}
    (hK : K (ms.length, m.set n (.cells opn bt (es.take k ++ ms ++ es.drop (k + ms.length)).flatten))) : got (copyA P m t xt (.sl n (k * j.size) len cap) x) (hid K h) := let ⟨_, a, b⟩ := T.ht; copy_rows a b T.he hm hes hfit hk hs hms hml hK
theorem SlT.srcOwn {m : Mem} {n : Nat} {opn : Bool} {bt : TypeId} {es : List (List AV)} (hm : m n = some (.cells opn bt es.flatten)) (hes : ∀ e ∈ es, e.length = j.size) {k q cap : Nat} (hk : k + q ≤ es.length)
    (h1 : ∀ x ∈ ((es.drop k).take q).flatten, x.one = true) : srcA P m t j.size (.sl n (k * j.size) q cap) = some (q, ((es.drop k).take q).flatten) := let ⟨_, a, b⟩ := T.ht; src_own a b hm hes hk h1
end
structure Is (P : Program) (f : FuncId) (lc : LC) (n : Nat) (rs : List ResultVar) : Prop where
  ex : ∃ fn, P.funcs[f]? = some fn ∧ fn.body.map leanC = some lc ∧ fn.ntmps = n ∧ fn.results.toList = rs ∧ (fn.name == "runtime.NumGoroutine") = false
  mixed : P.follows .mixedOrders = true
theorem C.of_is {f : FuncId} {lc : LC} {n : Nat} {rs : List ResultVar} (h : Is P f lc n rs) {args env : List AV} {m : Mem} {K' : AV → Mem → Prop} (he : args ++ List.replicate (n - args.length) (.tup []) = env)
    (hV : V P none lc (fun e env m => endK e (got (resL P m env rs) (hid (fun r => K' r m) .mk))) env m) : C P f args m K' := by
  obtain ⟨⟨fn, h1, h2, h3, h4, h5⟩, hm⟩ := h
  refine C.of_code h1 h2 h3 rfl h5 hm he ?_
  rw [h4]
  exact hV
theorem F.of_is {f : FuncId} {lc : LC} {n : Nat} {rs : List ResultVar} (h : Is P f lc n rs) {args env : List AV} {R : AV} (he : args ++ List.replicate (n - args.length) (.tup []) = env)
    (hV : V P none lc (fun e env m => endK e (got (resL P m env rs) (hid (fun r => New m r R) .mk))) env nomem) : F P f args R := F.of_C (C.of_is h he hV)
theorem Is.fn {f : FuncId} {lc : LC} {n : Nat} {rs : List ResultVar} (h : Is P f lc n rs) : IsFn P f := by
  obtain ⟨⟨fn, h1, h2, h3, h4, h5⟩, hm⟩ := h
  refine ⟨fn, h1, ?_, h5⟩
  cases hb : fn.body with
  | none => rw [hb] at h2; cases h2
  | some c => rfl
theorem New.eq {m : Mem} {x R : AV} (h : x = R) (hf : x.flat = true) : New m x R := h ▸ New.flat hf
theorem copied_part (l : List AV) : setRange l 0 l = l := by simp [setRange]
end Go.Abs
