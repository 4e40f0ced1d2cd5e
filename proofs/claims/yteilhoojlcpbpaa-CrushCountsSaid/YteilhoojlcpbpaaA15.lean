/- The abstract layer, fifteenth part: contracts that touch no memory, and how they are used where memory is. -/
import Derived.Test.YteilhoojlcpbpaaA14
set_option linter.unusedVariables false
set_option linter.unusedSimpArgs false
namespace Go.Abs
variable {P : Program}

/-! ### What is known otherwise of one and the same value -/
def Gh (P : Program) (r : AV) (m : Mem) (r' : AV) (m' : Mem) : Prop := ∀ κ w cv, Sim P κ m w → Rel κ r cv → ∃ κ', Step P κ m w κ' m' w ∧ Rel κ' r' cv
theorem Gh.refl (r : AV) (m : Mem) : Gh P r m r m := fun κ w cv hs hr => ⟨κ, Step.refl hs, hr⟩
theorem Gh.trans {r r' r'' : AV} {m m' m'' : Mem} (h : Gh P r m r' m') (h' : Gh P r' m' r'' m'') : Gh P r m r'' m'' := fun κ w cv hs hr =>
  let ⟨κ', a, b⟩ := h κ w cv hs hr
  let ⟨κ'', c, d⟩ := h' κ' w cv a.sim b
  ⟨κ'', a.trans c, d⟩
theorem Gh.drop (r : AV) {m m' : Mem} (h : m'.sub m) : Gh P r m r m' := fun κ w cv hs hr => ⟨κ, (Step.refl hs).sub h, hr⟩
theorem C.gh {f : FuncId} {args : List AV} {m : Mem} {K' K'' : AV → Mem → Prop} (h : C P f args m K') (hg : ∀ r m', K' r m' → ∃ r' m'', Gh P r m' r' m'' ∧ K'' r' m'') : C P f args m K'' :=
  ⟨h.1, fun κ w cargs hs hr => (h.2 κ w cargs hs hr).mono fun e w' ⟨cv, r, m', κ', a, b, c, d⟩ =>
    let ⟨r', m'', g, k⟩ := hg r m' b
    let ⟨κ'', x, y⟩ := g κ' w' cv c.sim d
    ⟨cv, r', m'', κ'', a, k, c.trans x, y⟩⟩

/-! ### All that is one's own, told for good -/
def nomem : Mem := fun _ => none
theorem nomem_sub (m : Mem) : nomem.sub m := fun _ _ h => by cases h
/-- The cells of the own blocks, in a world. -/
noncomputable def frozenProt (κ : K) (m : Mem) (w : World) : Nat → Nat → Option Value := by
  classical
  exact fun c o => match κ.prot c o with
    | some v => some v
    | none => if ∃ n l opn t cs, m n = some (.cells opn t cs) ∧ κ.rho n = some (some l) ∧ l.blk = c ∧ l.base ≤ o ∧ o < l.base + cs.length then w.cell? ⟨c, o, none⟩ else none
theorem freezeAll' {κ : K} {m : Mem} {w : World} (hs : Sim P κ m w) : ∃ κ', κ.le κ' ∧ Sim P κ' nomem w ∧ κ'.rho = κ.rho ∧ (∀ c o, κ'.prot c o ≠ none → κ.prot c o ≠ none ∨ Backs κ m c) ∧
    ∀ n opn t cs l, m n = some (.cells opn t cs) → κ.rho n = some (some l) → ∃ f : Nat → Value, ∀ i (h : i < cs.length), κ'.prot l.blk (l.base + i) = some (f i) ∧ Rel κ' cs[i] (f i) := by
  have hle : κ.le { prot := frozenProt κ m w, rho := κ.rho } := ⟨fun c o v h => by simp [frozenProt, h], fun _ _ h => h⟩
  refine ⟨_, hle, ⟨?_, (fun n b h => by cases h), hs.lt, (fun n n' l l' _ h => absurd rfl h), ?_⟩, rfl, ?_, ?_⟩
  · intro c o v h
    simp only [frozenProt] at h
    cases hp : κ.prot c o with
    | some v' => rw [hp] at h; cases h; exact hs.prot c o _ hp
    | none =>
      rw [hp] at h
      simp only at h
      split at h
      · exact h
      · cases h
  · obtain ⟨N, hN⟩ := hs.fin
    exact ⟨N, fun n hn => ⟨(hN n hn).1, rfl⟩⟩
  · intro c o h
    simp only [frozenProt] at h
    cases hp : κ.prot c o with
    | some v' => exact .inl (by simp)
    | none =>
      rw [hp] at h
      simp only at h
      split at h
      · rename_i hc
        obtain ⟨n, l, opn, t, cs, hm, hl, e, _⟩ := hc
        exact .inr ⟨n, l, hl, by rw [hm]; simp, e⟩
      · exact absurd rfl h
  · intro n opn t cs l hm hl
    rcases hs.blk n _ hm with ⟨l', e1, e2, e3⟩ | ⟨e1, _⟩
    · rw [hl] at e1; cases e1
      obtain ⟨arr, t', fz, z1, z2, z3, z4, z5, z6, z7⟩ := e2
      refine ⟨fun i => (arr[l.base + i]?).getD (.bool false), fun i hi => ?_⟩
      obtain ⟨cv, y1, y2⟩ := z7 i hi
      simp only [y1, Option.getD_some]
      refine ⟨?_, y2.mono hle⟩
      simp only [frozenProt, e3]
      rw [if_pos ⟨n, l, opn, t, cs, hm, hl, rfl, by omega, by omega⟩]
      simp [World.cell?, z1, y1]
    · rw [hl] at e1; cases e1

theorem freezeAll {κ : K} {m : Mem} {w : World} (hs : Sim P κ m w) : ∃ κ', κ.le κ' ∧ Sim P κ' nomem w ∧ κ'.rho = κ.rho ∧
    ∀ n opn t cs l, m n = some (.cells opn t cs) → κ.rho n = some (some l) → ∃ f : Nat → Value, ∀ i (h : i < cs.length), κ'.prot l.blk (l.base + i) = some (f i) ∧ Rel κ' cs[i] (f i) :=
  let ⟨κ', a, b, c, _, d⟩ := freezeAll' hs; ⟨κ', a, b, c, d⟩

/-- `Seen m x' x`: what is x' where the own blocks are m is x once they are told for good. -/
inductive Seen (m : Mem) : AV → AV → Prop
  | same {x : AV} : Seen m x x
  | nilS {x : Bool} : Seen m (.val (.slice none 0 0)) (.vs [] x)
  | agg {cs cs' : List AV} : cs.length = cs'.length → (∀ i (h : i < cs.length) (h' : i < cs'.length), Seen m cs[i] cs'[i]) → Seen m (.agg cs) (.agg cs')
  | tup {cs cs' : List AV} : cs.length = cs'.length → (∀ i (h : i < cs.length) (h' : i < cs'.length), Seen m cs[i] cs'[i]) → Seen m (.tup cs) (.tup cs')
  | sl {n off len cap s : Nat} {opn : Bool} {t : TypeId} {cs : List AV} {es : List (List AV)} : m n = some (.cells opn t cs) → off + len * s ≤ cs.length → es.length = len → (∀ e ∈ es, e.length = s) →
      (∀ i (hi : i < es.length) j (hj : j < es[i].length) (hk : off + (i * s + j) < cs.length), Seen m cs[off + (i * s + j)] es[i][j]) → Seen m (.sl n off len cap) (.vs es false)
  | ptr {n off : Nat} {opn : Bool} {t : TypeId} {cs cs' : List AV} : m n = some (.cells opn t cs) → 0 < cs.length → cs.length = cs'.length → (∀ i (h : i < cs.length) (h' : i < cs'.length), Seen m cs[i] cs'[i]) → Seen m (.ptr n off) (.vp cs' off)
  | fn {f : Fn} {fs fs' cs cs' : List AV} : fs.length = fs'.length → (∀ i (h : i < fs.length) (h' : i < fs'.length), Seen m fs[i] fs'[i]) →
      cs.length = cs'.length → (∀ i (h : i < cs.length) (h' : i < cs'.length), Seen m cs[i] cs'[i]) → Seen m (.fn f fs cs) (.fn f fs' cs')

theorem seen_rel {κ κ' : K} {m : Mem} {w : World} (hs : Sim P κ m w) (hle : κ.le κ') (hrho : κ'.rho = κ.rho)
    (hf : ∀ n opn t cs l, m n = some (.cells opn t cs) → κ.rho n = some (some l) → ∃ f : Nat → Value, ∀ i (h : i < cs.length), κ'.prot l.blk (l.base + i) = some (f i) ∧ Rel κ' cs[i] (f i)) :
    ∀ {x x' : AV}, Seen m x x' → ∀ {cv : Value}, Rel κ' x cv → Rel κ' x' cv := by
  intro x x' h
  induction h with
  | same => exact fun h => h
  | nilS => intro cv hr; obtain ⟨rfl, _⟩ := hr.val_inv; exact .vnil
  | agg hl _ ih =>
    intro cv hr
    cases hr with
    | agg g1 g2 => exact .agg (hl ▸ g1) (fun i a b => ih i (hl ▸ a) a (g2 i (hl ▸ a) b))
  | tup hl _ ih =>
    intro cv hr
    cases hr with
    | tup g1 g2 => exact .tup (hl ▸ g1) (fun i a b => ih i (hl ▸ a) a (g2 i (hl ▸ a) b))
  | @sl n off len cap s opn t cs es hm hfit hlen hes hsn ih =>
    intro cv hr
    have nil : es.length = 0 → es = [] := List.eq_nil_of_length_eq_zero
    cases hr with
    | snil =>
      rw [nil hlen]; exact .vnil
    | szero =>
      rw [nil hlen]; exact .vz
    | @sl _ _ _ _ cap' c' o' l q1 q2 q3 q4 =>
      by_cases h0 : len = 0
      · subst h0
        rw [nil hlen]
        exact @Rel.vs κ' [] false c' o' 0 cap' (fun _ _ => .bool false) (fun e h => by simp at h) (Nat.zero_le _) (fun h => by simp at h) (fun i j h => by simp at h) (fun i h => by simp at h)
      · have ha : c' = l.blk ∧ o' = l.base + off := by
          rcases q4 with q4 | q4
          · rcases q2 with q2 | q2 <;> omega
          · exact q4
        obtain ⟨rfl, rfl⟩ := ha
        rw [hrho] at q1
        obtain ⟨f, hf⟩ := hf n opn t cs l hm q1
        subst hlen
        have hb : ∀ i j, i < es.length → j < s → off + (i * s + j) < cs.length := fun i j hi hj => by
          have : (i + 1) * s ≤ es.length * s := Nat.mul_le_mul_right _ (by omega)
          rw [Nat.add_mul] at this; omega
        refine .vs (fun i j => f (off + (i * s + j))) hes (by rcases q2 with q2 | q2 <;> omega) (fun h => by cases h) (fun i j hi hj => ?_) (fun i hi j hj => ?_)
        · rw [Nat.add_assoc]; exact (hf _ (hb i j hi hj)).1
        · have hjs : j < s := by rw [← hes _ (List.getElem_mem hi)]; exact hj
          exact ih i hi j hj (hb i j hi hjs) (hf _ (hb i j hi hjs)).2
  | @ptr n off opn t cs cs' hm hpos hl hsn ih =>
    intro cv hr
    cases hr with
    | @ptr _ _ l q1 =>
      rw [hrho] at q1
      obtain ⟨f, hf⟩ := hf n opn t cs l hm q1
      exact .vp f (fun j hj => (hf j (hl ▸ hj)).1) (fun j hj => ih j (hl ▸ hj) hj (hf j (hl ▸ hj)).2)
  | fn hl _ hl' _ ih ih' =>
    intro cv hr
    cases hr with
    | fn g0 g1 g2 g3 g4 => exact .fn g0 (hl ▸ g1) (fun i a b => ih i (hl ▸ a) a (g2 i (hl ▸ a) b)) (hl' ▸ g3) (fun i a b => ih' i (hl' ▸ a) a (g4 i (hl' ▸ a) b))

def Seens (m : Mem) (xs xs' : List AV) : Prop := xs.length = xs'.length ∧ ∀ i (h : i < xs.length) (h' : i < xs'.length), Seen m xs[i] xs'[i]
theorem Seens.refl (m : Mem) (xs : List AV) : Seens m xs xs := ⟨rfl, fun _ _ _ => .same⟩
theorem Seens.nil (m : Mem) : Seens m [] [] := .refl ..
theorem Seens.cons {m : Mem} {x x' : AV} {xs xs' : List AV} (h : Seen m x x') (hs : Seens m xs xs') : Seens m (x :: xs) (x' :: xs') :=
  ⟨by simp [hs.1], fun i a b => by cases i with
    | zero => exact h
    | succ i => exact hs.2 i (by simpa using a) (by simpa using b)⟩

/-! ### Contracts that touch no memory -/
/-- The cells of new blocks alone. -/
def K.above (κ : K) (B : Nat) : K := { prot := fun c o => if B ≤ c then κ.prot c o else none, rho := fun _ => none }
theorem K.above_le {κ : K} {B : Nat} : (κ.above B).le κ := by
  refine ⟨fun c o v h => ?_, fun n l h => by cases h⟩
  unfold K.above at h
  simp only at h
  split at h
  · exact h
  · cases h

/-- Function f, called so, returns R; R is new through and through, and nothing that lay there is changed. -/
def F (P : Program) (f : FuncId) (args : List AV) (R : AV) : Prop :=
  (∃ fn, P.funcs[f]? = some fn ∧ fn.body.isNone = false ∧ (fn.name == "runtime.NumGoroutine") = false) ∧
  ∀ κ w cargs, Sim P κ nomem w → Rels κ args cargs → CallsIn Fence.wide 0 P f cargs w fun e w' => ∃ cv κ', e = .returned cv ∧ Step P κ nomem w κ' nomem w' ∧ Rel (κ'.above w.heap.size) R cv

/-- Used where memory is: own blocks may be handed in to be read. -/
theorem C.of_F {f : FuncId} {args args' : List AV} {R : AV} (h : F P f args R) {m : Mem} (hseen : Seens m args' args) {K' : AV → Mem → Prop} (hk : K' R m) : C P f args' m K' := by
  refine ⟨h.1, fun κ w cargs hs hr => ?_⟩
  obtain ⟨κ1, hle, hs1, hrho, hf⟩ := freezeAll hs
  have hr1 : Rels κ1 args cargs := ⟨hseen.1 ▸ hr.1, fun i a b => seen_rel hs hle hrho hf (hseen.2 i (hseen.1 ▸ a) a) ((hr.2 i (hseen.1 ▸ a) b).mono hle)⟩
  refine (h.2 κ1 w cargs hs1 hr1).mono ?_
  rintro e w' ⟨cv, κ2, rfl, hst, hrel⟩
  have hheap : ∀ c, c < w.heap.size → w'.heap[c]? = w.heap[c]? := fun c hc => hst.frame c hc fun ⟨n, l, _, h, _⟩ => h rfl
  -- the own blocks are the run's own again; what is new and told for good stays so
  let κ3 : K := { prot := fun c o => if w.heap.size ≤ c then κ2.prot c o else κ.prot c o, rho := κ.rho }
  have hle3 : κ.le κ3 := by
    refine ⟨fun c o v h => ?_, fun _ _ h => h⟩
    have := hs.protLt h
    simp only [κ3]
    rw [if_neg (by omega)]; exact h
  have hab : (κ2.above w.heap.size).le κ3 := by
    refine ⟨fun c o v h => ?_, fun n l h => by cases h⟩
    unfold K.above at h
    simp only at h
    split at h
    · rename_i hc; simp only [κ3]; rw [if_pos hc]; exact h
    · cases h
  refine ⟨cv, R, m, κ3, rfl, hk, ⟨hle3, ⟨?_, ?_, ?_, hs.excl, hs.fin⟩, hst.size, fun c hc _ => hheap c hc, fun _ _ h => h, hst.os, hst.tape, hst.output, fun c o hc hp => .inl (by simp only [κ3] at hp; rwa [if_neg (by omega)] at hp), fun _ _ h => h⟩, hrel.mono hab⟩
  · intro c o v hp
    simp only [κ3] at hp
    split at hp
    · exact hst.sim.prot c o v hp
    · rw [cell_of_heap (hheap c (hs.protLt hp))]; exact hs.prot c o v hp
  · intro k b hk
    rcases hs.blk k b hk with ⟨l, h1, h2, h3⟩ | h'
    · refine .inl ⟨l, h1, (h2.congr (hheap _ h2.lt)).mono hle3, fun o => ?_⟩
      have := h2.lt
      simp only [κ3]
      rw [if_neg (by omega)]; exact h3 o
    · exact .inr h'
  · exact fun k l hk => Nat.lt_of_lt_of_le (hs.lt k l hk) hst.size

/-- `New m x R`: x, out of own blocks and plain values alone, is R once told for good. -/
inductive New (m : Mem) : AV → AV → Prop
  | val {v : Value} : New m (.val v) (.val v)
  | agg {cs cs' : List AV} : cs.length = cs'.length → (∀ i (h : i < cs.length) (h' : i < cs'.length), New m cs[i] cs'[i]) → New m (.agg cs) (.agg cs')
  | tup {cs cs' : List AV} : cs.length = cs'.length → (∀ i (h : i < cs.length) (h' : i < cs'.length), New m cs[i] cs'[i]) → New m (.tup cs) (.tup cs')
  | vnil {x x' : Bool} : New m (.vs [] x) (.vs [] false)
  | nil : New m (.val (.slice none 0 0)) (.vs [] false)
  | sl {n off len cap s : Nat} {opn : Bool} {t : TypeId} {cs : List AV} {es : List (List AV)} : m n = some (.cells opn t cs) → off + len * s ≤ cs.length → es.length = len → (∀ e ∈ es, e.length = s) →
      (∀ i (hi : i < es.length) j (hj : j < es[i].length) (hk : off + (i * s + j) < cs.length), New m cs[off + (i * s + j)] es[i][j]) → New m (.sl n off len cap) (.vs es false)
  | ptr {n off : Nat} {opn : Bool} {t : TypeId} {cs cs' : List AV} : m n = some (.cells opn t cs) → 0 < cs.length → cs.length = cs'.length → (∀ i (h : i < cs.length) (h' : i < cs'.length), New m cs[i] cs'[i]) → New m (.ptr n off) (.vp cs' off)
  | fn {f : Fn} {fs fs' cs cs' : List AV} : fs.length = fs'.length → (∀ i (h : i < fs.length) (h' : i < fs'.length), New m fs[i] fs'[i]) →
      cs.length = cs'.length → (∀ i (h : i < cs.length) (h' : i < cs'.length), New m cs[i] cs'[i]) → New m (.fn f fs cs) (.fn f fs' cs')

theorem new_rel {κ κ' : K} {m : Mem} {B : Nat} (hrho : κ'.rho = κ.rho) (hB : ∀ n l, m n ≠ none → κ.rho n = some (some l) → B ≤ l.blk)
    (hf : ∀ n opn t cs l, m n = some (.cells opn t cs) → κ.rho n = some (some l) → ∃ f : Nat → Value, ∀ i (h : i < cs.length), κ'.prot l.blk (l.base + i) = some (f i) ∧ Rel κ' cs[i] (f i)) :
    ∀ {x x' : AV}, New m x x' → ∀ {cv : Value}, Rel κ' x cv → Rel (κ'.above B) x' cv := by
  intro x x' h
  induction h with
  | val => intro cv hr; cases hr with | val hp => exact .val hp
  | agg hl _ ih =>
    intro cv hr
    cases hr with
    | agg g1 g2 => exact .agg (hl ▸ g1) (fun i a b => ih i (hl ▸ a) a (g2 i (hl ▸ a) b))
  | tup hl _ ih =>
    intro cv hr
    cases hr with
    | tup g1 g2 => exact .tup (hl ▸ g1) (fun i a b => ih i (hl ▸ a) a (g2 i (hl ▸ a) b))
  | vnil =>
    intro cv hr
    cases hr with
    | vnil => exact .vnil
    | vz => exact .vz
    | vs f q1 q2 q3 q4 q5 => exact .vs f (s := 0) (fun e h => by simp at h) q2 (fun h => by cases h) (fun i j h => by simp at h) (fun i h => by simp at h)
  | nil => intro cv hr; obtain ⟨rfl, _⟩ := hr.val_inv; exact .vnil
  | @sl n off len cap s opn t cs es hm hfit hlen hes hsn ih =>
    intro cv hr
    have nil : es.length = 0 → es = [] := List.eq_nil_of_length_eq_zero
    cases hr with
    | snil => rw [nil hlen]; exact .vnil
    | szero =>
      rw [nil hlen]; exact .vz
    | @sl _ _ _ _ cap' c' o' l q1 q2 q3 q4 =>
      by_cases h0 : len = 0
      · subst h0
        rw [nil hlen]
        exact .vs (es := []) (s := 0) (fun _ _ => .bool false) (fun e h => by simp at h) (Nat.zero_le _) (fun h => by simp at h) (fun i j h => by simp at h) (fun i h => by simp at h)
      · have ha : c' = l.blk ∧ o' = l.base + off := by
          rcases q4 with q4 | q4
          · rcases q2 with q2 | q2 <;> omega
          · exact q4
        obtain ⟨rfl, rfl⟩ := ha
        rw [hrho] at q1
        obtain ⟨f, hf⟩ := hf n opn t cs l hm q1
        have hBl := hB n l (by rw [hm]; simp) q1
        subst hlen
        have hb : ∀ i j, i < es.length → j < s → off + (i * s + j) < cs.length := fun i j hi hj => by
          have : (i + 1) * s ≤ es.length * s := Nat.mul_le_mul_right _ (by omega)
          rw [Nat.add_mul] at this; omega
        refine .vs (fun i j => f (off + (i * s + j))) hes (by rcases q2 with q2 | q2 <;> omega) (fun h => by cases h) (fun i j hi hj => ?_) (fun i hi j hj => ?_)
        · simp only [K.above]
          rw [if_pos hBl, Nat.add_assoc]; exact (hf _ (hb i j hi hj)).1
        · have hjs : j < s := by rw [← hes _ (List.getElem_mem hi)]; exact hj
          exact ih i hi j hj (hb i j hi hjs) (hf _ (hb i j hi hjs)).2
  | @ptr n off opn t cs cs' hm hpos hl hsn ih =>
    intro cv hr
    cases hr with
    | @ptr _ _ l q1 =>
      rw [hrho] at q1
      obtain ⟨f, hf⟩ := hf n opn t cs l hm q1
      have hBl := hB n l (by rw [hm]; simp) q1
      exact .vp f (fun j hj => by simp only [K.above]; rw [if_pos hBl]; exact (hf j (hl ▸ hj)).1) (fun j hj => ih j (hl ▸ hj) hj (hf j (hl ▸ hj)).2)
  | fn hl _ hl' _ ih ih' =>
    intro cv hr
    cases hr with
    | fn g0 g1 g2 g3 g4 => exact .fn g0 (hl ▸ g1) (fun i a b => ih i (hl ▸ a) a (g2 i (hl ▸ a) b)) (hl' ▸ g3) (fun i a b => ih' i (hl' ▸ a) a (g4 i (hl' ▸ a) b))

/-- Out of a contract that starts without memory. -/
theorem F.of_C {f : FuncId} {args : List AV} {R : AV} (h : C P f args nomem (fun r m' => New m' r R)) : F P f args R := by
  refine ⟨h.1, fun κ w cargs hs hr => (h.2 κ w cargs hs hr).mono ?_⟩
  rintro e w' ⟨cv, r, m', κ', rfl, hnew, hst, hrel⟩
  obtain ⟨κ1, hle, hs1, hrho, hpo, hf⟩ := freezeAll' hst.sim
  refine ⟨cv, κ1, rfl, ⟨hst.le.trans hle, hs1, hst.size, hst.frame, fun c hc ⟨n, l, _, h, _⟩ => absurd rfl h, hst.os, hst.tape, hst.output,
    fun c o hc hp => (hpo c o hp).elim (hst.porigin c o hc) (fun hb => .inr (hst.origin c hc hb)), fun _ _ h => h⟩, ?_⟩
  refine new_rel (κ := κ') hrho (fun n l hn hl => ?_) hf hnew (hrel.mono hle)
  rcases Nat.lt_or_ge l.blk w.heap.size with hlt | hge
  · obtain ⟨n', l', _, h', _⟩ := hst.origin l.blk hlt ⟨n, l, hl, hn, rfl⟩
    exact absurd rfl h'
  · exact hge

/-- A result that is a new row of the run's own. -/
def O (P : Program) (f : FuncId) (args : List AV) (t : TypeId) (len : Nat) (cs : List AV) : Prop :=
  C P f args nomem fun r m' => ∃ n, r = .sl n 0 len len ∧ m' n = some (.cells true t cs)
end Go.Abs
