/- An abstract layer over the machine: abstract values and memory, what they stand for in a world, and what a step keeps. -/
import Derived.CallsIn
import Derived.RangeFuncCalls
import Derived.RangeFuncLeaves
import Derived.OrdersIn
import Derived.Laws.World
import Derived.Laws.Sem
import Derived.Laws.Append
import Derived.KernelRfl
set_option linter.unusedVariables false
set_option linter.unusedSimpArgs false
namespace Go.Abs

/-- An abstract value. `vs`: a slice that is only read, its elements' cells (x: its capacity is its length); `vp`: a pointer into such cells; `ptr`, `sl`: into a block of the run's own. -/
inductive AV where
  | val (v : Value)
  | agg (cs : List AV)
  | tup (vs : List AV)
  | vs (es : List (List AV)) (x : Bool)
  | vp (cs : List AV) (off : Nat)
  | ptr (n off : Nat)
  | sl (n off len cap : Nat)
  | fn (f : Fn) (first caps : List AV)
  | yld (n : Nat)
  | ifc (t : TypeId) (v : AV)
  | map (n : Nat)
  | junk

instance : Inhabited AV := ⟨.junk⟩

def plain : Value → Bool
  | .bool _ | .int _ _ | .float _ _ | .complex _ _ _ | .string _ | .pointer none | .slice none 0 0 | .map none | .chan none | .nilFunc | .nilIface => true
  | _ => false

def staticFn : Fn → Bool
  | .func _ => true
  | _ => false

/-- Where an own block lies: its block, the first cell, an element's cells, how many cells, and how many elements more there may be room for. -/
structure Loc where
  blk : Nat
  base : Nat
  size : Nat
  top : Nat
  ext : Nat

/-- What abstract values are read by: cells that no one writes any more, and where the own blocks lie. -/
structure K where
  prot : Nat → Nat → Option Value
  rho : Nat → Option (Option Loc)

structure K.le (κ κ' : K) : Prop where
  prot : ∀ c o v, κ.prot c o = some v → κ'.prot c o = some v
  rho : ∀ n l, κ.rho n = some l → κ'.rho n = some l
theorem K.le.refl (κ : K) : κ.le κ := ⟨fun _ _ _ h => h, fun _ _ h => h⟩
theorem K.le.trans {κ κ' κ'' : K} (h : κ.le κ') (h' : κ'.le κ'') : κ.le κ'' := ⟨fun _ _ _ x => h'.prot _ _ _ (h.prot _ _ _ x), fun _ _ x => h'.rho _ _ (h.rho _ _ x)⟩

inductive Rel (κ : K) : AV → Value → Prop
  | val {v : Value} : plain v = true → Rel κ (.val v) v
  | agg {cs : List AV} {ca : Array Value} : cs.length = ca.size → (∀ i (h : i < cs.length) (h' : i < ca.size), Rel κ cs[i] ca[i]) → Rel κ (.agg cs) (.agg ca)
  | tup {cs : List AV} {ca : Array Value} : cs.length = ca.size → (∀ i (h : i < cs.length) (h' : i < ca.size), Rel κ cs[i] ca[i]) → Rel κ (.tup cs) (.tuple ca)
  | vnil {x : Bool} : Rel κ (.vs [] x) (.slice none 0 0)
  | vz {x : Bool} {a : Addr} : Rel κ (.vs [] x) (.slice (some a) 0 0)
  | vs {es : List (List AV)} {x : Bool} {c o s cap : Nat} (f : Nat → Nat → Value) : (∀ e ∈ es, e.length = s) → es.length ≤ cap → (x = true → cap = es.length) →
      (∀ i j, i < es.length → j < s → κ.prot c (o + (i * s + j)) = some (f i j)) →
      (∀ i (hi : i < es.length) j (hj : j < es[i].length), Rel κ es[i][j] (f i j)) → Rel κ (.vs es x) (.slice (some ⟨c, o, none⟩) es.length cap)
  | vp {cs : List AV} {off c o : Nat} (f : Nat → Value) : (∀ j, j < cs.length → κ.prot c (o + j) = some (f j)) →
      (∀ j (h : j < cs.length), Rel κ cs[j] (f j)) → Rel κ (.vp cs off) (.pointer (some ⟨c, o + off, none⟩))
  | ptr {n off : Nat} {l : Loc} : κ.rho n = some (some l) → Rel κ (.ptr n off) (.pointer (some ⟨l.blk, l.base + off, none⟩))
  | snil {n off : Nat} : Rel κ (.sl n off 0 0) (.slice none 0 0)
  | szero {n off : Nat} {a : Addr} : Rel κ (.sl n off 0 0) (.slice (some a) 0 0)
  | sl {n off len cap cap' c' o' : Nat} {l : Loc} : κ.rho n = some (some l) → (cap' = cap ∨ (off + cap * l.size = l.top ∧ cap' = cap + l.ext)) → len ≤ cap →
      (cap' = 0 ∨ (c' = l.blk ∧ o' = l.base + off)) → Rel κ (.sl n off len cap) (.slice (some ⟨c', o', none⟩) len cap')
  | fn {f : Fn} {fs cs : List AV} {fa ca : Array Value} : staticFn f = true → fs.length = fa.size → (∀ i (h : i < fs.length) (h' : i < fa.size), Rel κ fs[i] fa[i]) →
      cs.length = ca.size → (∀ i (h : i < cs.length) (h' : i < ca.size), Rel κ cs[i] ca[i]) → Rel κ (.fn f fs cs) (.func f fa ca)
  | yld {n : Nat} {l : Loc} : κ.rho n = some (some l) → Rel κ (.yld n) (.func (.yield l.blk) #[] #[])
  | ifc {t : TypeId} {v : AV} {cv : Value} : Rel κ v cv → Rel κ (.ifc t v) (.iface t cv)
  | map {n : Nat} {l : Loc} : κ.rho n = some (some l) → Rel κ (.map n) (.map (some l.blk))
  | junk {v : Value} : Rel κ .junk v

theorem Rel.mono {κ κ' : K} (hk : κ.le κ') {v : AV} {cv : Value} (h : Rel κ v cv) : Rel κ' v cv := by
  induction h with
  | val hp => exact .val hp
  | agg hl _ ih => exact .agg hl ih
  | tup hl _ ih => exact .tup hl ih
  | vnil => exact .vnil
  | vz => exact .vz
  | vs f h1 h2 h3 h4 _ ih => exact .vs f h1 h2 h3 (fun i j hi hj => hk.prot _ _ _ (h4 i j hi hj)) ih
  | vp f h1 _ ih => exact .vp f (fun j hj => hk.prot _ _ _ (h1 j hj)) ih
  | ptr h => exact .ptr (hk.rho _ _ h)
  | snil => exact .snil
  | szero => exact .szero
  | sl h h1 h2 h3 => exact .sl (hk.rho _ _ h) h1 h2 h3
  | fn hs h1 _ h3 _ ih ih' => exact .fn hs h1 ih h3 ih'
  | yld h => exact .yld (hk.rho _ _ h)
  | ifc _ ih => exact .ifc ih
  | map h => exact .map (hk.rho _ _ h)
  | junk => exact .junk

/-- A list of values, each as it is read. -/
def Rels (κ : K) (vs : List AV) (cs : Array Value) : Prop := vs.length = cs.size ∧ ∀ i (h : i < vs.length) (h' : i < cs.size), Rel κ vs[i] cs[i]
theorem Rels.mono {κ κ' : K} (hk : κ.le κ') {vs : List AV} {cs : Array Value} (h : Rels κ vs cs) : Rels κ' vs cs := ⟨h.1, fun i a b => (h.2 i a b).mono hk⟩

/-- A block of the run's own. -/
inductive Blk where
  | cells (opn : Bool) (t : TypeId) (cs : List AV)
  | map (es : List (Value × AV))
  | loop (st : LoopState) (pend : Option Code) (env : List AV) (ps : Array Tmp) (asg body : Code)

abbrev Mem := Nat → Option Blk
def Mem.set (m : Mem) (n : Nat) (b : Blk) : Mem := fun k => if k = n then some b else m k
def Mem.del (m : Mem) (n : Nat) : Mem := fun k => if k = n then none else m k

/-- What an own block's memory is in a world. -/
def BlkOK (P : Program) (κ : K) (w : World) (l : Loc) : Blk → Prop
  | .cells opn t cs => ∃ arr t' fz, w.heap[l.blk]? = some (.cells arr t' fz) ∧ (∀ i, i ≤ arr.size → ¬ (fz.1 ≤ i ∧ i < fz.2)) ∧ l.top = cs.length ∧ l.base + l.top + l.ext * l.size ≤ arr.size ∧
      (opn = false → l.ext = 0) ∧ (opn = true → l.size = P.cellsOf t) ∧ ∀ i (h : i < cs.length), ∃ cv, arr[l.base + i]? = some cv ∧ Rel κ cs[i] cv
  | .map es => ∃ ents clock, w.heap[l.blk]? = some (.map ents clock) ∧ es.length = ents.size ∧
      ∀ i (h : i < es.length) (h' : i < ents.size), es[i].1 = ents[i].key ∧ Rel κ es[i].2 ents[i].val
  | .loop st pend env ps asg body => ∃ r : Loop, w.heap[l.blk]? = some (.loop r) ∧ r.state = st ∧ r.pending = pend ∧ Rels κ env r.tmps ∧ r.params = ps ∧ r.assign = asg ∧ r.body = body

structure Sim (P : Program) (κ : K) (m : Mem) (w : World) : Prop where
  prot : ∀ c o v, κ.prot c o = some v → w.cell? ⟨c, o, none⟩ = some v
  blk : ∀ n b, m n = some b → (∃ l, κ.rho n = some (some l) ∧ BlkOK P κ w l b ∧ ∀ o, κ.prot l.blk o = none) ∨ (κ.rho n = some none ∧ ∃ t, b = .cells true t [])
  lt : ∀ n l, κ.rho n = some (some l) → l.blk < w.heap.size
  excl : ∀ n n' l l', n ≠ n' → m n ≠ none → m n' ≠ none → κ.rho n = some (some l) → κ.rho n' = some (some l') → l.blk ≠ l'.blk
  fin : ∃ N, ∀ n, N ≤ n → κ.rho n = none ∧ m n = none

theorem Sim.fresh {P : Program} {κ : K} {m : Mem} {w : World} (h : Sim P κ m w) : ∃ n, κ.rho n = none ∧ m n = none := let ⟨N, hN⟩ := h.fin; ⟨N, hN N (Nat.le_refl _)⟩
theorem Sim.protLt {P : Program} {κ : K} {m : Mem} {w : World} (h : Sim P κ m w) {c o : Nat} {v : Value} (hp : κ.prot c o = some v) : c < w.heap.size :=
  World.block_lt_of_cell? w ⟨c, o, none⟩ (h.prot c o v hp)

/-- The block `c` lies behind a live own block. -/
def Backs (κ : K) (m : Mem) (c : Nat) : Prop := ∃ n l, κ.rho n = some (some l) ∧ m n ≠ none ∧ l.blk = c

/-- From one state to a later one. -/
structure Step (P : Program) (κ : K) (m : Mem) (w : World) (κ' : K) (m' : Mem) (w' : World) : Prop where
  le : κ.le κ'
  sim : Sim P κ' m' w'
  size : w.heap.size ≤ w'.heap.size
  frame : ∀ c, c < w.heap.size → ¬ Backs κ m c → w'.heap[c]? = w.heap[c]?
  origin : ∀ c, c < w.heap.size → Backs κ' m' c → Backs κ m c
  os : w'.os = w.os
  tape : w'.tape = w.tape
  output : w'.output = w.output
  porigin : ∀ c o, c < w.heap.size → κ'.prot c o ≠ none → κ.prot c o ≠ none ∨ Backs κ m c
  dead : ∀ n, κ.rho n ≠ none → m n = none → m' n = none

theorem Step.refl {P : Program} {κ : K} {m : Mem} {w : World} (h : Sim P κ m w) : Step P κ m w κ m w := ⟨.refl _, h, Nat.le_refl _, fun _ _ _ => rfl, fun _ _ h => h, rfl, rfl, rfl, fun _ _ _ h => .inl h, fun _ _ h => h⟩
theorem Step.trans {P : Program} {κ κ' κ'' : K} {m m' m'' : Mem} {w w' w'' : World} (h : Step P κ m w κ' m' w') (h' : Step P κ' m' w' κ'' m'' w'') : Step P κ m w κ'' m'' w'' :=
  ⟨h.le.trans h'.le, h'.sim, Nat.le_trans h.size h'.size,
    fun c hc hb => (h'.frame c (Nat.lt_of_lt_of_le hc h.size) fun hb' => hb (h.origin c hc hb')).trans (h.frame c hc hb),
    fun c hc hb => h.origin c hc (h'.origin c (Nat.lt_of_lt_of_le hc h.size) hb), h'.os.trans h.os, h'.tape.trans h.tape, h'.output.trans h.output,
    fun c o hc hp => (h'.porigin c o (Nat.lt_of_lt_of_le hc h.size) hp).elim (h.porigin c o hc) (fun hb => .inr (h.origin c hc hb)),
    fun n hr hm => h'.dead n (by cases hk : κ.rho n with | none => exact absurd hk hr | some l => rw [h.le.rho n l hk]; simp) (h.dead n hr hm)⟩

/-- Less memory is known. -/
def Mem.sub (m m' : Mem) : Prop := ∀ n b, m n = some b → m' n = some b
theorem Mem.sub.refl (m : Mem) : m.sub m := fun _ _ h => h
theorem Mem.sub.trans {m m' m'' : Mem} (h : m.sub m') (h' : m'.sub m'') : m.sub m'' := fun n b x => h' n b (h n b x)
theorem Mem.sub.live {m m' : Mem} (h : m.sub m') {n : Nat} (hn : m n ≠ none) : m' n ≠ none := by
  cases hm : m n with
  | none => exact absurd hm hn
  | some b => rw [h n b hm]; simp
theorem Mem.sub_set {m : Mem} {n : Nat} {b : Blk} (h : m n = none) : m.sub (m.set n b) := fun k b' hk => by
  unfold Mem.set
  split
  · rename_i e; rw [e, h] at hk; cases hk
  · exact hk
theorem Mem.del_sub (m : Mem) (n : Nat) : (m.del n).sub m := fun k b h => by
  unfold Mem.del at h
  split at h
  · cases h
  · exact h
theorem Sim.sub {P : Program} {κ : K} {m m' : Mem} {w : World} (hs : m'.sub m) (h : Sim P κ m w) : Sim P κ m' w :=
  ⟨h.prot, fun n b hn => h.blk n b (hs n b hn), h.lt, fun n n' l l' hne h1 h2 => h.excl n n' l l' hne (hs.live h1) (hs.live h2), let ⟨N, hN⟩ := h.fin; ⟨N, fun n hn => ⟨(hN n hn).1, by
    cases hm : m' n with
    | none => rfl
    | some b => have := hs n b hm; rw [(hN n hn).2] at this; cases this⟩⟩⟩
theorem Backs.sub {κ : K} {m m' : Mem} {c : Nat} (hs : m'.sub m) (h : Backs κ m' c) : Backs κ m c := let ⟨n, l, a, b, d⟩ := h; ⟨n, l, a, hs.live b, d⟩
theorem Step.sub {P : Program} {κ κ' : K} {m m' m'' : Mem} {w w' : World} (h : Step P κ m w κ' m' w') (hs : m''.sub m') : Step P κ m w κ' m'' w' :=
  ⟨h.le, h.sim.sub hs, h.size, h.frame, fun c hc hb => h.origin c hc (hb.sub hs), h.os, h.tape, h.output, h.porigin, fun n hr hm => by
    cases hk : m'' n with
    | none => rfl
    | some b => have := hs n b hk; rw [h.dead n hr hm] at this; cases this⟩

@[simp] theorem Mem.set_same (m : Mem) (n : Nat) (b : Blk) : m.set n b n = some b := by simp [Mem.set]
theorem Mem.set_ne (m : Mem) {n k : Nat} (b : Blk) (h : k ≠ n) : m.set n b k = m k := by simp [Mem.set, h]
@[simp] theorem Mem.set_none (m : Mem) (n k : Nat) (b : Blk) : (m.set n b k = none) ↔ (k ≠ n ∧ m k = none) := by
  unfold Mem.set; split <;> simp_all
@[simp] theorem Mem.set_set (m : Mem) (n : Nat) (b b' : Blk) : (m.set n b).set n b' = m.set n b' := by
  funext k; unfold Mem.set; split <;> simp_all
theorem Mem.set_comm (m : Mem) {n k : Nat} (b b' : Blk) (h : n ≠ k) : (m.set n b).set k b' = (m.set k b').set n b := by
  funext j; unfold Mem.set; split <;> split <;> simp_all
@[simp] theorem Mem.del_set (m : Mem) (n : Nat) (b : Blk) (h : m n = none) : (m.set n b).del n = m := by
  funext k; unfold Mem.del Mem.set; split <;> simp_all
@[simp] theorem Mem.del_same (m : Mem) (n : Nat) : m.del n n = none := by simp [Mem.del]

end Go.Abs
