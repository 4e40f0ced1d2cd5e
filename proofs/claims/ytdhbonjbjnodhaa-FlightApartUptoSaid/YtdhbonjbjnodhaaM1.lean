/- The texts A1 A2 A3 A4 A5 A6 A7 A8 A9 A10 A11 A12 A13: what is proved on the way to the law. No conditions but those each theorem states. -/
import Derived.CallsIn
import Derived.RangeFuncCalls
import Derived.RangeFuncLeaves
import Derived.OrdersIn
import Derived.Laws.World
import Derived.Laws.Sem
import Derived.Laws.Append
import Derived.KernelRfl
import Derived.WalkKit
import Derived.Laws.StructEq
import Derived.Laws.BytesArg
import Derived.WideKeyRuns
import Derived.Laws.AppendOwn
import Derived.Laws.Externs
import Derived.Laws.IdiomStrings
import Derived.Deep.Quiet
set_option linter.unusedVariables false
set_option linter.unusedSimpArgs false
namespace Go.Abs
inductive AV where
  | val (v : Value)
  | agg (cs : List AV)
  | tup (vs : List AV)
  | vs (es : List (List AV)) (x : Bool)
  | vp (cs : List AV) (off : Nat)
  | ptr (n off : Nat)
  | sl (n off len cap : Nat)
  | fn (f : Fn) (first caps : List AV)
  | yld (n : Nat)
  | ifc (t : TypeId) (v : AV)
  | map (n : Nat)
  | junk
instance : Inhabited AV := ⟨.junk⟩
def plain : Value → Bool
  | .bool _ | .int _ _ | .float _ _ | .complex _ _ _ | .string _ | .pointer none | .slice none 0 0 | .map none | .chan none | .nilFunc | .nilIface => true
  | _ => false
def staticFn : Fn → Bool
  | .func _ => true
  | _ => false
structure Loc where
  blk : Nat
  base : Nat
  size : Nat
  top : Nat
  ext : Nat
structure K where
  prot : Nat → Nat → Option Value
  rho : Nat → Option (Option Loc)
structure K.le (κ κ' : K) : Prop where
  prot : ∀ c o v, κ.prot c o = some v → κ'.prot c o = some v
  rho : ∀ n l, κ.rho n = some l → κ'.rho n = some l
theorem K.le.refl (κ : K) : κ.le κ := ⟨fun _ _ _ h => h, fun _ _ h => h⟩
theorem K.le.trans {κ κ' κ'' : K} (h : κ.le κ') (h' : κ'.le κ'') : κ.le κ'' := ⟨fun _ _ _ x => h'.prot _ _ _ (h.prot _ _ _ x), fun _ _ x => h'.rho _ _ (h.rho _ _ x)⟩
inductive Rel (κ : K) : AV → Value → Prop
  | val {v : Value} : plain v = true → Rel κ (.val v) v
  | agg {cs : List AV} {ca : Array Value} : cs.length = ca.size → (∀ i (h : i < cs.length) (h' : i < ca.size), Rel κ cs[i] ca[i]) → Rel κ (.agg cs) (.agg ca)
  | tup {cs : List AV} {ca : Array Value} : cs.length = ca.size → (∀ i (h : i < cs.length) (h' : i < ca.size), Rel κ cs[i] ca[i]) → Rel κ (.tup cs) (.tuple ca)
  | vnil {x : Bool} : Rel κ (.vs [] x) (.slice none 0 0)
  | vz {x : Bool} {a : Addr} : Rel κ (.vs [] x) (.slice (some a) 0 0)
  | vs {es : List (List AV)} {x : Bool} {c o s cap : Nat} (f : Nat → Nat → Value) : (∀ e ∈ es, e.length = s) → es.length ≤ cap → (x = true → cap = es.length) →
      (∀ i j, i < es.length → j < s → κ.prot c (o + (i * s + j)) = some (f i j)) →
      (∀ i (hi : i < es.length) j (hj : j < es[i].length), Rel κ es[i][j] (f i j)) → Rel κ (.vs es x) (.slice (some ⟨c, o, none⟩) es.length cap)
  | vp {cs : List AV} {off c o : Nat} (f : Nat → Value) : (∀ j, j < cs.length → κ.prot c (o + j) = some (f j)) →
      (∀ j (h : j < cs.length), Rel κ cs[j] (f j)) → Rel κ (.vp cs off) (.pointer (some ⟨c, o + off, none⟩))
  | ptr {n off : Nat} {l : Loc} : κ.rho n = some (some l) → Rel κ (.ptr n off) (.pointer (some ⟨l.blk, l.base + off, none⟩))
  | snil {n off : Nat} : Rel κ (.sl n off 0 0) (.slice none 0 0)
  | szero {n off : Nat} {a : Addr} : Rel κ (.sl n off 0 0) (.slice (some a) 0 0)
  | sl {n off len cap cap' c' o' : Nat} {l : Loc} : κ.rho n = some (some l) → (cap' = cap ∨ (off + cap * l.size = l.top ∧ cap' = cap + l.ext)) → len ≤ cap →
      (cap' = 0 ∨ (c' = l.blk ∧ o' = l.base + off)) → Rel κ (.sl n off len cap) (.slice (some ⟨c', o', none⟩) len cap')
  | fn {f : Fn} {fs cs : List AV} {fa ca : Array Value} : staticFn f = true → fs.length = fa.size → (∀ i (h : i < fs.length) (h' : i < fa.size), Rel κ fs[i] fa[i]) →
      cs.length = ca.size → (∀ i (h : i < cs.length) (h' : i < ca.size), Rel κ cs[i] ca[i]) → Rel κ (.fn f fs cs) (.func f fa ca)
  | yld {n : Nat} {l : Loc} : κ.rho n = some (some l) → Rel κ (.yld n) (.func (.yield l.blk) #[] #[])
  | ifc {t : TypeId} {v : AV} {cv : Value} : Rel κ v cv → Rel κ (.ifc t v) (.iface t cv)
  | map {n : Nat} {l : Loc} : κ.rho n = some (some l) → Rel κ (.map n) (.map (some l.blk))
  | junk {v : Value} : Rel κ .junk v
theorem Rel.mono {κ κ' : K} (hk : κ.le κ') {v : AV} {cv : Value} (h : Rel κ v cv) : Rel κ' v cv := by
  induction h with
  | val hp => exact .val hp
  | agg hl _ ih => exact .agg hl ih
  | tup hl _ ih => exact .tup hl ih
  | vnil => exact .vnil
  | vz => exact .vz
  | vs f h1 h2 h3 h4 _ ih => exact .vs f h1 h2 h3 (fun i j hi hj => hk.prot _ _ _ (h4 i j hi hj)) ih
  | vp f h1 _ ih => exact .vp f (fun j hj => hk.prot _ _ _ (h1 j hj)) ih
  | ptr h => exact .ptr (hk.rho _ _ h)
  | snil => exact .snil
  | szero => exact .szero
  | sl h h1 h2 h3 => exact .sl (hk.rho _ _ h) h1 h2 h3
  | fn hs h1 _ h3 _ ih ih' => exact .fn hs h1 ih h3 ih'
  | yld h => exact .yld (hk.rho _ _ h)
  | ifc _ ih => exact .ifc ih
  | map h => exact .map (hk.rho _ _ h)
  | junk => exact .junk
def Rels (κ : K) (vs : List AV) (cs : Array Value) : Prop := vs.length = cs.size ∧ ∀ i (h : i < vs.length) (h' : i < cs.size), Rel κ vs[i] cs[i]
theorem Rels.mono {κ κ' : K} (hk : κ.le κ') {vs : List AV} {cs : Array Value} (h : Rels κ vs cs) : Rels κ' vs cs := ⟨h.1, fun i a b => (h.2 i a b).mono hk⟩
inductive Blk where
  | cells (opn : Bool) (t : TypeId) (cs : List AV)
  | map (es : List (AV × AV))
  | loop (st : LoopState) (pend : Option Code) (env : List AV) (ps : Array Tmp) (asg body : Code)
abbrev Mem := Nat → Option Blk
def Mem.set (m : Mem) (n : Nat) (b : Blk) : Mem := fun k => if k = n then some b else m k
def Mem.del (m : Mem) (n : Nat) : Mem := fun k => if k = n then none else m k
def byteT (P : Program) (t : TypeId) : Bool := match P.underlying t with
  | some (.int .u8) => true
  | _ => false
def BlkOK (P : Program) (κ : K) (w : World) (l : Loc) : Blk → Prop
  | .cells opn t cs => ∃ arr t' fz, w.heap[l.blk]? = some (.cells arr t' fz) ∧ (∀ i, i < arr.size ∨ (i = arr.size ∧ byteT P t = false) → ¬ (fz.1 ≤ i ∧ i < fz.2)) ∧ l.top = cs.length ∧ l.base + l.top + l.ext * l.size ≤ arr.size ∧
      (opn = false → l.ext = 0) ∧ (opn = true → l.size = P.cellsOf t) ∧ ∀ i (h : i < cs.length), ∃ cv, arr[l.base + i]? = some cv ∧ Rel κ cs[i] cv
  | .map es => ∃ ents clock, w.heap[l.blk]? = some (.map ents clock) ∧ es.length = ents.size ∧
      ∀ i (h : i < es.length) (h' : i < ents.size), Rel κ es[i].1 ents[i].key ∧ Rel κ es[i].2 ents[i].val
  | .loop st pend env ps asg body => ∃ r : Loop, w.heap[l.blk]? = some (.loop r) ∧ r.state = st ∧ r.pending = pend ∧ Rels κ env r.tmps ∧ r.params = ps ∧ r.assign = asg ∧ r.body = body
structure Sim (P : Program) (κ : K) (m : Mem) (w : World) : Prop where
  prot : ∀ c o v, κ.prot c o = some v → w.cell? ⟨c, o, none⟩ = some v
  blk : ∀ n b, m n = some b → (∃ l, κ.rho n = some (some l) ∧ BlkOK P κ w l b ∧ ∀ o, κ.prot l.blk o = none) ∨ (κ.rho n = some none ∧ ∃ t, b = .cells true t [])
  lt : ∀ n l, κ.rho n = some (some l) → l.blk < w.heap.size
  excl : ∀ n n' l l', n ≠ n' → m n ≠ none → m n' ≠ none → κ.rho n = some (some l) → κ.rho n' = some (some l') → l.blk ≠ l'.blk
  fin : ∃ N, ∀ n, N ≤ n → κ.rho n = none ∧ m n = none
theorem Sim.fresh {P : Program} {κ : K} {m : Mem} {w : World} (h : Sim P κ m w) : ∃ n, κ.rho n = none ∧ m n = none := let ⟨N, hN⟩ := h.fin; ⟨N, hN N (Nat.le_refl _)⟩
theorem Sim.protLt {P : Program} {κ : K} {m : Mem} {w : World} (h : Sim P κ m w) {c o : Nat} {v : Value} (hp : κ.prot c o = some v) : c < w.heap.size :=
  World.block_lt_of_cell? w ⟨c, o, none⟩ (h.prot c o v hp)
def Backs (κ : K) (m : Mem) (c : Nat) : Prop := ∃ n l, κ.rho n = some (some l) ∧ m n ≠ none ∧ l.blk = c
structure Step (P : Program) (κ : K) (m : Mem) (w : World) (κ' : K) (m' : Mem) (w' : World) : Prop where
  le : κ.le κ'
  sim : Sim P κ' m' w'
  size : w.heap.size ≤ w'.heap.size
  frame : ∀ c, c < w.heap.size → ¬ Backs κ m c → w'.heap[c]? = w.heap[c]?
  origin : ∀ c, c < w.heap.size → Backs κ' m' c → Backs κ m c
  os : w'.os = w.os
  tape : w'.tape = w.tape
  output : w'.output = w.output
  porigin : ∀ c o, c < w.heap.size → κ'.prot c o ≠ none → κ.prot c o ≠ none ∨ Backs κ m c
  dead : ∀ n, κ.rho n ≠ none → m n = none → m' n = none
theorem Step.refl {P : Program} {κ : K} {m : Mem} {w : World} (h : Sim P κ m w) : Step P κ m w κ m w := ⟨.refl _, h, Nat.le_refl _, fun _ _ _ => rfl, fun _ _ h => h, rfl, rfl, rfl, fun _ _ _ h => .inl h, fun _ _ h => h⟩
theorem Step.trans {P : Program} {κ κ' κ'' : K} {m m' m'' : Mem} {w w' w'' : World} (h : Step P κ m w κ' m' w') (h' : Step P κ' m' w' κ'' m'' w'') : Step P κ m w κ'' m'' w'' :=
  ⟨h.le.trans h'.le, h'.sim, Nat.le_trans h.size h'.size,
    fun c hc hb => (h'.frame c (Nat.lt_of_lt_of_le hc h.size) fun hb' => hb (h.origin c hc hb')).trans (h.frame c hc hb),
    fun c hc hb => h.origin c hc (h'.origin c (Nat.lt_of_lt_of_le hc h.size) hb), h'.os.trans h.os, h'.tape.trans h.tape, h'.output.trans h.output,
    fun c o hc hp => (h'.porigin c o (Nat.lt_of_lt_of_le hc h.size) hp).elim (h.porigin c o hc) (fun hb => .inr (h.origin c hc hb)),
    fun n hr hm => h'.dead n (by cases hk : κ.rho n with | none => exact absurd hk hr | some l => rw [h.le.rho n l hk]; simp) (h.dead n hr hm)⟩
def Mem.sub (m m' : Mem) : Prop := ∀ n b, m n = some b → m' n = some b
theorem Mem.sub.refl (m : Mem) : m.sub m := fun _ _ h => h
theorem Mem.sub.trans {m m' m'' : Mem} (h : m.sub m') (h' : m'.sub m'') : m.sub m'' := fun n b x => h' n b (h n b x)
theorem Mem.sub.live {m m' : Mem} (h : m.sub m') {n : Nat} (hn : m n ≠ none) : m' n ≠ none := by
  cases hm : m n with
  | none => exact absurd hm hn
  | some b => rw [h n b hm]; simp
theorem Mem.sub_set {m : Mem} {n : Nat} {b : Blk} (h : m n = none) : m.sub (m.set n b) := fun k b' hk => by
  unfold Mem.set
  split
  · rename_i e; rw [e, h] at hk; cases hk
  · exact hk
theorem Mem.del_sub (m : Mem) (n : Nat) : (m.del n).sub m := fun k b h => by
  unfold Mem.del at h
  split at h
  · cases h
  · exact h
theorem Sim.sub {P : Program} {κ : K} {m m' : Mem} {w : World} (hs : m'.sub m) (h : Sim P κ m w) : Sim P κ m' w :=
  ⟨h.prot, fun n b hn => h.blk n b (hs n b hn), h.lt, fun n n' l l' hne h1 h2 => h.excl n n' l l' hne (hs.live h1) (hs.live h2), let ⟨N, hN⟩ := h.fin; ⟨N, fun n hn => ⟨(hN n hn).1, by
    cases hm : m' n with
    | none => rfl
    | some b => have := hs n b hm; rw [(hN n hn).2] at this; cases this⟩⟩⟩
theorem Backs.sub {κ : K} {m m' : Mem} {c : Nat} (hs : m'.sub m) (h : Backs κ m' c) : Backs κ m c := let ⟨n, l, a, b, d⟩ := h; ⟨n, l, a, hs.live b, d⟩
theorem Step.sub {P : Program} {κ κ' : K} {m m' m'' : Mem} {w w' : World} (h : Step P κ m w κ' m' w') (hs : m''.sub m') : Step P κ m w κ' m'' w' :=
  ⟨h.le, h.sim.sub hs, h.size, h.frame, fun c hc hb => h.origin c hc (hb.sub hs), h.os, h.tape, h.output, h.porigin, fun n hr hm => by
    cases hk : m'' n with
    | none => rfl
    | some b => have := hs n b hk; rw [h.dead n hr hm] at this; cases this⟩
@[simp] theorem Mem.set_same (m : Mem) (n : Nat) (b : Blk) : m.set n b n = some b := by simp [Mem.set]
theorem Mem.set_ne (m : Mem) {n k : Nat} (b : Blk) (h : k ≠ n) : m.set n b k = m k := by simp [Mem.set, h]
@[simp] theorem Mem.set_none (m : Mem) (n k : Nat) (b : Blk) : (m.set n b k = none) ↔ (k ≠ n ∧ m k = none) := by
  unfold Mem.set; split <;> simp_all
@[simp] theorem Mem.set_set (m : Mem) (n : Nat) (b b' : Blk) : (m.set n b).set n b' = m.set n b' := by
  funext k; unfold Mem.set; split <;> simp_all
theorem Mem.set_comm (m : Mem) {n k : Nat} (b b' : Blk) (h : n ≠ k) : (m.set n b).set k b' = (m.set k b').set n b := by
  funext j; unfold Mem.set; split <;> split <;> simp_all
@[simp] theorem Mem.del_set (m : Mem) (n : Nat) (b : Blk) (h : m n = none) : (m.set n b).del n = m := by
  funext k; unfold Mem.del Mem.set; split <;> simp_all
@[simp] theorem Mem.del_same (m : Mem) (n : Nat) : m.del n n = none := by simp [Mem.del]
end Go.Abs

set_option linter.unusedVariables false
set_option linter.unusedSimpArgs false
namespace Go.Abs
structure But (w w' : World) (g : Nat) : Prop where
  size : w.heap.size ≤ w'.heap.size
  blk : ∀ c, c < w.heap.size → c ≠ g → w'.heap[c]? = w.heap[c]?
  os : w'.os = w.os
  tape : w'.tape = w.tape
  output : w'.output = w.output
theorem But.refl (w : World) (g : Nat) : But w w g := ⟨Nat.le_refl _, fun _ _ _ => rfl, rfl, rfl, rfl⟩
theorem But.trans {w w' w'' : World} {g : Nat} (h : But w w' g) (h' : But w' w'' g) : But w w'' g :=
  ⟨Nat.le_trans h.size h'.size, fun c hc hg => (h'.blk c (Nat.lt_of_lt_of_le hc h.size) hg).trans (h.blk c hc hg), h'.os.trans h.os, h'.tape.trans h.tape, h'.output.trans h.output⟩
theorem But.setCell (w : World) (a : Addr) (v : Value) : But w (w.setCell a v) a.block :=
  ⟨by simp [World.setCell], fun c hc hg => by simp [World.setCell, Array.getElem?_modify, Ne.symm hg], rfl, rfl, rfl⟩
theorem But.alloc (w : World) (o : Obj) (g : Nat) : But w (w.alloc o) g :=
  ⟨by simp, fun c hc hg => by show (w.heap.push o)[c]? = _; simp [Array.getElem?_push, Nat.ne_of_lt hc], rfl, rfl, rfl⟩
theorem But.drew (w : World) (g : Nat) : But w w.drew g := ⟨Nat.le_refl _, fun _ _ _ => rfl, rfl, rfl, rfl⟩
def Ext (w w' : World) : Prop := ∀ c, c < w.heap.size → w'.heap[c]? = w.heap[c]?
theorem Ext.refl (w : World) : Ext w w := fun _ _ => rfl
theorem Ext.cell {w w' : World} (h : Ext w w') {a : Addr} {v : Value} (hc : w.cell? a = some v) : w'.cell? a = some v := by
  have := h a.block (World.block_lt_of_cell? w a hc)
  rw [← hc]; simp [World.cell?, this]
theorem cell_of_heap {w w' : World} {c : Nat} (h : w'.heap[c]? = w.heap[c]?) (o : Nat) (s : Option Nat) : w'.cell? ⟨c, o, s⟩ = w.cell? ⟨c, o, s⟩ := by simp [World.cell?, h]
theorem BlkOK.congr {P : Program} {κ : K} {w w' : World} {l : Loc} {b : Blk} (h : w'.heap[l.blk]? = w.heap[l.blk]?) (hb : BlkOK P κ w l b) : BlkOK P κ w' l b := by
  cases b <;> (simp only [BlkOK, h]; exact hb)
theorem BlkOK.mono {P : Program} {κ κ' : K} {w : World} {l : Loc} {b : Blk} (hk : κ.le κ') (hb : BlkOK P κ w l b) : BlkOK P κ' w l b := by
  cases b with
  | cells opn t cs =>
    obtain ⟨arr, t', fz, h1, h2, h3, h4, h5, h6, h7⟩ := hb
    exact ⟨arr, t', fz, h1, h2, h3, h4, h5, h6, fun i h => let ⟨cv, a, b⟩ := h7 i h; ⟨cv, a, b.mono hk⟩⟩
  | map es =>
    obtain ⟨ents, clock, h1, h2, h3⟩ := hb
    exact ⟨ents, clock, h1, h2, fun i a b => ⟨(h3 i a b).1.mono hk, (h3 i a b).2.mono hk⟩⟩
  | loop st pend env ps asg body =>
    obtain ⟨r, h1, h2, h3, h4, h5⟩ := hb
    exact ⟨r, h1, h2, h3, h4.mono hk, h5⟩
theorem BlkOK.lt {P : Program} {κ : K} {w : World} {l : Loc} {b : Blk} (hb : BlkOK P κ w l b) : l.blk < w.heap.size := by
  have : ∃ o, w.heap[l.blk]? = some o := by
    cases b with
    | cells opn t cs => obtain ⟨arr, t', fz, h1, _⟩ := hb; exact ⟨_, h1⟩
    | map es => obtain ⟨ents, clock, h1, _⟩ := hb; exact ⟨_, h1⟩
    | loop st pend env ps asg body => obtain ⟨r, h1, _⟩ := hb; exact ⟨_, h1⟩
  obtain ⟨o, ho⟩ := this
  exact (Array.getElem?_eq_some_iff.1 ho).1
theorem Step.change {P : Program} {κ : K} {m : Mem} {w w' : World} (hs : Sim P κ m w) {n : Nat} {l : Loc} (hm : m n ≠ none) (hl : κ.rho n = some (some l))
    (hp : ∀ o, κ.prot l.blk o = none) (hb : But w w' l.blk) (b' : Blk) (hok : BlkOK P κ w' l b') : Step P κ m w κ (m.set n b') w' := by
  have heap : ∀ c, c < w.heap.size → c ≠ l.blk → w'.heap[c]? = w.heap[c]? := hb.blk
  refine ⟨.refl _, ⟨?_, ?_, ?_, ?_, ?_⟩, hb.size, ?_, ?_, hb.os, hb.tape, hb.output, fun _ _ _ h => .inl h, fun k hk hk' => by
    have e : k ≠ n := fun e => hm (e ▸ hk')
    rw [Mem.set_ne _ _ e]; exact hk'⟩
  · intro c o v h
    have hne : c ≠ l.blk := fun e => by rw [e, hp o] at h; cases h
    rw [cell_of_heap (heap c (hs.protLt h) hne)]
    exact hs.prot c o v h
  · intro k b hk
    by_cases e : k = n
    · subst e
      rw [Mem.set_same] at hk
      cases hk
      exact .inl ⟨l, hl, hok, hp⟩
    · rw [Mem.set_ne _ _ e] at hk
      rcases hs.blk k b hk with ⟨l', h1, h2, h3⟩ | h
      · exact .inl ⟨l', h1, h2.congr (heap _ h2.lt (hs.excl k n l' l e (by rw [hk]; simp) hm h1 hl)), h3⟩
      · exact .inr h
  · exact fun k l' h => Nat.lt_of_lt_of_le (hs.lt k l' h) hb.size
  · intro k k' l1 l2 hne h1 h2 h3 h4
    refine hs.excl k k' l1 l2 hne ?_ ?_ h3 h4
    · by_cases e : k = n
      · subst e; exact hm
      · rwa [Mem.set_ne _ _ e] at h1
    · by_cases e : k' = n
      · subst e; exact hm
      · rwa [Mem.set_ne _ _ e] at h2
  · obtain ⟨N, hN⟩ := hs.fin
    refine ⟨N, fun k hk => ⟨(hN k hk).1, ?_⟩⟩
    have : k ≠ n := fun e => hm (e ▸ (hN k hk).2)
    rw [Mem.set_ne _ _ this]
    exact (hN k hk).2
  · intro c hc hnb
    exact heap c hc fun e => hnb ⟨n, l, hl, hm, e.symm⟩
  · rintro c hc ⟨k, l', h1, h2, h3⟩
    refine ⟨k, l', h1, ?_, h3⟩
    by_cases e : k = n
    · subst e; exact hm
    · rwa [Mem.set_ne _ _ e] at h2
def K.add (κ : K) (n : Nat) (l : Loc) : K := { κ with rho := fun k => if k = n then some (some l) else κ.rho k }
theorem K.le_add {κ : K} {n : Nat} {l : Loc} (h : κ.rho n = none) : κ.le (κ.add n l) := ⟨fun _ _ _ h => h, fun k l' hk => by
  unfold K.add
  simp only
  split
  · rename_i e; rw [e, h] at hk; cases hk
  · exact hk⟩
@[simp] theorem K.add_same (κ : K) (n : Nat) (l : Loc) : (κ.add n l).rho n = some (some l) := by simp [K.add]
theorem K.add_ne (κ : K) {n k : Nat} (l : Loc) (h : k ≠ n) : (κ.add n l).rho k = κ.rho k := by simp [K.add, h]
theorem Step.alloc {P : Program} {κ : K} {m : Mem} {w w' : World} (hs : Sim P κ m w) {n : Nat} {l : Loc} (hm : m n = none) (hr : κ.rho n = none)
    (hlb : w.heap.size ≤ l.blk) (hll : l.blk < w'.heap.size) (hb : But w w' l.blk) (b : Blk) (hok : BlkOK P (κ.add n l) w' l b) : Step P κ m w (κ.add n l) (m.set n b) w' := by
  have heap : ∀ c, c < w.heap.size → w'.heap[c]? = w.heap[c]? := fun c hc => hb.blk c hc (by omega)
  have hle : κ.le (κ.add n l) := K.le_add hr
  refine ⟨hle, ⟨?_, ?_, ?_, ?_, ?_⟩, hb.size, fun c hc _ => heap c hc, ?_, hb.os, hb.tape, hb.output, fun _ _ _ h => .inl h, fun k hk hk' => by
    have e : k ≠ n := fun e => hk (e ▸ hr)
    rw [Mem.set_ne _ _ e]; exact hk'⟩
  · intro c o v h
    rw [cell_of_heap (heap c (hs.protLt h))]
    exact hs.prot c o v h
  · intro k b' hk
    by_cases e : k = n
    · subst e
      rw [Mem.set_same] at hk
      cases hk
      refine .inl ⟨l, K.add_same .., hok, fun o => ?_⟩
      cases hp : κ.prot l.blk o with
      | none => exact hp
      | some v => have := hs.protLt hp; omega
    · rw [Mem.set_ne _ _ e] at hk
      rcases hs.blk k b' hk with ⟨l', h1, h2, h3⟩ | ⟨h1, h2⟩
      · exact .inl ⟨l', (K.add_ne _ _ e).trans h1, (h2.congr (heap _ h2.lt)).mono hle, h3⟩
      · exact .inr ⟨(K.add_ne _ _ e).trans h1, h2⟩
  · intro k l' h
    by_cases e : k = n
    · subst e; rw [K.add_same] at h; cases h; exact hll
    · rw [K.add_ne _ _ e] at h; exact Nat.lt_of_lt_of_le (hs.lt k l' h) hb.size
  · intro k k' l1 l2 hne h1 h2 h3 h4
    by_cases e : k = n
    · subst e
      rw [K.add_same] at h3; cases h3
      rw [K.add_ne _ _ (Ne.symm hne)] at h4
      have := hs.lt _ _ h4; omega
    · rw [K.add_ne _ _ e] at h3
      rw [Mem.set_ne _ _ e] at h1
      by_cases e' : k' = n
      · subst e'
        rw [K.add_same] at h4; cases h4
        have := hs.lt _ _ h3; omega
      · rw [K.add_ne _ _ e'] at h4
        rw [Mem.set_ne _ _ e'] at h2
        exact hs.excl k k' l1 l2 hne h1 h2 h3 h4
  · obtain ⟨N, hN⟩ := hs.fin
    refine ⟨max N (n + 1), fun k hk => ?_⟩
    have e : k ≠ n := by omega
    rw [K.add_ne _ _ e, Mem.set_ne _ _ e]
    exact hN k (by omega)
  · rintro c hc ⟨k, l', h1, h2, h3⟩
    by_cases e : k = n
    · subst e; rw [K.add_same] at h1; cases h1; omega
    · rw [K.add_ne _ _ e] at h1
      rw [Mem.set_ne _ _ e] at h2
      exact ⟨k, l', h1, h2, h3⟩
def K.protect (κ : K) (c : Nat) (f : Nat → Option Value) : K := { κ with prot := fun c' o => if c' = c then (match f o with | some v => some v | none => κ.prot c' o) else κ.prot c' o }
theorem K.protect_same (κ : K) {c o : Nat} {f : Nat → Option Value} {v : Value} (h : f o = some v) : (κ.protect c f).prot c o = some v := by simp [K.protect, h]
theorem K.le_protect {κ : K} {c : Nat} {f : Nat → Option Value} (h : ∀ o v, κ.prot c o = some v → f o = none ∨ f o = some v) : κ.le (κ.protect c f) := ⟨fun c' o v hp => by
  unfold K.protect
  simp only
  split
  · rename_i e
    subst e
    rcases h o v hp with h' | h' <;> rw [h'] <;> first | exact hp | rfl
  · exact hp, fun _ _ h => h⟩
theorem Step.protect {P : Program} {κ : K} {m : Mem} {w w' : World} (hs : Sim P κ m w) {c : Nat} {f : Nat → Option Value} (hb : But w w' c) (hc : w.heap.size ≤ c)
    (hf : ∀ o v, f o = some v → w'.cell? ⟨c, o, none⟩ = some v) : Step P κ m w (κ.protect c f) m w' := by
  have heap : ∀ k, k < w.heap.size → w'.heap[k]? = w.heap[k]? := fun k hk => hb.blk k hk (by omega)
  have hle : κ.le (κ.protect c f) := K.le_protect fun o v hp => by have := hs.protLt hp; omega
  refine ⟨hle, ⟨?_, ?_, ?_, hs.excl, hs.fin⟩, hb.size, fun k hk _ => heap k hk, fun _ _ h => h, hb.os, hb.tape, hb.output, fun k o hk hp => by
    unfold K.protect at hp
    simp only at hp
    rw [if_neg (show k ≠ c by omega)] at hp
    exact .inl hp, fun _ _ h => h⟩
  · intro k o v h
    unfold K.protect at h
    simp only at h
    split at h
    · rename_i e
      subst e
      cases hfo : f o with
      | some v' => rw [hfo] at h; cases h; exact hf o _ hfo
      | none => rw [hfo] at h; have := hs.protLt h; omega
    · rw [cell_of_heap (heap k (hs.protLt h))]
      exact hs.prot k o v h
  · intro k b hk
    rcases hs.blk k b hk with ⟨l', h1, h2, h3⟩ | h
    · refine .inl ⟨l', h1, (h2.congr (heap _ h2.lt)).mono hle, fun o => ?_⟩
      have : l'.blk ≠ c := by have := h2.lt; omega
      simp only [K.protect, this, if_false]
      exact h3 o
    · exact .inr h
  · exact fun k l' h => Nat.lt_of_lt_of_le (hs.lt k l' h) hb.size
theorem Step.quiet {P : Program} {κ : K} {m : Mem} {w w' : World} (hs : Sim P κ m w) (hb : ∀ g, But w w' g) : Step P κ m w κ m w' := by
  have heap : ∀ k, k < w.heap.size → w'.heap[k]? = w.heap[k]? := fun k hk => (hb (k + 1)).blk k hk (by omega)
  refine ⟨.refl _, ⟨?_, ?_, ?_, hs.excl, hs.fin⟩, (hb 0).size, fun k hk _ => heap k hk, fun _ _ h => h, (hb 0).os, (hb 0).tape, (hb 0).output, fun _ _ _ h => .inl h, fun _ _ h => h⟩
  · intro c o v h
    rw [cell_of_heap (heap c (hs.protLt h))]
    exact hs.prot c o v h
  · intro k b hk
    rcases hs.blk k b hk with ⟨l', h1, h2, h3⟩ | h
    · exact .inl ⟨l', h1, h2.congr (heap _ h2.lt), h3⟩
    · exact .inr h
  · exact fun k l' h => Nat.lt_of_lt_of_le (hs.lt k l' h) (hb 0).size
theorem Step.drew {P : Program} {κ : K} {m : Mem} {w : World} (hs : Sim P κ m w) : Step P κ m w κ m w.drew := .quiet hs fun g => But.drew w g
theorem Step.freeze {P : Program} {κ : K} {m : Mem} {w : World} (hs : Sim P κ m w) {n : Nat} {l : Loc} {opn : Bool} {t : TypeId} {cs : List AV} (hm : m n = some (.cells opn t cs)) (hl : κ.rho n = some (some l)) :
    ∃ κ', ∃ f : Nat → Value, Step P κ m w κ' (m.del n) w ∧ l.top = cs.length ∧ ∀ i (h : i < cs.length), κ'.prot l.blk (l.base + i) = some (f i) ∧ Rel κ' cs[i] (f i) := by
  rcases hs.blk n _ hm with ⟨l', h1, hb, hp⟩ | ⟨h1, _⟩
  · rw [hl] at h1; cases h1
    obtain ⟨arr, t', fz, h1, h2, h3, h4, h5, h6, h7⟩ := hb
    let f : Nat → Option Value := fun o => if l.base ≤ o ∧ o < l.base + cs.length then arr[o]? else none
    have hle : κ.le (κ.protect l.blk f) := K.le_protect fun o v h => by rw [hp o] at h; cases h
    have hcell : ∀ o v, f o = some v → w.cell? ⟨l.blk, o, none⟩ = some v := fun o v h => by
      simp only [f] at h
      split at h
      · simp [World.cell?, h1, h]
      · cases h
    refine ⟨κ.protect l.blk f, fun i => (arr[l.base + i]?).getD (.bool false), ⟨hle, ⟨?_, ?_, hs.lt, ?_, ?_⟩, Nat.le_refl _, fun _ _ _ => rfl, ?_, rfl, rfl, rfl, fun c o hc hp => by
      unfold K.protect at hp
      simp only at hp
      split at hp
      · rename_i e
        exact .inr ⟨n, l, hl, by rw [hm]; simp, e.symm⟩
      · exact .inl hp, fun k hk hk' => by unfold Mem.del; split <;> first | rfl | exact hk'⟩, h3, ?_⟩
    · intro k o v h
      unfold K.protect at h
      simp only at h
      split at h
      · rename_i e
        subst e
        cases hfo : f o with
        | some v' => rw [hfo] at h; cases h; exact hcell o _ hfo
        | none => rw [hfo, hp o] at h; cases h
      · exact hs.prot k o v h
    · intro k b hk
      have e : k ≠ n := fun e => by subst e; simp at hk
      have hk' : m k = some b := Mem.del_sub m n k b hk
      rcases hs.blk k b hk' with ⟨l2, g1, g2, g3⟩ | h
      · refine .inl ⟨l2, g1, g2.mono hle, fun o => ?_⟩
        have : l2.blk ≠ l.blk := hs.excl k n l2 l e (by rw [hk']; simp) (by rw [hm]; simp) g1 hl
        simp only [K.protect, this, if_false]
        exact g3 o
      · exact .inr h
    · exact fun k k' l1 l2 hne a b c d => hs.excl k k' l1 l2 hne ((Mem.del_sub m n).live a) ((Mem.del_sub m n).live b) c d
    · obtain ⟨N, hN⟩ := hs.fin
      refine ⟨N, fun k hk => ⟨(hN k hk).1, ?_⟩⟩
      unfold Mem.del; split
      · rfl
      · exact (hN k hk).2
    · exact fun c _ hb => Backs.sub (κ := κ) (Mem.del_sub m n) hb
    · intro i hi
      obtain ⟨cv, g1, g2⟩ := h7 i hi
      have hfi : f (l.base + i) = some cv := by simp only [f]; rw [if_pos (by omega)]; exact g1
      simp only [g1, Option.getD_some]
      exact ⟨K.protect_same κ hfi, g2.mono hle⟩
  · rw [hl] at h1; cases h1
def overwrite (c : Array Value) (off : Nat) : List Value → Array Value
  | [] => c
  | v :: r => overwrite (c.setIfInBounds off v) (off + 1) r
theorem overwrite_size (vs : List Value) : ∀ (c : Array Value) (off : Nat), (overwrite c off vs).size = c.size := by
  induction vs with
  | nil => intro c off; rfl
  | cons v r ih => intro c off; simp [overwrite, ih]
theorem overwrite_get (vs : List Value) : ∀ (c : Array Value) (off : Nat), off + vs.length ≤ c.size → ∀ k, (overwrite c off vs)[k]? = if off ≤ k ∧ k < off + vs.length then vs[k - off]? else c[k]? := by
  induction vs with
  | nil => intro c off _ k; simp [overwrite]; omega
  | cons v r ih =>
    intro c off h k
    simp only [List.length_cons] at h
    rw [overwrite, ih _ _ (by simp; omega)]
    by_cases h1 : off + 1 ≤ k ∧ k < off + 1 + r.length
    · rw [if_pos h1, if_pos (by simp only [List.length_cons]; omega)]
      have : k - off = (k - (off + 1)) + 1 := by omega
      rw [this, List.getElem?_cons_succ]
    · rw [if_neg h1]
      by_cases h2 : k = off
      · subst h2
        rw [if_pos (by simp)]
        simp [Array.getElem?_setIfInBounds_self, show k < c.size from by omega]
      · rw [if_neg (by simp only [List.length_cons]; omega), Array.getElem?_setIfInBounds_ne (Ne.symm h2)]
theorem addr_plain (c o i : Nat) : (⟨c, o, none⟩ : Addr).add i = ⟨c, o + i, none⟩ := by unfold Addr.add; split <;> simp_all
theorem run_storeCells' (P : Program) (g : Nat) (t : TypeId) (fz : Nat × Nat) (o : Nat) : ∀ (vs : List Value) (i : Nat) (arr : Array Value) (w : World), w.heap[g]? = some (.cells arr t fz) →
    (∀ k, k < arr.size → ¬ (fz.1 ≤ k ∧ k < fz.2)) → o + i + vs.length ≤ arr.size → (∀ v ∈ vs, v.oneCell' = true) →
    ∃ w', (storeCells ⟨g, o, none⟩ vs i).run P w = .ok () w' ∧ w'.heap[g]? = some (.cells (overwrite arr (o + i) vs) t fz) ∧ But w w' g := by
  intro vs
  induction vs with
  | nil => intro i arr w hg _ _ _; exact ⟨w, rfl, hg, .refl _ _⟩
  | cons v r ih =>
    intro i arr w hg hz hfit h1
    simp only [List.length_cons] at hfit
    have hlt : o + i < arr.size := by omega
    have hc : w.cell? ⟨g, o + i, none⟩ = some arr[o + i] := by simp [World.cell?, hg, hlt]
    have hf : w.frozen? ⟨g, o + i, none⟩ = false := by
      simp only [World.frozen?, hg]
      have := hz (o + i) hlt
      simp only [Bool.and_eq_false_imp, decide_eq_true_eq, decide_eq_false_iff_not]
      omega
    have hw' : (w.setCell ⟨g, o + i, none⟩ v).heap[g]? = some (.cells (arr.setIfInBounds (o + i) v) t fz) := by
      simp [World.setCell, Array.getElem?_modify, hg]
    obtain ⟨w'', h2, h3, h4⟩ := ih (i + 1) (arr.setIfInBounds (o + i) v) (w.setCell ⟨g, o + i, none⟩ v) hw' (fun k hk => hz k (by simpa using hk)) (by simp; omega) (fun u hu => h1 u (by simp [hu]))
    refine ⟨w'', ?_, ?_, (But.setCell w ⟨g, o + i, none⟩ v).trans h4⟩
    · simp only [storeCells, addr_plain, Sem.run_bind, run_store P w ⟨g, o + i, none⟩ v .plain (h1 v (by simp)), hc, hf]
      simpa using h2
    · rw [h3]; rfl
end Go.Abs

set_option linter.unusedVariables false
set_option linter.unusedSimpArgs false
namespace Go.Abs
def nth : List AV → Nat → AV
  | [], _ => .junk
  | a :: _, 0 => a
  | _ :: l, n + 1 => nth l n
def upd : List AV → Nat → AV → List AV
  | [], _, _ => []
  | _ :: l, 0, v => v :: l
  | a :: l, n + 1, v => a :: upd l n v
def put (env : List AV) (d : Option Nat) (v : AV) : List AV := match d with | some t => upd env t v | none => env
theorem nth_eq : ∀ (l : List AV) (t : Nat), nth l t = (l[t]?).getD .junk
  | [], t => by simp [nth]
  | a :: l, 0 => by simp [nth]
  | a :: l, t + 1 => by simp [nth, nth_eq l t]
theorem upd_eq : ∀ (l : List AV) (t : Nat) (v : AV), upd l t v = l.set t v
  | [], t, v => by simp [upd]
  | a :: l, 0, v => by simp [upd]
  | a :: l, t + 1, v => by simp [upd, upd_eq l t v]
theorem Rels.nth {κ : K} {env : List AV} {tmps : Array Value} (h : Rels κ env tmps) (t : Nat) : Rel κ (nth env t) (tmps.getD t undef) := by
  rw [nth_eq]
  by_cases ht : t < env.length
  · have ht' : t < tmps.size := h.1 ▸ ht
    simp only [List.getElem?_eq_getElem ht, Option.getD_some, Array.getD, ht', dif_pos]
    exact h.2 t ht ht'
  · rw [List.getElem?_eq_none (by omega)]
    exact .junk
theorem Rels.upd {κ : K} {env : List AV} {tmps : Array Value} (h : Rels κ env tmps) (t : Nat) {v : AV} {cv : Value} (hv : Rel κ v cv) : Rels κ (upd env t v) (tmps.setIfInBounds t cv) := by
  rw [upd_eq]
  refine ⟨by simp [h.1], fun i hi hi' => ?_⟩
  simp only [List.length_set, Array.size_setIfInBounds] at hi hi'
  by_cases e : t = i
  · subst e
    simp only [List.getElem_set_self, Array.getElem_setIfInBounds_self]
    exact hv
  · rw [List.getElem_set_ne e, Array.getElem_setIfInBounds_ne hi' e]
    exact h.2 i hi hi'
theorem Rels.put {κ : K} {env : List AV} {a : Act} (h : Rels κ env a.tmps) (d : Option Nat) {v : AV} {cv : Value} (hv : Rel κ v cv) : Rels κ (put env d v) (a.put d cv).tmps := by
  cases d with
  | none => exact h
  | some t => exact h.upd t hv
def evA (env : List AV) : Operand → AV
  | .tmp t => nth env t
  | .const v => if plain v then .val v else .junk
  | .global _ => .junk
  | .func f => .fn (.func f) [] []
theorem evA_rel {κ : K} {env : List AV} {a : Act} (h : Rels κ env a.tmps) (x : Operand) : Rel κ (evA env x) (a.eval x) := by
  cases x with
  | tmp t => exact h.nth t
  | const v => simp only [evA]; split; · exact .val ‹_›
               · exact .junk
  | global g => exact .junk
  | func f => exact .fn rfl rfl (fun i hi => by simp at hi) rfl (fun i hi => by simp at hi)
theorem Rel.val_inv {κ : K} {v cv : Value} (h : Rel κ (.val v) cv) : cv = v ∧ plain v = true := by cases h; exact ⟨rfl, ‹_›⟩
def AV.one : AV → Bool
  | .agg _ | .tup _ | .junk => false
  | _ => true
def AV.cells : AV → Option (List AV)
  | .agg cs => if cs.all AV.one then some cs else none
  | .tup _ | .junk => none
  | v => some [v]
theorem Rel.one {κ : K} {v : AV} {cv : Value} (h : Rel κ v cv) (h1 : v.one = true) : cv.oneCell' = true ∧ cv.cells = #[cv] := by
  cases h <;> simp [AV.one] at h1 <;> try exact ⟨rfl, rfl⟩
  rename_i hp
  cases cv <;> simp [plain] at hp <;> exact ⟨rfl, rfl⟩
theorem Rel.cells {κ : K} {v : AV} {cv : Value} (h : Rel κ v cv) {cs : List AV} (hc : v.cells = some cs) : Rels κ cs cv.cells ∧ ∀ u ∈ cv.cells.toList, u.oneCell' = true := by
  by_cases h1 : v.one = true
  · have hv : v.cells = some [v] := by cases v <;> simp [AV.one] at h1 <;> rfl
    rw [hv] at hc; cases hc
    obtain ⟨a, b⟩ := h.one h1
    rw [b]
    refine ⟨⟨rfl, fun i hi hi' => ?_⟩, by simpa using a⟩
    have : i = 0 := by simpa using hi
    subst this; exact h
  · cases v <;> simp [AV.one] at h1 <;> simp [AV.cells] at hc
    obtain ⟨hall, rfl⟩ := hc
    cases h with
    | agg hl hr =>
      refine ⟨⟨hl, hr⟩, fun u hu => ?_⟩
      obtain ⟨i, hi, rfl⟩ := List.getElem_of_mem hu
      simp only [Value.cells, Array.length_toList] at hi
      have := hr i (by omega) hi
      exact (this.one (hall _ (List.getElem_mem _))).1
structure TI where
  desc : TypeDesc
  size : Nat
  bytes : Nat
  zero : Option Value
def ti (P : Program) (t : TypeId) : Option TI :=
  match P.underlying t, P.info? t with
  | some d, some i => some ⟨d, i.size, i.bytes, i.zero⟩
  | _, _ => none
theorem ti_spec {P : Program} {t : TypeId} {i : TI} (h : ti P t = some i) : P.underlying t = some i.desc ∧ ∃ j, P.info? t = some j ∧ j.size = i.size ∧ j.bytes = i.bytes ∧ j.zero = i.zero := by
  unfold ti at h
  split at h
  · rename_i d j h1 h2; cases h; exact ⟨h1, j, h2, rfl, rfl, rfl⟩
  · cases h
theorem run_sizeOf {P : Program} {t : TypeId} {i : TI} (h : ti P t = some i) (w : World) : (sizeOf t).run P w = .ok i.size w := by
  obtain ⟨_, j, h1, h2, _⟩ := ti_spec h
  simp [sizeOf, typeInfo, h1, h2]
theorem run_underlying' {P : Program} {t : TypeId} {i : TI} (h : ti P t = some i) (w : World) : (underlying t).run P w = .ok i.desc w := run_underlying (ti_spec h).1 w
def isAggD : TypeDesc → Bool
  | .struct _ | .array _ _ => true
  | _ => false
theorem run_isAgg {P : Program} {t : TypeId} {i : TI} (h : ti P t = some i) (w : World) : (isAgg t).run P w = .ok (isAggD i.desc) w := by
  simp only [isAgg, Sem.run_bind, run_underlying' h, Result.andThen_ok]
  cases i.desc <;> rfl
theorem cellsOf_ti {P : Program} {t : TypeId} {i : TI} (h : ti P t = some i) : P.cellsOf t = i.size := by
  obtain ⟨_, j, h1, h2, _⟩ := ti_spec h
  simp [Program.cellsOf, h1, h2]
def intBin (op : BinOp) (k : IntKind) (a : Int) (k' : IntKind) (b : Int) : Option AV :=
  match op with
  | .shl => if b < 0 then none else some (.val (.int k (k.wrap (a * 2 ^ (min b.toNat k.bits)))))
  | .shr => if b < 0 then none else some (.val (.int k (a.fdiv (2 ^ (min b.toNat k.bits)))))
  | op => if k ≠ k' then none else match op with
    | .add => some (.val (.int k (k.wrap (a + b))))
    | .sub => some (.val (.int k (k.wrap (a - b))))
    | .mul => some (.val (.int k (k.wrap (a * b))))
    | .quo => if b = 0 then none else some (.val (.int k (k.wrap (a.tdiv b))))
    | .rem => if b = 0 then none else some (.val (.int k (a.tmod b)))
    | .and => some (.val (.int k (bits .and k a b)))
    | .or => some (.val (.int k (bits .or k a b)))
    | .xor => some (.val (.int k (bits .xor k a b)))
    | .andNot => some (.val (.int k (bits .andNot k a b)))
    | .eql => some (.val (.bool (a == b)))
    | .neq => some (.val (.bool (a != b)))
    | .lss => some (.val (.bool (a < b)))
    | .leq => some (.val (.bool (a ≤ b)))
    | .gtr => some (.val (.bool (a > b)))
    | .geq => some (.val (.bool (a ≥ b)))
    | _ => none
def strBin (op : BinOp) (a b : ByteArray) : Option AV :=
  match op with
  | .add => if ((a.size + b.size : Nat) : Int) ≤ 9223372036854775807 then some (.val (.string (a ++ b))) else none
  | .eql => some (.val (.bool (a.toList == b.toList)))
  | .neq => some (.val (.bool !(a.toList == b.toList)))
  | .lss => some (.val (.bool (Op.bytesLess a.toList b.toList)))
  | .leq => some (.val (.bool (Op.bytesLess a.toList b.toList || a.toList == b.toList)))
  | .gtr => some (.val (.bool !(Op.bytesLess a.toList b.toList || a.toList == b.toList)))
  | .geq => some (.val (.bool !(Op.bytesLess a.toList b.toList)))
  | _ => none
def isNilA : AV → Option Bool
  | .ptr _ _ | .vp _ _ => some false
  | .val (.pointer none) => some true
  | .map _ => some false
  | .val (.map none) => some true
  | .val (.slice none 0 0) => some true
  | .ifc _ _ => some false
  | .val .nilIface => some true
  | .fn _ _ _ | .yld _ => some false
  | .val .nilFunc => some true
  | _ => none
def binA (d : TypeDesc) (op : BinOp) (x y : AV) : Option AV :=
  match x, y with
  | .val (.int k a), .val (.int k' b) => intBin op k a k' b
  | .val (.string a), .val (.string b) => strBin op a b
  | .val (.bool a), .val (.bool b) => match d, op with
    | .bool, .eql => some (.val (.bool (a == b)))
    | .bool, .neq => some (.val (.bool !(a == b)))
    | _, _ => none
  | _, _ => none
theorem intBin_sound {P : Program} {op : BinOp} {t : TypeId} {k k' : IntKind} {a b : Int} {r : AV} (h : intBin op k a k' b = some r) :
    ∃ v, r = .val v ∧ plain v = true ∧ ∀ w, (binOp op t (.int k a) (.int k' b)).run P w = .ok v w := by
  unfold intBin at h
  split at h
  · split at h
    · cases h
    · rename_i hb; cases h; exact ⟨_, rfl, rfl, fun w => by simp [binOp, Op.shift, hb]⟩
  · split at h
    · cases h
    · rename_i hb; cases h; exact ⟨_, rfl, rfl, fun w => by simp [binOp, Op.shift, hb]⟩
  · split at h
    · cases h
    · rename_i hk
      have hk : k = k' := by simpa using hk
      subst hk
      split at h
      case _ | _ | _ => cases h; exact ⟨_, rfl, rfl, fun w => by simp [binOp, Op.intArith]⟩
      case _ | _ => split at h; · cases h
                    · rename_i hb; cases h; exact ⟨_, rfl, rfl, fun w => by simp [binOp, Op.intDiv, hb]⟩
      case _ | _ | _ | _ => cases h; exact ⟨_, rfl, rfl, fun w => by simp [binOp]; rfl⟩
      case _ | _ | _ | _ | _ | _ => cases h; exact ⟨_, rfl, rfl, fun w => by simp [binOp, Op.intCmp]⟩
      · cases h
theorem strBin_sound {P : Program} {op : BinOp} {t : TypeId} {a b : ByteArray} {r : AV} (h : strBin op a b = some r) :
    ∃ v, r = .val v ∧ plain v = true ∧ ∀ w, (binOp op t (.string a) (.string b)).run P w = .ok v w := by
  unfold strBin at h
  split at h
  · split at h
    · rename_i hb; cases h
      refine ⟨_, rfl, rfl, fun w => ?_⟩
      have hb' : ¬ ((a.size + b.size : Nat) : Int) > IntKind.i64.max := by simp only [IntKind.max_i64]; omega
      simp only [binOp, Op.stringOp, if_neg hb', Sem.run_pure]
    · cases h
  case _ | _ | _ | _ | _ | _ => cases h; exact ⟨_, rfl, rfl, fun w => by simp [binOp, Op.stringOp]⟩
  · cases h
theorem run_equal_bool {P : Program} {t : TypeId} {i : TI} (hi : ti P t = some i) (hd : i.desc = .bool) (a b : Bool) (w : World) : (Op.equal t (.bool a) (.bool b)).run P w = .ok (a == b) w := by
  show (Op.equalIn (9999 + 1) t (.bool a) (.bool b)).run P w = _
  rw [Op.equalIn, Sem.run_bind, run_underlying' hi w, hd]
  rfl
theorem binA_sound {P : Program} {op : BinOp} {t : TypeId} {i : TI} (hi : ti P t = some i) {x y r : AV} (h : binA i.desc op x y = some r) {κ : K} {cx cy : Value} (hx : Rel κ x cx) (hy : Rel κ y cy)
    (X Y : Operand) : ∃ v, Rel κ r v ∧ ∀ w, (do eqGuard op t X Y cx cy; binOp op t cx cy : Sem Value).run P w = .ok v w := by
  unfold binA at h
  split at h
  · obtain ⟨rfl, _⟩ := hx.val_inv
    obtain ⟨rfl, _⟩ := hy.val_inv
    obtain ⟨v, rfl, hp, hr⟩ := intBin_sound (P := P) (t := t) h
    exact ⟨v, .val hp, fun w => by simp [eqGuard_at_int, hr]⟩
  · obtain ⟨rfl, _⟩ := hx.val_inv
    obtain ⟨rfl, _⟩ := hy.val_inv
    obtain ⟨v, rfl, hp, hr⟩ := strBin_sound (P := P) (t := t) h
    exact ⟨v, .val hp, fun w => by simp [eqGuard_at_string, hr]⟩
  · obtain ⟨rfl, _⟩ := hx.val_inv
    obtain ⟨rfl, _⟩ := hy.val_inv
    have hu := fun w => run_underlying' hi w
    split at h
    · rename_i hd; cases h
      exact ⟨_, .val rfl, fun w => by rw [eqGuard_at_bool]; simp only [binOp, Sem.run_bind, Sem.run_pure, Result.andThen_ok, run_equal_bool hi hd]⟩
    · rename_i hd; cases h
      exact ⟨_, .val rfl, fun w => by rw [eqGuard_at_bool]; simp only [binOp, Sem.run_bind, Sem.run_pure, Result.andThen_ok, run_equal_bool hi hd]⟩
    · cases h
  · cases h
def unA (op : UnOp) (x : AV) : Option AV :=
  match op, x with
  | .not, .val (.bool b) => some (.val (.bool !b))
  | .neg, .val (.int k n) => some (.val (.int k (k.wrap (0 - n))))
  | .xor, .val (.int k n) => some (.val (.int k (bits .xor k (if k.signed then -1 else k.max) n)))
  | _, _ => none
theorem unA_sound {P : Program} {op : UnOp} {x r : AV} (h : unA op x = some r) {κ : K} {cx : Value} (hx : Rel κ x cx) : ∃ v, Rel κ r v ∧ ∀ w, (Op.unary op cx).run P w = .ok v w := by
  unfold unA at h
  split at h <;> cases h <;> obtain ⟨rfl, _⟩ := hx.val_inv
  · exact ⟨_, .val rfl, fun w => by simp [Op.unary]⟩
  · exact ⟨_, .val rfl, fun w => by simp [Op.unary, Op.intArith]⟩
  · exact ⟨_, .val rfl, fun w => by simp [Op.unary]; rfl⟩
end Go.Abs

set_option linter.unusedVariables false
set_option linter.unusedSimpArgs false
namespace Go.Abs
variable {P : Program} {κ : K} {m : Mem} {w : World}
def moveA (k : Nat) : AV → Option AV
  | .ptr n off => some (.ptr n (off + k))
  | .vp cs off => some (.vp cs (off + k))
  | _ => none
theorem moveA_sound {k : Nat} {x r : AV} (h : moveA k x = some r) {cv : Value} (hx : Rel κ x cv) : ∃ a, cv = .pointer (some a) ∧ Rel κ r (.pointer (some (a.add k))) := by
  unfold moveA at h
  split at h <;> cases h
  · cases hx with
    | ptr hr => refine ⟨_, rfl, ?_⟩; rw [addr_plain, Nat.add_assoc]; exact .ptr hr
  · cases hx with
    | vp f h1 h2 => refine ⟨_, rfl, ?_⟩; rw [addr_plain, Nat.add_assoc]; exact .vp f h1 h2
def fieldAddrA (P : Program) (s : TypeId) (f : Nat) (x : AV) : Option AV :=
  match ti P s with
  | some i => match i.desc with
    | .struct fields => match fields[f]? with
      | some fd => match ti P fd.type with
        | some j => if j.size = 0 then none else moveA fd.offset x
        | none => none
      | none => none
    | _ => none
  | none => none
theorem fieldAddrA_sound {s : TypeId} {f : Nat} {x r : AV} (h : fieldAddrA P s f x = some r) {cv : Value} (hx : Rel κ x cv) : ∃ v, Rel κ r v ∧ ∀ w, (Instr.fieldAt s cv f).run P w = .ok v w := by
  unfold fieldAddrA at h
  split at h
  · rename_i i hi
    split at h
    · rename_i fields hd
      split at h
      · rename_i fd hf
        split at h
        · rename_i j hj
          split at h
          · cases h
          · rename_i hz
            obtain ⟨a, rfl, hr⟩ := moveA_sound h hx
            refine ⟨_, hr, fun w => ?_⟩
            simp only [Instr.fieldAt, Sem.run_bind, run_underlying' hi, hd, hf, Result.andThen_ok, Instr.sureAddr, Sem.run_pure, fieldPlace, run_sizeOf hj, hz, if_false]
        · cases h
      · cases h
    · cases h
  · cases h
def indexAddrA (P : Program) (t : TypeId) (x ix : AV) : Option AV :=
  match ti P t, ix with
  | some i, .val (.int _ k) => match i.desc with
    | .slice e => match ti P e with
      | some j => match x with
        | .vs es _ => if h : 0 ≤ k ∧ k < es.length then (if (es[k.toNat]'(by omega)).length = j.size then some (.vp (es[k.toNat]'(by omega)) 0) else none) else none
        | .sl n off len _ => if 0 ≤ k ∧ k < len then some (.ptr n (off + k.toNat * j.size)) else none
        | _ => none
      | none => none
    | .array len e => match ti P e with
      | some j => if 0 ≤ k ∧ k < len then moveA (k.toNat * j.size) x else none
      | none => none
    | _ => none
  | _, _ => none
theorem indexAddrA_sound {t : TypeId} {x ix r : AV} (h : indexAddrA P t x ix = some r) {cv ci : Value} (hx : Rel κ x cv) (hi : Rel κ ix ci) : ∃ v, Rel κ r v ∧ ∀ w, (Instr.indexAt t cv ci).run P w = .ok v w := by
  unfold indexAddrA at h
  split at h
  · rename_i i kk k ht
    obtain ⟨rfl, _⟩ := hi.val_inv
    split at h
    · rename_i e hd
      split at h
      · rename_i j hj
        split at h
        · rename_i es ex
          split at h
          · rename_i hk
            split at h
            · rename_i hlen
              cases h
              cases hx with
              | vnil => simp at hk; omega
              | vz => simp at hk; omega
              | @vs _ _ c o s cap f h1 h2 h3 h4 h5 =>
                have hs : j.size = s := by rw [← hlen]; exact h1 _ (List.getElem_mem _)
                refine ⟨.pointer (some ⟨c, (o + k.toNat * s) + 0, none⟩), .vp (f k.toNat) (fun q hq => ?_) (fun q hq => h5 _ _ _ hq), ?_⟩
                · have := h4 k.toNat q (by omega) (by omega)
                  rw [Nat.add_assoc]; exact this
                · intro w
                  simp only [Instr.indexAt, asIntOf, Sem.run_bind, Sem.run_pure, Result.andThen_ok, run_underlying' ht, hd, hk.1, hk.2, and_self, if_true, run_sizeOf hj, hs, addr_plain, Nat.add_zero]
            · cases h
          · cases h
        · rename_i n off len cap
          split at h
          · rename_i hk
            cases h
            cases hx with
            | snil => simp at hk; omega
            | szero => simp at hk; omega
            | @sl _ _ _ _ cap' c' o' l h1 h2 h3 h4 =>
              rcases h4 with h4 | ⟨rfl, rfl⟩
              · rcases h2 with h2 | h2 <;> omega
              · refine ⟨.pointer (some ⟨l.blk, l.base + (off + k.toNat * j.size), none⟩), .ptr h1, fun w => ?_⟩
                simp only [Instr.indexAt, asIntOf, Sem.run_bind, Sem.run_pure, Result.andThen_ok, run_underlying' ht, hd, hk.1, hk.2, and_self, if_true, run_sizeOf hj, addr_plain, Nat.add_assoc]
          · cases h
        · cases h
      · cases h
    · rename_i len e hd
      split at h
      · rename_i j hj
        split at h
        · rename_i hk
          obtain ⟨a, rfl, hr⟩ := moveA_sound h hx
          refine ⟨_, hr, fun w => ?_⟩
          simp only [Instr.indexAt, asIntOf, Sem.run_bind, Sem.run_pure, Result.andThen_ok, run_underlying' ht, hd, Instr.sureAddr, hk.1, hk.2, and_self, if_true, run_sizeOf hj]
        · cases h
      · cases h
    · cases h
  · cases h
def cellsAt (m : Mem) : AV → Option (List AV × Nat)
  | .ptr n off => match m n with
    | some (.cells _ _ cs) => some (cs, off)
    | _ => none
  | .vp cs off => some (cs, off)
  | _ => none
theorem cellsAt_sound (hs : Sim P κ m w) {x : AV} {cs : List AV} {off : Nat} (h : cellsAt m x = some (cs, off)) {cv : Value} (hx : Rel κ x cv) :
    ∃ c o, (off < cs.length → cv = .pointer (some ⟨c, o + off, none⟩)) ∧ ∃ f : Nat → Value, ∀ i (hi : i < cs.length), w.cell? ⟨c, o + i, none⟩ = some (f i) ∧ Rel κ cs[i] (f i) := by
  unfold cellsAt at h
  split at h
  · rename_i n off'
    split at h
    · rename_i opn t cs' hm
      cases h
      rcases hs.blk n _ hm with ⟨l, h1, hb, _⟩ | ⟨h1, t', h2⟩
      · obtain ⟨arr, t', fz, g1, g2, g3, g4, g5, g6, g7⟩ := hb
        refine ⟨l.blk, l.base, fun _ => ?_, fun i => (arr[l.base + i]?).getD (.bool false), fun i hi => ?_⟩
        · cases hx with
          | ptr hr => rw [h1] at hr; cases hr; rfl
        · obtain ⟨cv', q1, q2⟩ := g7 i hi
          refine ⟨?_, by simpa only [q1, Option.getD_some] using q2⟩
          simp [World.cell?, g1, q1]
      · cases h2
        exact ⟨0, 0, fun h => by simp at h, fun _ => .bool false, fun i hi => by simp at hi⟩
    · cases h
  · cases h
    cases hx with
    | @vp _ _ c o f h1 h2 => exact ⟨c, o, fun _ => rfl, f, fun i hi => ⟨hs.prot _ _ _ (h1 i hi), h2 i hi⟩⟩
  · cases h
def loadA (P : Program) (m : Mem) (t : TypeId) (x : AV) : Option AV :=
  match ti P t, cellsAt m x with
  | some i, some (cs, off) => if isAggD i.desc then (if 0 < i.size ∧ off + i.size ≤ cs.length then some (.agg ((cs.drop off).take i.size)) else none) else cs[off]?
  | _, _ => none
theorem run_loadCells' {c o : Nat} (f : Nat → Value) (n : Nat) (h : ∀ j, j < n → w.cell? ⟨c, o + j, none⟩ = some (f j)) : (loadCells ⟨c, o, none⟩ n).run P w = .ok (Array.ofFn fun j : Fin n => f j) w := by
  have h2 := run_loadCells_list (P := P) (w := w) (⟨c, o, none⟩ : Addr) ((List.range n).map f) (fun j v hj => by
    rw [addr_plain]
    obtain ⟨hj1, rfl⟩ := List.getElem?_eq_some_iff.1 hj
    simp only [List.length_map, List.length_range] at hj1
    simp only [List.getElem_map, List.getElem_range]
    exact h j hj1)
  simp only [List.length_map, List.length_range] at h2
  rw [h2]
  congr 1
  apply Array.ext
  · simp
  · intro i h1 h2; simp
theorem loadA_sound (hs : Sim P κ m w) {t : TypeId} {x r : AV} (h : loadA P m t x = some r) {cv : Value} (hx : Rel κ x cv) : ∃ v, Rel κ r v ∧ ∀ w', Ext w w' → (Instr.loadAt t cv).run P w' = .ok v w' := by
  unfold loadA at h
  split at h
  · rename_i i cs off hi hc
    obtain ⟨c, o, e, f, hf⟩ := cellsAt_sound hs hc hx
    split at h
    · rename_i ha
      split at h
      · rename_i hsz
        cases h
        obtain rfl := e (by omega)
        have := fun (w' : World) (hw : Ext w w') => run_loadCells' (P := P) (w := w') (c := c) (o := o + off) (fun j => f (off + j)) i.size (fun j hj => by
          rw [Nat.add_assoc]; exact hw.cell (hf (off + j) (by omega)).1)
        refine ⟨.agg (Array.ofFn fun j : Fin i.size => f (off + j)), .agg (by simp; omega) (fun q h1 h2 => ?_), ?_⟩
        · simp only [List.length_take, List.length_drop] at h1
          simp only [List.getElem_take, List.getElem_drop, Array.getElem_ofFn]
          exact (hf (off + q) (by omega)).2
        · intro w' hw
          simp only [Instr.loadAt, Instr.sureAddr, loadVar, Sem.run_bind, Sem.run_pure, Result.andThen_ok, run_isAgg hi, ha, if_true, run_sizeOf hi, this w' hw]
      · cases h
    · rename_i ha
      obtain ⟨h1, rfl⟩ := List.getElem?_eq_some_iff.1 h
      obtain rfl := e h1
      obtain ⟨g1, g2⟩ := hf off h1
      refine ⟨f off, g2, fun w' hw => ?_⟩
      have g1 := hw.cell g1
      simp [Instr.loadAt, Instr.sureAddr, loadVar, run_isAgg hi, ha, g1]
  · cases h
def partA (P : Program) (t : TypeId) (cs : List AV) (off : Nat) : Option AV :=
  match ti P t with
  | some i => if isAggD i.desc then (if off + i.size ≤ cs.length then some (.agg ((cs.drop off).take i.size)) else none) else cs[off]?
  | none => none
theorem partA_sound {t : TypeId} {cs : List AV} {off : Nat} {r : AV} (h : partA P t cs off = some r) {ca : Array Value} (hx : Rels κ cs ca) : ∃ v, Rel κ r v ∧ ∀ w, (part t ca off).run P w = .ok v w := by
  unfold partA at h
  split at h
  · rename_i i hi
    split at h
    · rename_i ha
      split at h
      · rename_i hsz
        cases h
        have hsz' : off + i.size ≤ ca.size := hx.1 ▸ hsz
        refine ⟨.agg (ca.extract off (off + i.size)), .agg (by simp; omega) (fun q h1 h2 => ?_), ?_⟩
        · simp only [List.length_take, List.length_drop] at h1
          simp only [List.getElem_take, List.getElem_drop, Array.getElem_extract]
          exact hx.2 _ _ _
        · intro w
          simp only [part, Sem.run_bind, Sem.run_pure, Result.andThen_ok, run_isAgg hi, ha, if_true, run_sizeOf hi]
      · cases h
    · rename_i ha
      obtain ⟨h1, rfl⟩ := List.getElem?_eq_some_iff.1 h
      have h2 : off < ca.size := hx.1 ▸ h1
      exact ⟨ca[off], hx.2 _ _ _, fun w => by simp [part, run_isAgg hi, ha, h2]⟩
  · cases h
def fieldA (P : Program) (t : TypeId) (x : AV) (f : Nat) : Option AV :=
  match ti P t, x with
  | some i, .agg cs => match i.desc with
    | .struct fields => match fields[f]? with
      | some fd => partA P fd.type cs fd.offset
      | none => none
    | _ => none
  | _, _ => none
theorem fieldA_sound {t : TypeId} {x r : AV} {f : Nat} (h : fieldA P t x f = some r) {cv : Value} (hx : Rel κ x cv) : ∃ v, Rel κ r v ∧ ∀ w, (Instr.field t cv f).run P w = .ok v w := by
  unfold fieldA at h
  split at h
  · rename_i i cs hi
    split at h
    · rename_i fields hd
      split at h
      · rename_i fd hf
        cases hx with
        | agg hl hr =>
          obtain ⟨v, h1, h2⟩ := partA_sound h ⟨hl, hr⟩
          exact ⟨v, h1, fun w => by simp only [Instr.field, Sem.run_bind, run_underlying' hi, hd, hf, Result.andThen_ok, asAgg, Sem.run_pure, h2]⟩
      · cases h
    · cases h
  · cases h
def indexA (P : Program) (t : TypeId) (x ix : AV) : Option AV :=
  match ti P t, x, ix with
  | some i, .agg cs, .val (.int _ k) => match i.desc with
    | .array len e => match ti P e with
      | some j => if 0 ≤ k ∧ k < len then partA P e cs (k.toNat * j.size) else none
      | none => none
    | _ => none
  | some i, .val (.string s), .val (.int _ k) => match i.desc with
    | .string => if h : 0 ≤ k ∧ k < s.size then some (.val (.int .u8 (s[k.toNat]'(by omega)).toNat)) else none
    | _ => none
  | _, _, _ => none
theorem indexA_sound {t : TypeId} {x ix r : AV} (h : indexA P t x ix = some r) {cv ci : Value} (hx : Rel κ x cv) (hi : Rel κ ix ci) : ∃ v, Rel κ r v ∧ ∀ w, (Instr.index t cv ci).run P w = .ok v w := by
  unfold indexA at h
  split at h
  · rename_i i cs kk k ht
    obtain ⟨rfl, _⟩ := hi.val_inv
    split at h
    · rename_i len e hd
      split at h
      · rename_i j hj
        split at h
        · rename_i hk
          cases hx with
          | agg hl hr =>
            obtain ⟨v, h1, h2⟩ := partA_sound h ⟨hl, hr⟩
            exact ⟨v, h1, fun w => by simp only [Instr.index, asIntOf, Sem.run_bind, run_underlying' ht, hd, Result.andThen_ok, Sem.run_pure, hk.1, hk.2, and_self, if_true, run_sizeOf hj, h2]⟩
        · cases h
      · cases h
    · cases h
  · rename_i i s kk k ht
    obtain ⟨rfl, _⟩ := hi.val_inv
    obtain ⟨rfl, _⟩ := hx.val_inv
    split at h
    · rename_i hd
      split at h
      · rename_i hk
        cases h
        have hk2 : k.toNat < s.size := by omega
        refine ⟨_, .val rfl, fun w => ?_⟩
        simp [Instr.index, asIntOf, run_underlying' ht, hd, hk.1, hk2]
      · cases h
    · cases h
  · cases h
def natOf (d : Nat) : Option AV → Option Nat
  | none => some d
  | some (.val (.int _ i)) => if 0 ≤ i then some i.toNat else none
  | _ => none
def boundsA (len cap : Nat) (lo hi mx : Option AV) : Option (Nat × Nat × Nat) :=
  match natOf 0 lo, natOf len hi, natOf cap mx with
  | some l, some h, some mm => if l ≤ h ∧ h ≤ mm ∧ mm ≤ cap ∧ (mx.isSome → hi.isSome) then some (l, h, mm) else none
  | _, _, _ => none
def OptRel (κ : K) (a : Option AV) (b : Option Value) : Prop := match a, b with
  | none, none => True
  | some x, some y => Rel κ x y
  | _, _ => False
theorem run_sliceBound {k : IntKind} {i : Int} {y : Nat} {c : BoundsCode} (h0 : 0 ≤ i) (h1 : i ≤ y) : (Instr.sliceBound (.int k i) y c).run P w = .ok i.toNat w := by
  simp [Instr.sliceBound, asIntOf, h0, h1]
theorem run_low {clo : Option Value} {h l X : Nat} {c : BoundsCode} : (match clo with | some v => Instr.sliceBound v h c | none => pure 0 : Sem Nat).run P w = .ok l w →
    (match clo with | some v => (do let l ← Instr.sliceBound v h c; pure (l, h, X)) | none => (do let l ← pure 0; pure (l, h, X)) : Sem (Nat × Nat × Nat)).run P w = .ok (l, h, X) w := by
  intro this
  cases clo with
  | none => simp only [Sem.run_pure, Result.ok.injEq] at this; obtain ⟨rfl, _⟩ := this; rfl
  | some v => simp only at this ⊢; simp only [Sem.run_bind, this, Result.andThen_ok, Sem.run_pure]
theorem boundsA_sound {isS : Bool} {len cap cap' : Nat} {lo hi mx : Option AV} {l h mm : Nat} (hb : boundsA len cap lo hi mx = some (l, h, mm)) (hlc : len ≤ cap) (hc : cap ≤ cap') {clo chi cmx : Option Value}
    (h1 : OptRel κ lo clo) (h2 : OptRel κ hi chi) (h3 : OptRel κ mx cmx) :
    ∃ m', (∀ w, (Instr.sliceBounds isS len cap' clo chi cmx).run P w = .ok (l, h, m') w) ∧ l ≤ h ∧ h ≤ mm ∧ mm ≤ cap ∧ ((mx = none ∧ mm = cap ∧ m' = cap') ∨ (mx ≠ none ∧ m' = mm)) := by
  unfold boundsA at hb
  split at hb
  · rename_i l' h' mm' e1 e2 e3
    split at hb
    · rename_i hh
      cases hb
      obtain ⟨g1, g2, g3, g4⟩ := hh
      have L : ∀ w y c, h ≤ y → (match clo with | some v => Instr.sliceBound v h c | none => pure 0 : Sem Nat).run P w = .ok l w := fun w y c hy => by
        cases lo with
        | none => cases clo with
          | none => simp only [natOf] at e1; cases e1; rfl
          | some _ => exact h1.elim
        | some a => cases clo with
          | none => exact h1.elim
          | some v =>
            unfold natOf at e1
            split at e1
            · cases ‹some a = none›
            · rename_i k i ea
              cases ea
              split at e1
              · cases e1
                obtain ⟨rfl, _⟩ := Rel.val_inv h1
                exact run_sliceBound (by assumption) (by omega)
              · cases e1
            · cases e1
      cases mx with
      | none =>
        cases cmx with
        | some _ => exact h3.elim
        | none =>
          simp only [natOf] at e3; cases e3
          refine ⟨cap', fun w => ?_, g1, g2, g3, .inl ⟨rfl, rfl, rfl⟩⟩
          cases hi with
          | none => cases chi with
            | some _ => exact h2.elim
            | none =>
              simp only [natOf] at e2; cases e2
              have := L w cap' .sliceB (by omega)
              simp only [Instr.sliceBounds, Sem.run_bind, Sem.run_pure, Result.andThen_ok, Option.isSome_none, Bool.false_eq_true, if_false]
              exact run_low this
          | some b => cases chi with
            | none => exact h2.elim
            | some v =>
              unfold natOf at e2
              split at e2
              · cases ‹some b = none›
              · rename_i k i ea
                cases ea
                split at e2
                · cases e2
                  obtain ⟨rfl, _⟩ := Rel.val_inv h2
                  have := L w cap' .sliceB (by omega)
                  simp only [Instr.sliceBounds, Sem.run_bind, Sem.run_pure, Result.andThen_ok, Option.isSome_none, Bool.false_eq_true, if_false]
                  rw [run_sliceBound (by assumption) (by omega)]
                  simp only [Result.andThen_ok]
                  exact run_low this
                · cases e2
              · cases e2
      | some a =>
        cases cmx with
        | none => exact h3.elim
        | some vm =>
          unfold natOf at e3
          split at e3
          · cases ‹some a = none›
          · rename_i k i ea
            cases ea
            split at e3
            · rename_i hi0
              cases e3
              obtain ⟨rfl, _⟩ := Rel.val_inv h3
              refine ⟨i.toNat, fun w => ?_, g1, g2, g3, .inr ⟨by simp, rfl⟩⟩
              cases hi with
              | none => simp at g4
              | some b => cases chi with
                | none => exact h2.elim
                | some v =>
                  unfold natOf at e2
                  split at e2
                  · cases ‹some b = none›
                  · rename_i k' i' ea
                    cases ea
                    split at e2
                    · cases e2
                      obtain ⟨rfl, _⟩ := Rel.val_inv h2
                      have := L w cap' .slice3C (by omega)
                      simp only [Instr.sliceBounds, Sem.run_bind, Sem.run_pure, Result.andThen_ok, Option.isSome_some, if_true]
                      rw [run_sliceBound hi0 (by omega)]
                      simp only [Result.andThen_ok]
                      rw [run_sliceBound (by assumption) (by omega)]
                      simp only [Result.andThen_ok]
                      exact run_low this
                    · cases e2
                  · cases e2
            · cases e3
          · cases e3
    · cases hb
  · cases hb
end Go.Abs

set_option linter.unusedVariables false
set_option linter.unusedSimpArgs false
namespace Go.Abs
variable {P : Program} {κ : K} {m : Mem} {w : World}
def exactA (mx : Option AV) (ex : Bool) (h mm : Nat) : Bool := match mx with | some _ => h == mm | none => ex && h == mm
def sliceA (P : Program) (m : Mem) (t : TypeId) (x : AV) (lo hi mx : Option AV) : Option AV :=
  match ti P t with
  | none => none
  | some i => match i.desc with
    | .string => match x with
      | .val (.string s) => match boundsA s.size s.size lo hi none with
        | some (l, h, _) => if mx.isSome then none else some (.val (.string (s.extract l h)))
        | none => none
      | _ => none
    | .slice e => match ti P e with
      | none => none
      | some j => match x with
        | .val (.slice none 0 0) => match boundsA 0 0 lo hi mx with
          | some _ => some (.val (.slice none 0 0))
          | none => none
        | .vs es ex => match boundsA es.length es.length lo hi mx with
          | some (l, h, mm) => if ∀ e ∈ es, e.length = j.size then some (.vs ((es.drop l).take (h - l)) (exactA mx ex h mm)) else none
          | none => none
        | .sl n off len cap => match m n with
          | some (.cells opn bt _) => if opn = false ∨ P.cellsOf bt = j.size then
              (match boundsA len cap lo hi mx with
              | some (l, h, mm) => some (.sl n (off + l * j.size) (h - l) (mm - l))
              | none => none) else none
          | _ => none
        | _ => none
    | .array len e => match ti P e with
      | none => none
      | some j => match x with
        | .ptr n off => match boundsA len len lo hi mx with
          | some (l, h, mm) => some (.sl n (off + l * j.size) (h - l) (mm - l))
          | none => none
        | _ => none
    | _ => none
theorem sliceA_sound (hs : Sim P κ m w) {t : TypeId} {x r : AV} {lo hi mx : Option AV} (h : sliceA P m t x lo hi mx = some r) {cv : Value} {clo chi cmx : Option Value} (hx : Rel κ x cv)
    (h1 : OptRel κ lo clo) (h2 : OptRel κ hi chi) (h3 : OptRel κ mx cmx) : ∃ v, Rel κ r v ∧ ∀ w, (Instr.sliceAt t cv clo chi cmx).run P w = .ok v w := by
  unfold sliceA at h
  split at h
  · cases h
  · rename_i i ht
    split at h
    · rename_i hd
      split at h
      · rename_i s
        obtain ⟨rfl, _⟩ := hx.val_inv
        split at h
        · rename_i l h' _ hb
          split at h
          · cases h
          · rename_i hmx
            cases h
            have hmn : mx = none := by simpa using hmx
            subst hmn
            have hcn : cmx = none := by cases cmx with | none => rfl | some _ => exact h3.elim
            subst hcn
            obtain ⟨m', hr, _⟩ := boundsA_sound (P := P) (isS := false) hb (Nat.le_refl _) (Nat.le_refl _) h1 h2 (show OptRel κ none none from trivial)
            refine ⟨.string (s.extract l h'), .val rfl, fun w => ?_⟩
            simp only [Instr.sliceAt, Instr.slice, Sem.run_bind, run_underlying' ht, hd, Result.andThen_ok, Option.isSome_none, Bool.false_eq_true, if_false, hr, Sem.run_pure]
        · cases h
      · cases h
    · rename_i e hd
      split at h
      · cases h
      · rename_i j hj
        split at h
        · obtain ⟨rfl, _⟩ := hx.val_inv
          split at h
          · rename_i b hb
            obtain ⟨l, hh, mm⟩ := b
            cases h
            obtain ⟨m', hr, g1, g2, g3, g4⟩ := boundsA_sound (P := P) (isS := true) hb (Nat.le_refl _) (Nat.le_refl _) h1 h2 h3
            have hm0 : m' = 0 := by omega
            have hl0 : l = 0 := by omega
            have hh0 : hh = 0 := by omega
            subst hm0 hl0 hh0
            refine ⟨.slice none 0 0, .val rfl, fun w => ?_⟩
            simp only [Instr.sliceAt, Instr.slice, Sem.run_bind, run_underlying' ht, hd, Result.andThen_ok, hr, run_sizeOf hj, Sem.run_pure, Nat.sub_self, if_true]
          · cases h
        · rename_i es ex
          split at h
          · rename_i l hh mm hb
            split at h
            · rename_i hall
              cases h
              have hx' := hx
              cases hx with
              | vnil =>
                obtain ⟨m', hr, g1, g2, g3, g4⟩ := boundsA_sound (P := P) (isS := true) hb (Nat.le_refl _) (Nat.le_refl _) h1 h2 h3
                simp only [List.length_nil] at g3 g4 hr
                have hm0 : m' = 0 := by omega
                have hl0 : l = 0 := by omega
                have hh0 : hh = 0 := by omega
                subst hm0 hl0 hh0
                refine ⟨.slice none 0 0, by simpa using Rel.vnil, fun w => ?_⟩
                simp only [Instr.sliceAt, Instr.slice, Sem.run_bind, run_underlying' ht, hd, Result.andThen_ok, hr, run_sizeOf hj, Sem.run_pure, Nat.sub_self, if_true]
              | @vz _ a =>
                obtain ⟨m', hr, g1, g2, g3, g4⟩ := boundsA_sound (P := P) (isS := true) hb (Nat.le_refl _) (Nat.le_refl _) h1 h2 h3
                simp only [List.length_nil] at g3 g4 hr
                have hm0 : m' = 0 := by omega
                have hl0 : l = 0 := by omega
                have hh0 : hh = 0 := by omega
                subst hm0 hl0 hh0
                refine ⟨.slice (some a) 0 0, by simpa using Rel.vz, fun w => ?_⟩
                simp only [Instr.sliceAt, Instr.slice, Sem.run_bind, run_underlying' ht, hd, Result.andThen_ok, hr, run_sizeOf hj, Sem.run_pure, Nat.sub_self, if_true]
              | @vs _ _ c o s cap f q1 q2 q3 q4 q5 =>
                obtain ⟨m', hr, g1, g2, g3, g4⟩ := boundsA_sound (P := P) (isS := true) hb (Nat.le_refl _) q2 h1 h2 h3
                have hlen : ((es.drop l).take (hh - l)).length = hh - l := by simp; omega
                refine ⟨.slice (some (if m' = l then ⟨c, o, none⟩ else ⟨c, o + l * j.size, none⟩)) (hh - l) (m' - l), ?_, ?_⟩
                · have hsz : ∀ k, k < es.length → s = j.size := fun k hk => by
                    rw [← q1 _ (List.getElem_mem hk), hall _ (List.getElem_mem hk)]
                  have key : ∀ (oo : Nat), (l < hh → oo = o + l * s) → Rel κ (.vs ((es.drop l).take (hh - l)) (exactA mx ex hh mm)) (.slice (some ⟨c, oo, none⟩) (hh - l) (m' - l)) := fun oo ho => by
                    have := @Rel.vs κ ((es.drop l).take (hh - l)) (exactA mx ex hh mm) c oo s (m' - l) (fun i jj => f (l + i) jj)
                      (fun e he => q1 e (List.mem_of_mem_drop (List.mem_of_mem_take he))) (by rw [hlen]; omega)
                      (fun hex => by
                        rw [hlen]
                        unfold exactA at hex
                        cases mx with
                        | some a =>
                          simp only [beq_iff_eq] at hex
                          rcases g4 with ⟨g, _⟩ | ⟨_, g⟩
                          · cases g
                          · omega
                        | none =>
                          simp only [Bool.and_eq_true, beq_iff_eq] at hex
                          rcases g4 with ⟨_, g5, g6⟩ | ⟨g, _⟩
                          · have := q3 hex.1; omega
                          · exact absurd rfl g)
                      (fun i jj hi hjj => by
                        rw [hlen] at hi
                        rw [ho (by omega)]
                        have := q4 (l + i) jj (by omega) hjj
                        rw [Nat.add_mul] at this
                        rw [show o + l * s + (i * s + jj) = o + (l * s + i * s + jj) by omega]
                        exact this)
                      (fun i hi jj hjj => by
                        simp only [List.getElem_take, List.getElem_drop] at hjj ⊢
                        exact q5 (l + i) (by rw [hlen] at hi; omega) jj hjj)
                    rw [hlen] at this
                    exact this
                  by_cases hml : m' = l
                  · rw [if_pos hml]; exact key o (fun hlt => by rcases g4 with ⟨_, g5, g6⟩ | ⟨_, g6⟩ <;> omega)
                  · rw [if_neg hml]; exact key (o + l * j.size) (fun hlt => by rw [hsz l (by omega)])
                · intro w
                  simp only [Instr.sliceAt, Instr.slice, Sem.run_bind, run_underlying' ht, hd, Result.andThen_ok, hr, run_sizeOf hj, Sem.run_pure, Option.map_some, addr_plain]
                  split <;> rfl
            · cases h
          · cases h
        · rename_i n off len cap
          split at h
          · rename_i opn bt bcs hm
            split at h
            · rename_i hopn
              split at h
              · rename_i l hh mm hb
                cases h
                cases hx with
                | snil =>
                  obtain ⟨m', hr, g1, g2, g3, g4⟩ := boundsA_sound (P := P) (isS := true) hb (Nat.le_refl _) (Nat.le_refl _) h1 h2 h3
                  have hm0 : m' = 0 := by omega
                  have hl0 : l = 0 := by omega
                  have hh0 : hh = 0 := by omega
                  have hmm0 : mm = 0 := by omega
                  subst hm0 hl0 hh0 hmm0
                  refine ⟨.slice none 0 0, .snil, fun w => ?_⟩
                  simp only [Instr.sliceAt, Instr.slice, Sem.run_bind, run_underlying' ht, hd, Result.andThen_ok, hr, run_sizeOf hj, Sem.run_pure, Nat.sub_self, if_true]
                | @szero _ _ a =>
                  obtain ⟨m', hr, g1, g2, g3, g4⟩ := boundsA_sound (P := P) (isS := true) hb (Nat.le_refl _) (Nat.le_refl _) h1 h2 h3
                  have hm0 : m' = 0 := by omega
                  have hl0 : l = 0 := by omega
                  have hh0 : hh = 0 := by omega
                  have hmm0 : mm = 0 := by omega
                  subst hm0 hl0 hh0 hmm0
                  refine ⟨.slice (some a) 0 0, .szero, fun w => ?_⟩
                  simp only [Instr.sliceAt, Instr.slice, Sem.run_bind, run_underlying' ht, hd, Result.andThen_ok, hr, run_sizeOf hj, Sem.run_pure, Nat.sub_self, if_true]
                | @sl _ _ _ _ cap' c' o' loc q1 q2 q3 q4 =>
                  have hcc : cap ≤ cap' := by rcases q2 with q2 | q2 <;> omega
                  obtain ⟨m', hr, g1, g2, g3, g4⟩ := boundsA_sound (P := P) (isS := true) hb q3 hcc h1 h2 h3
                  have hext : (opn = false → loc.ext = 0) ∧ (opn = true → loc.size = P.cellsOf bt) := by
                    rcases hs.blk n _ hm with ⟨l', e1, e2, _⟩ | ⟨e1, _⟩
                    · rw [q1] at e1; cases e1
                      obtain ⟨arr, t', fz, z1, z2, z3, z4, z5, z6, z7⟩ := e2
                      exact ⟨z5, z6⟩
                    · rw [q1] at e1; cases e1
                  refine ⟨.slice (some ⟨c', if m' = l then o' else o' + l * j.size, none⟩) (hh - l) (m' - l), .sl q1 ?_ (by omega) ?_, ?_⟩
                  · rcases g4 with ⟨_, g5, g6⟩ | ⟨_, g6⟩
                    · subst g5 g6
                      rcases q2 with q2 | ⟨q2, q2'⟩
                      · exact .inl (by omega)
                      · rcases hopn with ho | ho
                        · have := hext.1 ho; exact .inl (by omega)
                        · cases opn with
                          | false => have := hext.1 rfl; exact .inl (by omega)
                          | true =>
                            have := hext.2 rfl
                            refine .inr ⟨?_, by omega⟩
                            rw [← q2, this, ho, Nat.add_assoc, ← Nat.add_mul]
                            congr 2
                            omega
                    · exact .inl (by omega)
                  · split
                    · exact .inl (by omega)
                    · rcases q4 with q4 | ⟨rfl, rfl⟩
                      · exact .inl (by omega)
                      · exact .inr ⟨rfl, by rw [Nat.add_assoc]⟩
                  · intro w
                    simp only [Instr.sliceAt, Instr.slice, Sem.run_bind, run_underlying' ht, hd, Result.andThen_ok, hr, run_sizeOf hj, Sem.run_pure, Option.map_some, addr_plain]
                    split <;> rfl
              · cases h
            · cases h
          · cases h
        · cases h
    · rename_i len e hd
      split at h
      · cases h
      · rename_i j hj
        split at h
        · rename_i n off
          split at h
          · rename_i l hh mm hb
            cases h
            cases hx with
            | @ptr _ _ loc q1 =>
              obtain ⟨m', hr, g1, g2, g3, g4⟩ := boundsA_sound (P := P) (isS := false) hb (Nat.le_refl _) (Nat.le_refl _) h1 h2 h3
              have hmm : m' = mm := by rcases g4 with ⟨_, g5, g6⟩ | ⟨_, g6⟩ <;> omega
              subst hmm
              refine ⟨.slice (some ⟨loc.blk, if m' = l then loc.base + off else loc.base + off + l * j.size, none⟩) (hh - l) (m' - l), .sl q1 (.inl rfl) (by omega) ?_, ?_⟩
              · split
                · exact .inl (by omega)
                · exact .inr ⟨rfl, by rw [Nat.add_assoc]⟩
              · intro w
                simp only [Instr.sliceAt, Sem.run_bind, run_underlying' ht, hd, Result.andThen_ok, Instr.sureAddr, hr, run_sizeOf hj, Sem.run_pure, addr_plain]
                split <;> rfl
          · cases h
        · cases h
    · cases h
def lenA (P : Program) (m : Mem) (t : TypeId) (x : AV) : Option AV :=
  match ti P t with
  | none => none
  | some i => match i.desc, x with
    | .string, .val (.string s) => some (.val (.int .i64 s.size))
    | .slice _, .vs es _ => some (.val (.int .i64 es.length))
    | .slice _, .sl _ _ n _ => some (.val (.int .i64 n))
    | .slice _, .val (.slice none 0 0) => some (.val (.int .i64 0))
    | .array n _, _ => some (.val (.int .i64 n))
    | .map _ _, .val (.map none) => some (.val (.int .i64 0))
    | .map _ _, .map n => match m n with
      | some (.map es) => some (.val (.int .i64 es.length))
      | _ => none
    | _, _ => none
theorem lenA_sound (hs : Sim P κ m w) {t ty : TypeId} {ts : Array TypeId} {x r : AV} (ht : ts[0]? = some t) (h : lenA P m t x = some r) {cv : Value} {args : Array Value} (ha : args[0]? = some cv) (hx : Rel κ x cv) :
    ∃ v, Rel κ r v ∧ ∀ w', Ext w w' → (Builtin.len_ ts ty args).run P w' = .ok v w' := by
  unfold lenA at h
  split at h
  · cases h
  · rename_i i hi
    split at h
    · rename_i s hd; cases h
      obtain ⟨rfl, _⟩ := hx.val_inv
      exact ⟨_, .val rfl, fun w' hw => by simp only [Builtin.len_, ht, ha, Sem.run_bind, run_underlying' hi, Result.andThen_ok, hd]; rfl⟩
    · rename_i e es ex hd; cases h
      cases hx with
      | vnil => exact ⟨_, .val rfl, fun w' hw => by simp only [Builtin.len_, ht, ha, Sem.run_bind, run_underlying' hi, Result.andThen_ok, hd]; rfl⟩
      | vz => exact ⟨_, .val rfl, fun w' hw => by simp only [Builtin.len_, ht, ha, Sem.run_bind, run_underlying' hi, Result.andThen_ok, hd]; rfl⟩
      | vs f _ _ _ _ _ => exact ⟨_, .val rfl, fun w' hw => by simp only [Builtin.len_, ht, ha, Sem.run_bind, run_underlying' hi, Result.andThen_ok, hd]; rfl⟩
    · rename_i e n off k cap hd; cases h
      cases hx with
      | szero => exact ⟨_, .val rfl, fun w' hw => by simp only [Builtin.len_, ht, ha, Sem.run_bind, run_underlying' hi, Result.andThen_ok, hd]; rfl⟩
      | snil => exact ⟨_, .val rfl, fun w' hw => by simp only [Builtin.len_, ht, ha, Sem.run_bind, run_underlying' hi, Result.andThen_ok, hd]; rfl⟩
      | sl _ _ _ _ => exact ⟨_, .val rfl, fun w' hw => by simp only [Builtin.len_, ht, ha, Sem.run_bind, run_underlying' hi, Result.andThen_ok, hd]; rfl⟩
    · rename_i e hd; cases h
      obtain ⟨rfl, _⟩ := hx.val_inv
      exact ⟨_, .val rfl, fun w' hw => by simp only [Builtin.len_, ht, ha, Sem.run_bind, run_underlying' hi, Result.andThen_ok, hd]; rfl⟩
    · rename_i n e hd; cases h
      exact ⟨.int .i64 n, .val rfl, fun w' hw => by simp only [Builtin.len_, ht, ha, Sem.run_bind, run_underlying' hi, Result.andThen_ok, hd]; rfl⟩
    · rename_i k e hd; cases h
      obtain ⟨rfl, _⟩ := hx.val_inv
      exact ⟨_, .val rfl, fun w' hw => by simp only [Builtin.len_, ht, ha, Sem.run_bind, run_underlying' hi, Result.andThen_ok, hd]; rfl⟩
    · rename_i k e n hd
      split at h
      · rename_i es hm
        cases h
        cases hx with
        | @map _ l q =>
          rcases hs.blk n _ hm with ⟨l', e1, e2, _⟩ | ⟨e1, t', e2⟩
          · rw [q] at e1; cases e1
            obtain ⟨ents, clock, z1, z2, _⟩ := e2
            refine ⟨.int .i64 es.length, .val rfl, fun w' hw => ?_⟩
            have z1 := (hw _ (hs.lt _ _ q)).trans z1
            simp only [Builtin.len_, ht, ha, Sem.run_bind, run_underlying' hi, Result.andThen_ok, hd]
            simp [getObj, Sem.run, z1, z2, goInt]
          · cases e2
      · cases h
    · cases h
def mmA (big : Bool) : List AV → Option AV
  | .val (.int k x) :: rest => rest.foldlM (fun (a : AV) b => match a, b with
      | .val (.int k x), .val (.int _ y) => some (AV.val (.int k (if big then (if y > x then y else x) else (if y < x then y else x))))
      | _, _ => none) (.val (.int k x))
  | _ => none
end Go.Abs

set_option linter.unusedVariables false
set_option linter.unusedSimpArgs false
namespace Go.Abs
variable {P : Program} {κ : K} {m : Mem} {w : World}
theorem mm2 (big : Bool) (k k' : IntKind) (x y : Int) : ((if big then Builtin.max2 else Builtin.min2) (.int k x) (.int k' y)).run P w = .ok (.int k (if big then (if y > x then y else x) else (if y < x then y else x))) w := by
  cases big <;> simp [Builtin.max2, Builtin.min2]
theorem mm_fold (big : Bool) : ∀ (rest : List AV) (a r : AV), rest.foldlM (fun (a : AV) b => match a, b with
      | .val (.int k x), .val (.int _ y) => some (AV.val (.int k (if big then (if y > x then y else x) else (if y < x then y else x))))
      | _, _ => none) a = some r → ∀ (ca : Value) (cs : List Value), Rel κ a ca → rest.length = cs.length → (∀ i (h : i < rest.length) (h' : i < cs.length), Rel κ rest[i] cs[i]) →
      ∃ v, Rel κ r v ∧ ∀ w, (cs.foldlM (if big then Builtin.max2 else Builtin.min2) ca).run P w = .ok v w
  | [], a, r, h, ca, cs, hc, hl, _ => by
    cases h
    have : cs = [] := List.eq_nil_of_length_eq_zero hl.symm
    subst this
    exact ⟨ca, hc, fun _ => rfl⟩
  | b :: rest, a, r, h, ca, cs, hc, hl, hr => by
    cases cs with
    | nil => simp at hl
    | cons cb cs =>
      simp only [List.foldlM_cons, Option.bind_eq_bind, Option.bind_eq_some_iff] at h
      obtain ⟨a', h1, h2⟩ := h
      split at h1
      · rename_i k x k' y
        cases h1
        obtain ⟨rfl, _⟩ := hc.val_inv
        obtain ⟨e, _⟩ := (hr 0 (by simp) (by simp)).val_inv
        simp only [List.getElem_cons_zero] at e
        subst e
        obtain ⟨v, g1, g2⟩ := mm_fold big rest _ r h2 (.int k (if big then (if y > x then y else x) else (if y < x then y else x))) cs (.val rfl) (by simpa using hl) (fun i p q => hr (i + 1) (by simpa using p) (by simpa using q))
        refine ⟨v, g1, fun w => ?_⟩
        rw [List.foldlM_cons, Sem.run_bind, mm2]
        exact g2 w
      · cases h1
theorem mmA_sound {big : Bool} {args : List AV} {r : AV} (h : mmA big args = some r) {ts : Array TypeId} {ty : TypeId} {ca : Array Value} (hr : Rels κ args ca) :
    ∃ v, Rel κ r v ∧ ∀ w, ((if big then Builtin.max_ else Builtin.min_) ts ty ca).run P w = .ok v w := by
  unfold mmA at h
  split at h
  · rename_i k x rest
    obtain ⟨hl, hr⟩ := hr
    obtain ⟨cs⟩ := ca
    cases cs with
    | nil => simp at hl
    | cons c cs =>
      have h0 := hr 0 (by simp) (by simp)
      simp only [List.getElem_cons_zero, List.getElem_toArray] at h0
      obtain ⟨v, g1, g2⟩ := mm_fold (P := P) big rest _ r h c cs h0 (by simpa using hl) (fun i p q => hr (i + 1) (by simpa using p) (by simpa using q))
      refine ⟨v, g1, fun w => ?_⟩
      have g2 := g2 w
      cases big <;> simpa [Builtin.max_, Builtin.min_] using g2
  · cases h
def eqFieldsA (P : Program) (eq : TypeId → AV → AV → Option Bool) : List Field → List AV → List AV → Option Bool
  | [], _, _ => some true
  | f :: fs, xs, ys =>
    if f.name = "_" then eqFieldsA P eq fs xs ys
    else match partA P f.type xs f.offset, partA P f.type ys f.offset with
      | some a, some b => match eq f.type a b with
        | some r => match fs with
          | [] => some r
          | f' :: fs' => match eqFieldsA P eq (f' :: fs') xs ys with
            | some s => some (r && s)
            | none => none
        | none => none
      | _, _ => none
def eqA (P : Program) : Nat → TypeId → AV → AV → Option Bool
  | 0, _, _, _ => none
  | d + 1, t, x, y => match ti P t with
    | none => none
    | some i => match i.desc, x, y with
      | .int _, .val (.int k a), .val (.int k' b) => if k = k' then some (a == b) else none
      | .bool, .val (.bool a), .val (.bool b) => some (a == b)
      | .string, .val (.string a), .val (.string b) => some (a.toList == b.toList)
      | .struct fs, .agg xs, .agg ys => if P.stoodInHeld t then none else eqFieldsA P (eqA P d) fs.toList xs ys
      | _, _, _ => none
theorem eqFieldsA_sound {eq : TypeId → AV → AV → Option Bool} {e : Nat} (heq : ∀ t x y r, eq t x y = some r → ∀ (cx cy : Value), Rel κ x cx → Rel κ y cy → (Op.equalIn e t cx cy).run P w = .ok r w) :
    ∀ (fs : List Field) (xs ys : List AV) (r : Bool), eqFieldsA P eq fs xs ys = some r → ∀ (cx cy : Array Value), Rels κ xs cx → Rels κ ys cy → (Op.eqFields e cx cy fs).run P w = .ok r w
  | [], xs, ys, r, h => by
    intro cx cy hx hy
    rw [eqFieldsA] at h; cases h; rfl
  | f :: fs, xs, ys, r, h => by
    intro cx cy hx hy
    rw [eqFieldsA] at h
    split at h
    · rename_i hn
      rw [Op.eqFields, if_neg (by simpa using hn)]
      exact eqFieldsA_sound heq fs xs ys r h cx cy hx hy
    · rename_i hn
      split at h
      · rename_i a b ha hb
        obtain ⟨ca, g1, g2⟩ := partA_sound ha hx
        obtain ⟨cb, g3, g4⟩ := partA_sound hb hy
        split at h
        · rename_i q hq
          have g5 := heq f.type a b q hq ca cb g1 g3
          rw [Op.eqFields, if_pos (by simpa using hn)]
          simp only [Sem.run_bind, g2, g4, g5, Result.andThen_ok]
          split at h
          · cases h
            cases r
            · rfl
            · simp [Op.eqFields]
          · split at h
            · rename_i s hs
              cases h
              have g6 := eqFieldsA_sound heq _ xs ys s hs cx cy hx hy
              cases q
              · rfl
              · simpa using g6
            · cases h
        · cases h
      · cases h
theorem eqA_sound : ∀ (d : Nat) (t : TypeId) (x y : AV) (r : Bool), eqA P d t x y = some r → ∀ (e : Nat), d ≤ e → ∀ (cx cy : Value), Rel κ x cx → Rel κ y cy → (Op.equalIn e t cx cy).run P w = .ok r w
  | 0, _, _, _, _, h => by simp [eqA] at h
  | d + 1, t, x, y, r, h => by
    intro e he cx cy hx hy
    obtain ⟨e, rfl⟩ : ∃ k, e = k + 1 := ⟨e - 1, by omega⟩
    rw [eqA] at h
    split at h
    · cases h
    · rename_i i hi
      split at h
      · rename_i k k1 a k2 b hd
        split at h
        · rename_i hk
          subst hk; cases h
          obtain ⟨rfl, _⟩ := hx.val_inv
          obtain ⟨rfl, _⟩ := hy.val_inv
          exact run_equalIn_int w e t k1 k a b ((ti_spec hi).1.trans (by rw [hd]))
        · cases h
      · rename_i a b hd
        cases h
        obtain ⟨rfl, _⟩ := hx.val_inv
        obtain ⟨rfl, _⟩ := hy.val_inv
        exact run_equalIn_bool' w e t a b ((ti_spec hi).1.trans (by rw [hd]))
      · rename_i a b hd
        cases h
        obtain ⟨rfl, _⟩ := hx.val_inv
        obtain ⟨rfl, _⟩ := hy.val_inv
        exact run_equalIn_string w e t a b ((ti_spec hi).1.trans (by rw [hd]))
      · rename_i fs xs ys hd
        split at h
        · cases h
        · rename_i hp
          have hu : P.underlying t = some (.struct fs) := (ti_spec hi).1.trans (by rw [hd])
          have hf : P.fieldsOf t = fs := by simp [Program.fieldsOf, hu]
          cases hx with
          | agg hl hr =>
            cases hy with
            | agg hl' hr' =>
              rw [run_equalIn_struct w e t _ _ (by rw [hf]; exact hu) (by simpa using hp), hf]
              exact eqFieldsA_sound (fun t x y r h => eqA_sound d t x y r h e (by omega)) fs.toList xs ys r h _ _ ⟨hl, hr⟩ ⟨hl', hr'⟩
      · cases h
def nilBin (d : TypeDesc) (x y : AV) : Option Bool :=
  match isNilA x, isNilA y with
  | some a, some b => if a || b then (match d, x, y with
      | .pointer _, .ptr _ _, _ | .pointer _, .vp _ _, _ | .pointer _, .val (.pointer none), _ => match y with
        | .ptr _ _ | .vp _ _ | .val (.pointer none) => some (a && b)
        | _ => none
      | .map _ _, .map _, .val (.map none) | .map _ _, .val (.map none), .map _ | .map _ _, .val (.map none), .val (.map none) => some (a && b)
      | .slice _, .val (.slice none 0 0), .val (.slice none 0 0) => some (a && b)
      | .func _ _ _, .fn _ _ _, .val .nilFunc | .func _ _ _, .val .nilFunc, .fn _ _ _ | .func _ _ _, .val .nilFunc, .val .nilFunc => some (a && b)
      | _, _, _ => none) else none
  | _, _ => (match d, x, y with
      | .slice _, .sl _ _ _ cap, .val (.slice none 0 0) => if 0 < cap then some false else none
      | .slice _, .val (.slice none 0 0), .sl _ _ _ cap => if 0 < cap then some false else none
      | .slice _, .vs es _, .val (.slice none 0 0) => if 0 < es.length then some false else none
      | .slice _, .val (.slice none 0 0), .vs es _ => if 0 < es.length then some false else none
      | _, _, _ => none)
theorem run_equal_of (t : TypeId) (x y : Value) {r : Bool} (h : (Op.equalIn (9999 + 1) t x y).run P w = .ok r w) : (Op.equal t x y).run P w = .ok r w := h
theorem nilBin_sound {t : TypeId} {i : TI} (hi : ti P t = some i) {x y : AV} {r : Bool} (h : nilBin i.desc x y = some r) {cx cy : Value} (hx : Rel κ x cx) (hy : Rel κ y cy) :
    (∀ z v, eqGuard .eql t z v cx cy = pure ()) ∧ (∀ z v, eqGuard .neq t z v cx cy = pure ()) ∧ (Op.equal t cx cy).run P w = .ok r w ∧
    (binOp .eql t cx cy = do pure (.bool (← Op.equal t cx cy))) ∧ (binOp .neq t cx cy = do pure (.bool (!(← Op.equal t cx cy)))) := by
  have eqn : ∀ {d : TypeDesc} (hd : i.desc = d), (Op.equal t cx cy).run P w = (Op.equalIn (9999 + 1) t cx cy).run P w := fun _ => rfl
  have key : ∀ {d : TypeDesc} (hd : i.desc = d), P.underlying t = some d := fun hd => (ti_spec hi).1.trans (by rw [hd])
  unfold nilBin at h
  split at h
  · rename_i a b ha hb
    split at h
    · rename_i hab
      split at h
      case _ | _ | _ =>
        rename_i hd
        split at h
        all_goals first | (cases h; done) | skip
        all_goals
          cases h
          cases hx <;> cases hy <;> simp [isNilA] at ha hb <;> subst ha hb <;>
            refine ⟨fun _ _ => eqGuard_at_pointer .., fun _ _ => eqGuard_at_pointer .., ?_, rfl, rfl⟩ <;>
            (try (simp at hab; done)) <;>
            (refine run_equal_of _ _ _ ?_; rw [Op.equalIn, Sem.run_bind, run_underlying (key hd)]; rfl)
      all_goals first | (cases h; done) | skip
      all_goals
        rename_i hd
        cases h
        cases hx <;> cases hy <;> simp [isNilA] at ha hb <;> subst ha hb <;>
          first
            | exact ⟨fun _ _ => eqGuard_at_map .., fun _ _ => eqGuard_at_map .., by refine run_equal_of _ _ _ ?_; rw [Op.equalIn, Sem.run_bind, run_underlying (key hd)]; rfl, rfl, rfl⟩
            | exact ⟨fun _ _ => eqGuard_at_slice .., fun _ _ => eqGuard_at_slice .., by refine run_equal_of _ _ _ ?_; rw [Op.equalIn, Sem.run_bind, run_underlying (key hd)]; rfl, rfl, rfl⟩
            | exact ⟨fun _ _ => eqGuard_at_func .., fun _ _ => eqGuard_at_func .., by refine run_equal_of _ _ _ ?_; rw [Op.equalIn, Sem.run_bind, run_underlying (key hd)]; rfl, rfl, rfl⟩
            | exact ⟨fun _ _ => eqGuard_at_nilFunc .., fun _ _ => eqGuard_at_nilFunc .., by refine run_equal_of _ _ _ ?_; rw [Op.equalIn, Sem.run_bind, run_underlying (key hd)]; rfl, rfl, rfl⟩
    · cases h
  · split at h
    all_goals first | (cases h; done) | skip
    all_goals
      rename_i hd _
      split at h
      · rename_i hpos
        cases h
        cases hx <;> cases hy <;> (try (simp at hpos; done)) <;>
          exact ⟨fun _ _ => eqGuard_at_slice .., fun _ _ => eqGuard_at_slice .., by refine run_equal_of _ _ _ ?_; rw [Op.equalIn, Sem.run_bind, run_underlying (key hd)]; rfl, rfl, rfl⟩
      · cases h
end Go.Abs

set_option linter.unusedVariables false
set_option linter.unusedSimpArgs false
namespace Go.Abs
variable {P : Program} {κ : K} {m : Mem} {w : World}
theorem run_convert_bytes_zero (w : World) (src e : TypeId) (hs : P.underlying src = some (.slice e)) (he : P.underlying e = some (.int .u8)) (a : Addr) (dst : TypeId) (hd : P.underlying dst = some .string) :
    (convert src dst (.slice (some a) 0 0)).run P w = .ok (.string (strOfNums [])) w := by
  have hl : (loadCells a 0).run P w = .ok #[] w := by simp [loadCells, loadCellsFrom]
  rw [run_convert_bytes_string w src dst e _ 0 0 hs he hd, run_bytesToString w _ 0 0 [] hl, foldl_push_bytes]
  rfl
def byteOfA : AV → Option Int
  | .val (.int .u8 x) => some x
  | _ => none
def byteOfE : List AV → Option Int
  | [.val (.int .u8 x)] => some x
  | _ => none
theorem mapM_get {α β : Type} (f : α → Option β) : ∀ (l : List α) (r : List β), l.mapM f = some r → r.length = l.length ∧ ∀ i (h : i < l.length) (h' : i < r.length), f l[i] = some r[i]
  | [], r, h => by simp at h; subst h; exact ⟨rfl, fun i h => by simp at h⟩
  | a :: l, r, h => by
    simp only [List.mapM_cons, Option.bind_eq_bind, Option.bind_eq_some_iff, Option.pure_def, Option.some.injEq] at h
    obtain ⟨b, h1, bs, h2, rfl⟩ := h
    obtain ⟨g1, g2⟩ := mapM_get f l bs h2
    refine ⟨by simp [g1], fun i h h' => ?_⟩
    cases i with
    | zero => exact h1
    | succ i => exact g2 i (by simpa using h) (by simpa using h')
def convA (P : Program) (m : Mem) (src dst : TypeId) (x : AV) : Option AV :=
  match ti P src, ti P dst with
  | some i, some j => match j.desc, x with
    | .int k, .val (.int _ n) => some (.val (.int k (k.wrap n)))
    | .string, .val (.string s) => some (.val (.string s))
    | .string, .vs es _ => match i.desc with
      | .slice e => match ti P e with
        | some q => match q.desc with
          | .int .u8 => match es.mapM byteOfE with
            | some xs => some (.val (.string (strOfNums xs)))
            | none => none
          | _ => none
        | none => none
      | _ => none
    | .string, .sl n off len _ => match i.desc, m n with
      | .slice e, some (.cells _ _ cs) => match ti P e with
        | some q => match q.desc with
          | .int .u8 => if off + len ≤ cs.length then (match ((cs.drop off).take len).mapM byteOfA with
            | some xs => some (.val (.string (strOfNums xs)))
            | none => none) else none
          | _ => none
        | none => none
      | _, _ => none
    | _, _ => none
  | _, _ => none
theorem convA_sound (hs : Sim P κ m w) {src dst : TypeId} {x r : AV} (h : convA P m src dst x = some r) {cv : Value} (hx : Rel κ x cv) : ∃ v, Rel κ r v ∧ ∀ w', Ext w w' → (convert src dst cv).run P w' = .ok v w' := by
  unfold convA at h
  split at h
  · rename_i i j hi hj
    split at h
    · rename_i k _ n hd; cases h
      obtain ⟨rfl, _⟩ := hx.val_inv
      exact ⟨_, .val rfl, fun w' hw => by simp [convert, run_underlying' hi, run_underlying' hj, hd, Conv.intToInt]⟩
    · rename_i s hd; cases h
      obtain ⟨rfl, _⟩ := hx.val_inv
      exact ⟨_, .val rfl, fun w' hw => by simp [convert, run_underlying' hi, run_underlying' hj, hd]⟩
    · rename_i es ex hd
      split at h
      · rename_i e hsl
        split at h
        · rename_i q hq
          split at h
          · rename_i hq8
            split at h
            · rename_i xs hxs
              cases h
              obtain ⟨hlen, hget⟩ := mapM_get _ _ _ hxs
              have hs' : P.underlying src = some (.slice e) := (ti_spec hi).1.trans (by rw [hsl])
              have he' : P.underlying e = some (.int .u8) := (ti_spec hq).1.trans (by rw [hq8])
              have hd' : P.underlying dst = some .string := (ti_spec hj).1.trans (by rw [hd])
              cases hx with
              | vnil =>
                refine ⟨.string (strOfNums xs), .val rfl, fun w' hw => ?_⟩
                have : xs = [] := List.eq_nil_of_length_eq_zero (by simpa using hlen)
                subst this
                exact run_convert_bytes_nil w' src e hs' he' 0 0 dst hd'
              | vz =>
                refine ⟨.string (strOfNums xs), .val rfl, fun w' hw => ?_⟩
                have : xs = [] := List.eq_nil_of_length_eq_zero (by simpa using hlen)
                subst this
                exact run_convert_bytes_zero w' src e hs' he' _ dst hd'
              | @vs _ _ c o s cap f q1 q2 q3 q4 q5 =>
                refine ⟨.string (strOfNums xs), .val rfl, fun w' hw => ?_⟩
                refine run_convert_bytes_arg w' src e hs' he' c o es.length cap xs hlen (fun k hk => ?_) dst hd'
                have hk' : k < xs.length := by omega
                have hb := hget k hk hk'
                have hone : es[k] = [.val (.int .u8 xs[k])] := by
                  unfold byteOfE at hb
                  split at hb
                  · rename_i y hy; cases hb; exact hy
                  · cases hb
                have hs1 : s = 1 := by rw [← q1 _ (List.getElem_mem hk), hone]; rfl
                subst hs1
                have g1 := hw.cell (hs.prot _ _ _ (q4 k 0 hk (by omega)))
                have g2 := q5 k hk 0 (by rw [hone]; simp)
                have g3 : Rel κ (.val (.int .u8 xs[k])) (f k 0) := by
                  have : es[k][0]'(by rw [hone]; simp) = AV.val (.int .u8 xs[k]) := by simp [hone]
                  rw [this] at g2; exact g2
                obtain ⟨g4, _⟩ := g3.val_inv
                rw [g4] at g1
                simpa [List.getD_eq_getElem?_getD, List.getElem?_eq_getElem hk'] using g1
            · cases h
          · cases h
        · cases h
      · cases h
    · rename_i n off len cap hd
      split at h
      · rename_i e opn bt cs hsl hm
        split at h
        · rename_i q hq
          split at h
          · rename_i hq8
            split at h
            · rename_i hfit
              split at h
              · rename_i xs hxs
                cases h
                obtain ⟨hlen, hget⟩ := mapM_get _ _ _ hxs
                have hs' : P.underlying src = some (.slice e) := (ti_spec hi).1.trans (by rw [hsl])
                have he' : P.underlying e = some (.int .u8) := (ti_spec hq).1.trans (by rw [hq8])
                have hd' : P.underlying dst = some .string := (ti_spec hj).1.trans (by rw [hd])
                have hl2 : xs.length = len := by rw [hlen]; simp; omega
                refine ⟨.string (strOfNums xs), .val rfl, fun w' hw => ?_⟩
                cases hx with
                | snil =>
                  have : xs = [] := List.eq_nil_of_length_eq_zero hl2
                  subst this
                  exact run_convert_bytes_nil w' src e hs' he' 0 0 dst hd'
                | szero =>
                  have : xs = [] := List.eq_nil_of_length_eq_zero hl2
                  subst this
                  exact run_convert_bytes_zero w' src e hs' he' _ dst hd'
                | @sl _ _ _ _ cap' c' o' l q1 q2 q3 q4 =>
                  by_cases h0 : len = 0
                  · refine run_convert_bytes_arg w' src e hs' he' c' o' len cap' xs hl2 (fun k hk => by omega) dst hd'
                  · have ha : c' = l.blk ∧ o' = l.base + off := by
                      rcases q4 with q4 | q4
                      · rcases q2 with q2 | q2 <;> omega
                      · exact q4
                    obtain ⟨rfl, rfl⟩ := ha
                    refine run_convert_bytes_arg w' src e hs' he' l.blk (l.base + off) len cap' xs hl2 (fun k hk => ?_) dst hd'
                    have hk' : k < xs.length := by omega
                    have hkk : k < ((cs.drop off).take len).length := by omega
                    have hb := hget k hkk hk'
                    simp only [List.getElem_take, List.getElem_drop] at hb
                    have hkc : off + k < cs.length := by omega
                    have hone : cs[off + k] = .val (.int .u8 xs[k]) := by
                      unfold byteOfA at hb
                      split at hb
                      · rename_i y hy; cases hb; exact hy
                      · cases hb
                    rcases hs.blk n _ hm with ⟨l', e1, e2, _⟩ | ⟨e1, _⟩
                    · rw [q1] at e1; cases e1
                      obtain ⟨arr, t', fz, z1, z2, z3, z4, z5, z6, z7⟩ := e2
                      have z1 := (hw _ (hs.lt _ _ q1)).trans z1
                      obtain ⟨cv, y1, y2⟩ := z7 (off + k) hkc
                      rw [hone] at y2
                      obtain ⟨rfl, _⟩ := y2.val_inv
                      simp [World.cell?, z1, Nat.add_assoc, y1, List.getElem?_eq_getElem hk']
                    · rw [q1] at e1; cases e1
              · cases h
            · cases h
          · cases h
        · cases h
      · cases h
    · cases h
  · cases h
def zeroA (P : Program) (t : TypeId) : Option (List AV) :=
  match ti P t with
  | some i => match i.zero with
    | some z => if z.cells.toList.all plain then some (z.cells.toList.map .val) else none
    | none => none
  | none => none
theorem zeroA_sound {t : TypeId} {cs : List AV} (h : zeroA P t = some cs) : ∃ z : Value, (∀ w, (zeroValue t).run P w = .ok z w) ∧ Rels κ cs z.cells ∧ ∀ u ∈ z.cells.toList, u.oneCell' = true := by
  unfold zeroA at h
  split at h
  · rename_i i hi
    split at h
    · rename_i z hz
      split at h
      · rename_i hall
        cases h
        obtain ⟨_, j, h1, h2, h3, h4⟩ := ti_spec hi
        refine ⟨z, fun w => by simp [zeroValue, typeInfo, h1, h4, hz], ⟨by simp, fun k hk hk' => ?_⟩, fun u hu => ?_⟩
        · simp only [List.getElem_map, Array.getElem_toList]
          exact .val (List.all_eq_true.1 hall _ (by simp))
        · have := List.all_eq_true.1 hall u hu
          cases u <;> simp [plain] at this <;> rfl
      · cases h
    · cases h
  · cases h
def setRange (l : List AV) (off : Nat) (vs : List AV) : List AV := l.take off ++ vs ++ l.drop (off + vs.length)
theorem setRange_get (l : List AV) (off : Nat) (vs : List AV) (h : off + vs.length ≤ l.length) (k : Nat) : (setRange l off vs)[k]? = if off ≤ k ∧ k < off + vs.length then vs[k - off]? else l[k]? := by
  unfold setRange
  have ht : (l.take off).length = off := by simp; omega
  by_cases h1 : k < off
  · rw [if_neg (by omega), List.append_assoc, List.getElem?_append_left (by omega), List.getElem?_take_of_lt h1]
  · by_cases h2 : k < off + vs.length
    · rw [if_pos ⟨by omega, h2⟩, List.append_assoc, List.getElem?_append_right (by omega), ht, List.getElem?_append_left (by omega)]
    · rw [if_neg (by omega), List.getElem?_append_right (by simp; omega)]
      simp only [List.length_append, ht, List.getElem?_drop]
      congr 1; omega
theorem setRange_length (l : List AV) (off : Nat) (vs : List AV) (h : off + vs.length ≤ l.length) : (setRange l off vs).length = l.length := by
  unfold setRange; simp; omega
theorem Rels.setRange {l vs : List AV} {off : Nat} {ca cv : Array Value} (hl : Rels κ l ca) (hv : Rels κ vs cv) (h : off + vs.length ≤ l.length) : Rels κ (setRange l off vs) (overwrite ca off cv.toList) := by
  have hsz : off + cv.toList.length ≤ ca.size := by simp [← hv.1, ← hl.1]; omega
  refine ⟨by rw [setRange_length _ _ _ h, overwrite_size]; exact hl.1, fun i h1 h2 => ?_⟩
  have e1 := setRange_get l off vs h i
  have e2 := overwrite_get cv.toList ca off hsz i
  rw [List.getElem?_eq_getElem h1] at e1
  rw [Array.getElem?_eq_getElem h2] at e2
  simp only [Array.length_toList, ← hv.1] at e2
  by_cases hc : off ≤ i ∧ i < off + vs.length
  · rw [if_pos hc] at e1 e2
    have i1 : i - off < vs.length := by omega
    have i2 : i - off < cv.size := by rw [← hv.1]; exact i1
    rw [List.getElem?_eq_getElem i1] at e1
    rw [Array.getElem?_toList, Array.getElem?_eq_getElem i2] at e2
    rw [Option.some.inj e1, Option.some.inj e2]
    exact hv.2 _ _ _
  · rw [if_neg hc] at e1 e2
    have i1 : i < l.length := by rw [setRange_length _ _ _ h] at h1; exact h1
    have i2 : i < ca.size := by rw [← hl.1]; exact i1
    rw [List.getElem?_eq_getElem i1] at e1
    rw [Array.getElem?_eq_getElem i2] at e2
    rw [Option.some.inj e1, Option.some.inj e2]
    exact hl.2 _ _ _
theorem foldl_overwrite : ∀ (l : List Value) (off k : Nat) (ca : Array Value), (l.zipIdx k).foldl (fun cs (x : Value × Nat) => cs.setIfInBounds (off + x.2) x.1) ca = overwrite ca (off + k) l
  | [], off, k, ca => rfl
  | v :: l, off, k, ca => by rw [List.zipIdx_cons, List.foldl_cons, foldl_overwrite l off (k + 1)]; rfl
def fillA (place : Nat → Option (Nat × Nat)) (cells : List AV) : List (Nat × AV) → Option (List AV)
  | [] => some cells
  | (i, v) :: rest => match place i, v.cells with
    | some (off, size), some vs => if vs.length = size ∧ off + size ≤ cells.length then fillA place (setRange cells off vs) rest else none
    | _, _ => none
theorem fillA_sound (place : Nat → Option (Nat × Nat)) : ∀ (parts : List (Nat × AV)) (cells r : List AV), fillA place cells parts = some r → ∀ (cparts : List (Nat × Value)) (ca : Array Value), Rels κ cells ca →
    parts.length = cparts.length → (∀ i (h : i < parts.length) (h' : i < cparts.length), parts[i].1 = cparts[i].1 ∧ Rel κ parts[i].2 cparts[i].2) → ∃ cr, Instr.fill place ca cparts = some cr ∧ Rels κ r cr
  | [], cells, r, h, cparts, ca, hc, hl, _ => by
    cases h
    have : cparts = [] := List.eq_nil_of_length_eq_zero hl.symm
    subst this
    exact ⟨ca, rfl, hc⟩
  | (i, v) :: rest, cells, r, h, cparts, ca, hc, hl, hp => by
    cases cparts with
    | nil => simp at hl
    | cons cp cparts =>
      obtain ⟨ci, cv⟩ := cp
      obtain ⟨e1, e2⟩ := hp 0 (by simp) (by simp)
      simp only [List.getElem_cons_zero] at e1 e2
      subst e1
      rw [fillA] at h
      split at h
      · rename_i off size vs hpl hvs
        split at h
        · rename_i hfit
          obtain ⟨hvc, _⟩ := e2.cells hvs
          obtain ⟨cr, g1, g2⟩ := fillA_sound place rest _ r h cparts (overwrite ca off cv.cells.toList) (hc.setRange hvc (by omega)) (by simpa using hl)
            (fun k a b => hp (k + 1) (by simpa using a) (by simpa using b))
          refine ⟨cr, ?_, g2⟩
          have hsz : cv.cells.size = size := by rw [← hvc.1]; exact hfit.1
          have hfits : ¬ (cv.cells.size ≠ size ∨ off + cv.cells.size > ca.size) := by rw [hsz, ← hc.1]; omega
          have hfold : cv.cells.zipIdx.foldl (fun cs (x : Value × Nat) => cs.setIfInBounds (off + x.2) x.1) ca = overwrite ca off cv.cells.toList := by
            rw [← Array.foldl_toList, Array.toList_zipIdx]
            simpa using foldl_overwrite cv.cells.toList off 0 ca
          simp only [Instr.fill, hpl]
          rw [if_neg (by simpa using hfits)]
          have : (cv.cells.zipIdx.foldl (fun cs (x : Value × Nat) => match x with | (c, j) => cs.setIfInBounds (off + j) c) ca) = overwrite ca off cv.cells.toList := hfold
          rw [this]
          exact g1
        · cases h
      · cases h
def placesA (P : Program) : List Field → Option (List (Nat × Nat))
  | [] => some []
  | f :: fs => match ti P f.type, placesA P fs with
    | some j, some l => some ((f.offset, j.size) :: l)
    | _, _ => none
theorem placesA_sound : ∀ (fs : List Field) (l : List (Nat × Nat)), placesA P fs = some l → ((fs.mapM fun f => do pure (f.offset, ← sizeOf f.type) : Sem (List (Nat × Nat)))).run P w = .ok l w
  | [], l, h => by cases h; rfl
  | f :: fs, l, h => by
    rw [placesA] at h
    split at h
    · rename_i j l' hj hl
      cases h
      have := placesA_sound fs l' hl
      simp only [List.mapM_cons, Sem.run_bind, run_sizeOf hj, Result.andThen_ok, Sem.run_pure, this]
    · cases h
def buildA (P : Program) (t : TypeId) (parts : List (Nat × AV)) : Option AV :=
  match ti P t, zeroA P t with
  | some i, some z => match i.desc with
    | .struct fields => match placesA P fields.toList with
      | some pl => match fillA (pl[·]?) z parts with
        | some cs => some (.agg cs)
        | none => none
      | none => none
    | .array _ e => match ti P e with
      | some j => match fillA (fun k => some (k * j.size, j.size)) z parts with
        | some cs => some (.agg cs)
        | none => none
      | none => none
    | _ => none
  | _, _ => none
theorem buildA_sound {t : TypeId} {parts : List (Nat × AV)} {r : AV} (h : buildA P t parts = some r) {cparts : Array (Nat × Value)} (hl : parts.length = cparts.size)
    (hp : ∀ i (h : i < parts.length) (h' : i < cparts.size), parts[i].1 = cparts[i].1 ∧ Rel κ parts[i].2 cparts[i].2) : ∃ v, Rel κ r v ∧ ∀ w, (Instr.build t cparts).run P w = .ok v w := by
  unfold buildA at h
  split at h
  · rename_i i z hi hz
    obtain ⟨zv, z1, z2, _⟩ := zeroA_sound (κ := κ) hz
    split at h
    · rename_i fields hd
      split at h
      · rename_i pl hpl
        split at h
        · rename_i cs hcs
          cases h
          obtain ⟨cr, g1, g2⟩ := fillA_sound (κ := κ) _ parts z cs hcs cparts.toList zv.cells z2 (by simpa using hl) (fun k a b => by simpa using hp k a (by simpa using b))
          have hm : ∀ w, (fields.mapM fun f => do pure (f.offset, ← sizeOf f.type) : Sem (Array (Nat × Nat))).run P w = .ok pl.toArray w := by
            intro w
            rw [Array.mapM_eq_mapM_toList]
            have := placesA_sound (w := w) fields.toList pl hpl
            rw [Sem.run_map, this]; rfl
          refine ⟨.agg cr, .agg g2.1 g2.2, fun w => ?_⟩
          simp only [Instr.build, Sem.run_bind, z1, run_underlying' hi, hd, Result.andThen_ok, hm, List.getElem?_toArray, g1, Sem.run_pure]
        · cases h
      · cases h
    · rename_i len e hd
      split at h
      · rename_i j hj
        split at h
        · rename_i cs hcs
          cases h
          obtain ⟨cr, g1, g2⟩ := fillA_sound (κ := κ) _ parts z cs hcs cparts.toList zv.cells z2 (by simpa using hl) (fun k a b => by simpa using hp k a (by simpa using b))
          refine ⟨.agg cr, .agg g2.1 g2.2, fun w => ?_⟩
          simp only [Instr.build, Sem.run_bind, z1, run_underlying' hi, hd, Result.andThen_ok, run_sizeOf hj, g1, Sem.run_pure]
        · cases h
      · cases h
    · cases h
  · cases h
end Go.Abs

set_option linter.unusedVariables false
set_option linter.unusedSimpArgs false
namespace Go.Abs
variable {P : Program} {κ : K} {m : Mem} {w : World}
def nilCheckA : AV → Option AV
  | .ptr n o => some (.ptr n o)
  | .vp c o => some (.vp c o)
  | .fn f a b => if staticFn f then some (.fn f a b) else none
  | .yld n => some (.yld n)
  | _ => none
def mkFnA (ev : Operand → AV) (f : Fn) (first caps : Array Operand) : Option AV :=
  if staticFn f then some (.fn f (first.toList.map ev) (caps.toList.map ev)) else none
def extractA (i : Nat) : AV → Option AV
  | .tup vs => vs[i]?
  | _ => none
def ifaceA (P : Program) (t : TypeId) (x : AV) : Option AV :=
  match ti P t with
  | some i => match i.desc with
    | .interface _ => none
    | _ => some (.ifc t x)
  | none => none
def cmpA (P : Program) (t : TypeId) (op : BinOp) (x y : AV) : Option AV :=
  match ti P t with
  | none => none
  | some i => match binA i.desc op x y with
    | some r => some r
    | none => match op with
      | .eql => match nilBin i.desc x y with
        | some b => some (.val (.bool b))
        | none => match x with
          | .agg _ => if P.eqGuardType P.depth t then none else (match eqA P 20 t x y with
            | some b => some (.val (.bool b))
            | none => none)
          | _ => none
      | .neq => match nilBin i.desc x y with
        | some b => some (.val (.bool !b))
        | none => match x with
          | .agg _ => if P.eqGuardType P.depth t then none else (match eqA P 20 t x y with
            | some b => some (.val (.bool !b))
            | none => none)
          | _ => none
      | _ => none
def arrPtrA (P : Program) (t : TypeId) (x : AV) : Option AV :=
  match ti P t with
  | some i => match i.desc, x with
    | .array n _, .vs es _ => if 0 < n ∧ n ≤ es.length ∧ ∀ e ∈ es, e.length = 1 then some (.vp (es.take n).flatten 0) else none
    | .array n _, .sl nm off len _ => if 0 < n ∧ n ≤ len then some (.ptr nm off) else none
    | _, _ => none
  | none => none
theorem flat_one : ∀ (es : List (List AV)), (∀ e ∈ es, e.length = 1) → es.flatten.length = es.length ∧ ∀ j (h : j < es.length) (h' : j < es.flatten.length) (h0 : 0 < es[j].length), es.flatten[j] = es[j][0]
  | [], _ => ⟨rfl, fun j h => by simp at h⟩
  | e :: es, he => by
    obtain ⟨h1, h2⟩ := flat_one es fun x hx => he x (by simp [hx])
    have hl : e.length = 1 := he e (by simp)
    refine ⟨by simp [h1, hl]; omega, fun j h h' h0 => ?_⟩
    cases j with
    | zero => simp only [List.flatten_cons, List.getElem_cons_zero]; exact List.getElem_append_left (by omega)
    | succ j =>
      simp only [List.flatten_cons, List.getElem_cons_succ]
      rw [List.getElem_append_right (by omega)]
      simp only [hl, Nat.add_sub_cancel]
      exact h2 j (by simpa using h) _ _
theorem arrPtrA_sound {t : TypeId} {x r : AV} (h : arrPtrA P t x = some r) {cv : Value} (hx : Rel κ x cv) : ∃ v, Rel κ r v ∧ ∀ w, (Instr.arrayAt t cv).run P w = .ok v w := by
  unfold arrPtrA at h
  split at h
  · rename_i i ht
    split at h
    · rename_i n e es ex hd
      split at h
      · rename_i hc
        obtain ⟨h0, hn, he⟩ := hc
        cases h
        have hrun : ∀ (a : Option Addr) (l c : Nat), n ≤ l → ∀ w, (Instr.arrayAt t (.slice a l c)).run P w = .ok (.pointer a) w := fun a l c hl w => by
          simp only [Instr.arrayAt, Sem.run_bind, run_underlying' ht, hd, Result.andThen_ok]
          rw [if_neg (by omega)]
          rfl
        cases hx with
        | vnil => simp at hn; omega
        | vz => simp at hn; omega
        | @vs _ _ c o s cap f h1 h2 h3 h4 h5 =>
          have hs : s = 1 := by rw [← h1 es[0] (List.getElem_mem (by omega)), he _ (List.getElem_mem (by omega))]
          subst hs
          refine ⟨_, .vp (fun j => f j 0) (fun j hj => ?_) (fun j hj => ?_), hrun _ _ _ hn⟩
          · have e1 := (flat_one (es.take n) fun x hx => he x (List.mem_of_mem_take hx)).1
            have hj' : j < (es.take n).length := by omega
            have := h4 j 0 (by simp at hj'; omega) (by omega)
            simpa using this
          · obtain ⟨e1, e2⟩ := flat_one (es.take n) fun x hx => he x (List.mem_of_mem_take hx)
            have hj' : j < (es.take n).length := by omega
            have hje : j < es.length := by simp at hj'; omega
            have hl0 : 0 < es[j].length := by rw [he _ (List.getElem_mem hje)]; omega
            rw [e2 j hj' hj (by simp only [List.getElem_take]; exact hl0)]
            simp only [List.getElem_take]
            exact h5 j hje 0 hl0
      · cases h
    · rename_i n e nm off len cap hd
      split at h
      · rename_i hc
        obtain ⟨h0, hn⟩ := hc
        cases h
        have hrun : ∀ (a : Option Addr) (l c : Nat), n ≤ l → ∀ w, (Instr.arrayAt t (.slice a l c)).run P w = .ok (.pointer a) w := fun a l c hl w => by
          simp only [Instr.arrayAt, Sem.run_bind, run_underlying' ht, hd, Result.andThen_ok]
          rw [if_neg (by omega)]
          rfl
        cases hx with
        | snil => omega
        | szero => omega
        | @sl _ _ _ _ cap' c' o' l q1 q2 q3 q4 =>
          have : c' = l.blk ∧ o' = l.base + off := by rcases q4 with q4 | q4 <;> first | exact q4 | (rcases q2 with q2 | q2 <;> omega)
          obtain ⟨rfl, rfl⟩ := this
          exact ⟨_, .ptr q1, hrun _ _ _ hn⟩
      · cases h
    · cases h
  · cases h
def leafT (P : Program) (t : TypeId) : Bool := match P.underlying t with
  | some (.int _) | some .bool | some .string => true
  | _ => false
def keyOkA (P : Program) (t : TypeId) (k : AV) : Bool := match P.underlying t, k with
  | some (.struct fs), .agg ks => fs.toList.all fun f => f.name != "_" && leafT P f.type && (partA P f.type ks f.offset).isSome
  | _, _ => false
theorem check_leaf {t : TypeId} (h : leafT P t = true) (em : Bool) (n : Nat) (v : Value) (w : World) : (Instr.checkKey em (n + 1) t v).run P w = .ok () w := by
  unfold leafT at h
  rw [Instr.checkKey]
  split at h
  · rename_i hu; simp only [Sem.run_bind, run_underlying hu, Result.andThen_ok]; rfl
  · rename_i hu; simp only [Sem.run_bind, run_underlying hu, Result.andThen_ok]; rfl
  · rename_i hu; simp only [Sem.run_bind, run_underlying hu, Result.andThen_ok]; rfl
  · cases h
theorem checkKey_sound {t : TypeId} {k : AV} (h : keyOkA P t k = true) {ck : Value} (hk : Rel κ k ck) (em : Bool) (w : World) :
    (Instr.checkKey em 10000 t ck).run P w = .ok () w ∧ (match P.underlying t with | some (.array _ _) | some (.struct _) => true | _ => false) = true := by
  unfold keyOkA at h
  split at h
  · rename_i fs ks hu
    cases hk with
    | agg hl hr =>
      rename_i ca
      have hrels : Rels κ ks ca := ⟨hl, hr⟩
      rw [hu]
      refine ⟨?_, rfl⟩
      show (Instr.checkKey em (9998 + 1 + 1) t (.agg ca)).run P w = _
      rw [Instr.checkKey]
      simp only [Sem.run_bind, run_underlying hu, Result.andThen_ok]
      rw [← Array.forIn_toList]
      generalize fs.toList = L at h
      induction L with
      | nil => simp
      | cons f L ih =>
        simp only [List.all_cons, Bool.and_eq_true, bne_iff_ne, ne_eq] at h
        obtain ⟨⟨⟨h1, h2⟩, h3⟩, h4⟩ := h
        obtain ⟨a, ha⟩ := Option.isSome_iff_exists.1 h3
        obtain ⟨v, g1, g2⟩ := partA_sound ha hrels
        have p2 := check_leaf h2 em 9998 v w
        simp only [List.forIn_cons, Sem.run_bind, h1, ne_eq, not_false_eq_true, if_true, Result.andThen_ok, g2 w, p2, Sem.run_pure]
        exact ih (by simpa only [Bool.and_eq_true, bne_iff_ne, ne_eq] using h4)
  · cases h
def findA (P : Program) (t : TypeId) (k : AV) : List (AV × AV) → Nat → Option (Option (Nat × AV))
  | [], _ => some none
  | e :: es, i => match eqA P 20 t k e.1 with
    | some true => some (some (i, e.2))
    | some false => findA P t k es (i + 1)
    | none => none
theorem findA_sound {t : TypeId} {k : AV} {ck : Value} (hk : Rel κ k ck) : ∀ (es : List (AV × AV)) (l : List MapEntry) (i : Nat) (r : Option (Nat × AV)), findA P t k es i = some r → es.length = l.length →
    (∀ j (h : j < es.length) (h' : j < l.length), Rel κ es[j].1 l[j].key ∧ Rel κ es[j].2 l[j].val) →
    ∃ c : Option (Nat × Value), (∀ w, (Instr.findAsking t ck l i).run P w = .ok c w) ∧ (match r, c with | some (n, v), some (n', cv) => n = n' ∧ Rel κ v cv | none, none => True | _, _ => False)
  | [], [], i, r, h, _, _ => by
    unfold findA at h; cases h
    exact ⟨none, fun w => by simp [Instr.findAsking], trivial⟩
  | [], _ :: _, _, _, _, h, _ => by simp at h
  | _ :: _, [], _, _, _, h, _ => by simp at h
  | e :: es, x :: l, i, r, h, hl, hr => by
    unfold findA at h
    have h0 := hr 0 (by simp) (by simp)
    simp only [List.getElem_cons_zero] at h0
    split at h
    · rename_i he
      cases h
      have g := fun w => eqA_sound (w := w) 20 t k e.1 true he 10000 (by omega) ck x.key hk h0.1
      refine ⟨some (i, x.val), fun w => ?_, rfl, h0.2⟩
      have : (Op.equal t ck x.key).run P w = .ok true w := g w
      simp [Instr.findAsking, this]
    · rename_i he
      have g := fun w => eqA_sound (w := w) 20 t k e.1 false he 10000 (by omega) ck x.key hk h0.1
      obtain ⟨c, q1, q2⟩ := findA_sound hk es l (i + 1) r h (by simpa using hl) (fun j a b => by
        have := hr (j + 1) (by simp; omega) (by simp; omega)
        simpa using this)
      refine ⟨c, fun w => ?_, q2⟩
      have : (Op.equal t ck x.key).run P w = .ok false w := g w
      simp [Instr.findAsking, this, q1 w]
    · cases h
def lookA (P : Program) (m : Mem) (t : TypeId) (x k : AV) (ok : Bool) : Option AV :=
  match P.underlying t, x with
  | some (.map kt et), .map n => match m n with
    | some (.map es) => if keyOkA P kt k then (match findA P kt k es 0 with
      | some (some (_, v)) => some (if ok then .tup [v, .val (.bool true)] else v)
      | some none => (match (ti P et).bind (·.zero) with
        | some z => if plain z && leafT P et then some (if ok then .tup [.val z, .val (.bool false)] else .val z) else none
        | none => none)
      | none => none) else none
    | _ => none
  | _, _ => none
theorem lookA_sound (hs : Sim P κ m w) {t : TypeId} {x k r : AV} {ok : Bool} (h : lookA P m t x k ok = some r) {cx ck : Value} (hx : Rel κ x cx) (hk : Rel κ k ck) :
    ∃ v, Rel κ r v ∧ ∀ w', Ext w w' → (Instr.lookup t cx ck ok).run P w' = .ok v w' := by
  unfold lookA at h
  split at h
  · rename_i kt et n hu
    split at h
    · rename_i es hm
      split at h
      · rename_i hok
        cases hx with
        | @map _ l hr =>
          rcases hs.blk n _ hm with ⟨l', e1, e2, _⟩ | ⟨e1, _⟩
          · rw [hr] at e1; cases e1
            obtain ⟨ents, clock, z1, z2, z3⟩ := e2
            have hlt := (Array.getElem?_eq_some_iff.1 z1).1
            have hget : ∀ w', Ext w w' → (getObj l.blk).run P w' = .ok (.map ents clock) w' := fun w' hw => run_getObj_map w' l.blk ents clock (by rw [hw l.blk hlt]; exact z1)
            obtain ⟨hwide⟩ : PLift _ := ⟨(checkKey_sound hok hk false w).2⟩
            have run : ∀ (c : Option (Nat × Value)), (∀ w, (Instr.findAsking kt ck ents.toList 0).run P w = .ok c w) → ∀ (zv : Value), (∀ w, c = none → (zeroValue et).run P w = .ok zv w) → ∀ w', Ext w w' →
                (Instr.lookup t (.map (some l.blk)) ck ok).run P w' = .ok (match c with | some (_, v) => (if ok then .tuple #[v, .bool true] else v) | none => (if ok then .tuple #[zv, .bool false] else zv)) w' := fun c hc zv hz w' hw => by
              have hck := (checkKey_sound hok hk ents.isEmpty w').1
              have hf : (Instr.findKey kt ck ents.toList).run P w' = .ok c w' := by rw [run_findKey_eq w' hwide]; exact hc w'
              unfold Instr.lookup
              simp only [Sem.run_bind, run_underlying hu, Result.andThen_ok, hget w' hw, Sem.run_pure, hck, hf]
              cases c with
              | some p => obtain ⟨q, v⟩ := p; cases ok <;> simp [Sem.run_bind, Sem.run_pure]
              | none => have := hz w' rfl; cases ok <;> simp [Sem.run_bind, Sem.run_pure, this]
            split at h
            · rename_i q v hfd
              cases h
              obtain ⟨c, g1, g2⟩ := findA_sound hk es ents.toList 0 _ hfd (by simpa using z2) (fun j a b => by simpa using z3 j a (by simpa using b))
              cases c with
              | none => exact g2.elim
              | some p =>
                obtain ⟨q', cv⟩ := p
                obtain ⟨_, hv⟩ := g2
                refine ⟨_, ?_, run _ g1 (.bool false) (fun _ h => by cases h)⟩
                cases ok
                · exact hv
                · refine .tup rfl fun i a b => ?_
                  match i, a with
                  | 0, _ => exact hv
                  | 1, _ => exact .val rfl
            · rename_i hfd
              obtain ⟨c, g1, g2⟩ := findA_sound hk es ents.toList 0 _ hfd (by simpa using z2) (fun j a b => by simpa using z3 j a (by simpa using b))
              cases c with
              | some p => exact g2.elim
              | none =>
                split at h
                · rename_i z hz
                  split at h
                  · rename_i hp
                    cases h
                    simp only [Bool.and_eq_true] at hp
                    obtain ⟨j, hj, hjz⟩ := Option.bind_eq_some_iff.1 hz
                    have hzr : ∀ w, (zeroValue et).run P w = .ok z w := fun w => by
                      obtain ⟨_, j', h1, h2, h3, h4⟩ := ti_spec hj
                      simp [zeroValue, typeInfo, h1, h4, hjz]
                    refine ⟨_, ?_, run none g1 z (fun w _ => hzr w)⟩
                    cases ok
                    · exact .val hp.1
                    · refine .tup rfl fun i a b => ?_
                      match i, a with
                      | 0, _ => exact .val hp.1
                      | 1, _ => exact .val rfl
                  · cases h
                · cases h
            · cases h
          · rw [hr] at e1; cases e1
      · cases h
    · cases h
  · cases h
def quietA (P : Program) (m : Mem) (ev : Operand → AV) : Op → Option AV
  | .move x => some (ev x)
  | .assign x => some (ev x)
  | .pick c a b => match ev c with
    | .val (.bool t) => some (if t then ev a else ev b)
    | _ => none
  | .load t a => loadA P m t (ev a)
  | .nilCheck x => nilCheckA (ev x)
  | .binOp op t x y _ => cmpA P t op (ev x) (ev y)
  | .unOp op _ x => unA op (ev x)
  | .convert s d x => convA P m s d (ev x)
  | .makeInterface t x => ifaceA P t (ev x)
  | .makeFunc f a b => mkFnA ev f a b
  | .slice t x lo hi mx => sliceA P m t (ev x) (lo.map ev) (hi.map ev) (mx.map ev)
  | .fieldAddr s x f => fieldAddrA P s f (ev x)
  | .field t x f => fieldA P t (ev x) f
  | .indexAddr t x ix => indexAddrA P t (ev x) (ev ix)
  | .index t x ix => indexA P t (ev x) (ev ix)
  | .build t ps => buildA P t (ps.toList.map fun p => (p.1, ev p.2))
  | .extract x i => extractA i (ev x)
  | .call { callee := .builtin .len, args, argTypes } => match argTypes[0]?, args[0]? with
    | some t, some x => lenA P m t (ev x)
    | _, _ => none
  | .call { callee := .builtin .min, args, .. } => mmA false (args.toList.map ev)
  | .call { callee := .builtin .max, args, .. } => mmA true (args.toList.map ev)
  | .sliceToArrayPointer t x => arrPtrA P t (ev x)
  | .lookup t x k ok => lookA P m t (ev x) (ev k) ok
  | _ => none
theorem cmpA_sound {op : BinOp} {t : TypeId} {x y r : AV} (h : cmpA P t op x y = some r) {cx cy : Value} (hx : Rel κ x cx) (hy : Rel κ y cy) (X Y : Operand) :
    ∃ v, Rel κ r v ∧ ∀ w, (do eqGuard op t X Y cx cy; binOp op t cx cy : Sem Value).run P w = .ok v w := by
  unfold cmpA at h
  split at h
  · cases h
  · rename_i i hi
    split at h
    · rename_i r' hb
      cases h
      exact binA_sound hi hb hx hy X Y
    · have agg : ∀ xs b, x = .agg xs → P.eqGuardType P.depth t = false → eqA P 20 t x y = some b →
          ∃ ca cb, cx = .agg ca ∧ cy = .agg cb ∧ ∀ w, (Op.equalIn 10000 t (.agg ca) (.agg cb)).run P w = .ok b w := by
        intro xs b hxs hg he
        subst hxs
        have hy' : ∃ ys, y = .agg ys := by
          rw [eqA] at he
          split at he
          · cases he
          · split at he
            all_goals first
              | (cases he; done)
              | (rename_i hxy; exact ⟨_, rfl⟩)
              | (exfalso; simp_all; done)
              | exact ⟨_, rfl⟩
        obtain ⟨ys, rfl⟩ := hy'
        have hx2 := hx
        have hy2 := hy
        cases hx2 with
        | agg hl hr => cases hy2 with
          | agg hl' hr' => exact ⟨_, _, rfl, rfl, fun w => eqA_sound 20 t _ _ b he 10000 (by omega) _ _ hx hy⟩
      split at h
      · split at h
        · rename_i b hn
          cases h
          refine ⟨_, .val rfl, fun w => ?_⟩
          obtain ⟨h1, h2, h3, h4, h5⟩ := nilBin_sound (w := w) hi hn hx hy
          rw [h1, h4]
          simp [h3]
        · split at h
          · split at h
            · cases h
            · rename_i hg
              split at h
              · rename_i b he
                cases h
                obtain ⟨ca, cb, rfl, rfl, hr⟩ := agg _ b rfl (by simpa using hg) he
                refine ⟨_, .val rfl, fun w => ?_⟩
                simp only [Sem.run_bind, run_eqGuard_agg w .eql t X Y ca cb (by simpa using hg), Result.andThen_ok, run_eql_struct, hr w]
              · cases h
          · cases h
      · split at h
        · rename_i b hn
          cases h
          refine ⟨_, .val rfl, fun w => ?_⟩
          obtain ⟨h1, h2, h3, h4, h5⟩ := nilBin_sound (w := w) hi hn hx hy
          rw [h2, h5]
          simp [h3]
        · split at h
          · split at h
            · cases h
            · rename_i hg
              split at h
              · rename_i b he
                cases h
                obtain ⟨ca, cb, rfl, rfl, hr⟩ := agg _ b rfl (by simpa using hg) he
                refine ⟨_, .val rfl, fun w => ?_⟩
                simp only [Sem.run_bind, run_eqGuard_agg w .neq t X Y ca cb (by simpa using hg), Result.andThen_ok, run_neq_struct, hr w]
              · cases h
          · cases h
      · cases h
theorem optRel {ev : Operand → AV} {cev : Operand → Value} (hev : ∀ x, Rel κ (ev x) (cev x)) (o : Option Operand) : OptRel κ (o.map ev) (o.map cev) := by
  cases o with
  | none => exact trivial
  | some x => exact hev x
theorem relsMap {ev : Operand → AV} {cev : Operand → Value} (hev : ∀ x, Rel κ (ev x) (cev x)) (l : Array Operand) : Rels κ (l.toList.map ev) (l.map cev) :=
  ⟨by simp, fun i h h' => by simpa using hev _⟩
theorem quietA_sound (hs : Sim P κ m w) {o : Oper} {ev : Operand → AV} {cev : Operand → Value} (hev : ∀ x, Rel κ (ev x) (cev x)) {r : AV} (h : quietA P m ev o.op = some r) :
    ∃ cv, Rel κ r cv ∧ ∀ w', Ext w w' → (execOp cev o).run P w' = .ok (.value cv) w' := by
  obtain ⟨dst, op, type, pos, after, guard⟩ := o
  simp only at h
  unfold quietA at h
  split at h
  case _ x => cases h; exact ⟨_, hev x, fun w' _ => rfl⟩
  case _ x => cases h; exact ⟨_, hev x, fun w' _ => rfl⟩
  case _ c a b =>
    split at h
    · rename_i t ht
      cases h
      have := hev c
      rw [ht] at this
      obtain ⟨e, _⟩ := this.val_inv
      refine ⟨if t then cev a else cev b, by cases t <;> simp [hev], fun w' _ => ?_⟩
      simp [execOp, e, asBool]
    · cases h
  case _ t a =>
    obtain ⟨v, h1, h2⟩ := loadA_sound hs h (hev a)
    exact ⟨v, h1, fun w' hw => by simp only [execOp, Sem.run_bind, h2 w' hw, Result.andThen_ok, Sem.run_pure]⟩
  case _ x =>
    have hx := hev x
    unfold nilCheckA at h
    split at h
    · rename_i e; rw [e] at hx; cases h
      generalize hc : cev x = c at hx
      cases hx with
      | ptr hr => exact ⟨_, .ptr hr, fun w' _ => by simp only [execOp, hc, Sem.run_pure]⟩
    · rename_i e; rw [e] at hx; cases h
      generalize hc : cev x = c at hx
      cases hx with
      | vp f g1 g2 => exact ⟨_, .vp f g1 g2, fun w' _ => by simp only [execOp, hc, Sem.run_pure]⟩
    · rename_i f a b e; rw [e] at hx
      split at h
      · rename_i hsf
        cases h
        generalize hc : cev x = c at hx
        have hx2 := hx
        cases hx with
        | fn g0 g1 g2 g3 g4 =>
          refine ⟨_, hx2, fun w' _ => ?_⟩
          cases f <;> simp [staticFn] at g0
          simp only [execOp, hc, Sem.run_pure]
      · cases h
    · rename_i e; rw [e] at hx; cases h
      generalize hc : cev x = c at hx
      cases hx with
      | yld hr => exact ⟨_, .yld hr, fun w' _ => by simp only [execOp, hc, Sem.run_pure]⟩
    · cases h
  case _ op t x y yt =>
    obtain ⟨v, h1, h2⟩ := cmpA_sound h (hev x) (hev y) x y
    refine ⟨v, h1, fun w' _ => ?_⟩
    have := h2 w'
    simp only [execOp]
    rw [Sem.run_bind, this]; rfl
  case _ op t x =>
    obtain ⟨v, h1, h2⟩ := unA_sound (P := P) h (hev x)
    exact ⟨v, h1, fun w' _ => by simp only [execOp, Sem.run_bind, h2 w', Result.andThen_ok, Sem.run_pure]⟩
  case _ s d x =>
    obtain ⟨v, h1, h2⟩ := convA_sound hs h (hev x)
    exact ⟨v, h1, fun w' hw => by simp only [execOp, Sem.run_bind, h2 w' hw, Result.andThen_ok, Sem.run_pure]⟩
  case _ t x =>
    unfold ifaceA at h
    split at h
    · rename_i i hi
      split at h
      · cases h
      · rename_i hd
        cases h
        refine ⟨.iface t (cev x), .ifc (hev x), fun w' _ => ?_⟩
        have : (Instr.makeInterface t (cev x)).run P w' = .ok (.iface t (cev x)) w' := by
          simp only [Instr.makeInterface, Sem.run_bind, run_underlying' hi, Result.andThen_ok]
          cases hdd : i.desc <;> first | rfl | exact absurd hdd (hd _)
        simp only [execOp, Sem.run_bind, this, Result.andThen_ok, Sem.run_pure]
    · cases h
  case _ f a b =>
    unfold mkFnA at h
    split at h
    · rename_i hsf
      cases h
      obtain ⟨a1, a2⟩ := relsMap hev a
      obtain ⟨b1, b2⟩ := relsMap hev b
      exact ⟨.func f (a.map cev) (b.map cev), .fn hsf a1 a2 b1 b2, fun w' _ => by simp [execOp, Instr.makeFunc]⟩
    · cases h
  case _ t x lo hi mx =>
    obtain ⟨v, h1, h2⟩ := sliceA_sound hs h (hev x) (optRel hev lo) (optRel hev hi) (optRel hev mx)
    exact ⟨v, h1, fun w' _ => by simp only [execOp, Sem.run_bind, h2 w', Result.andThen_ok, Sem.run_pure]⟩
  case _ s x f =>
    obtain ⟨v, h1, h2⟩ := fieldAddrA_sound h (hev x)
    exact ⟨v, h1, fun w' _ => by simp only [execOp, Sem.run_bind, h2 w', Result.andThen_ok, Sem.run_pure]⟩
  case _ t x f =>
    obtain ⟨v, h1, h2⟩ := fieldA_sound h (hev x)
    exact ⟨v, h1, fun w' _ => by simp only [execOp, Sem.run_bind, h2 w', Result.andThen_ok, Sem.run_pure]⟩
  case _ t x ix =>
    obtain ⟨v, h1, h2⟩ := indexAddrA_sound h (hev x) (hev ix)
    exact ⟨v, h1, fun w' _ => by simp only [execOp, Sem.run_bind, h2 w', Result.andThen_ok, Sem.run_pure]⟩
  case _ t x ix =>
    obtain ⟨v, h1, h2⟩ := indexA_sound h (hev x) (hev ix)
    exact ⟨v, h1, fun w' _ => by simp only [execOp, Sem.run_bind, h2 w', Result.andThen_ok, Sem.run_pure]⟩
  case _ t ps =>
    obtain ⟨v, h1, h2⟩ := buildA_sound (κ := κ) h (cparts := ps.map fun (i, x) => (i, cev x)) (by simp) (fun i a b => by simpa using hev _)
    exact ⟨v, h1, fun w' _ => by simp only [execOp, Sem.run_bind, h2 w', Result.andThen_ok, Sem.run_pure]⟩
  case _ x i =>
    have hx := hev x
    unfold extractA at h
    split at h
    · rename_i vs e
      rw [e] at hx
      generalize hc : cev x = c at hx
      cases hx with
      | @tup _ ca hl hr =>
        obtain ⟨h1, rfl⟩ := List.getElem?_eq_some_iff.1 h
        have h2 : i < ca.size := hl ▸ h1
        exact ⟨ca[i], hr i h1 h2, fun w' _ => by simp [execOp, Instr.extract, hc, h2]⟩
    · cases h
  case _ args ts =>
    split at h
    · rename_i t x ht hx
      have hca : (args.map cev)[0]? = some (cev x) := by simp [hx]
      obtain ⟨v, h1, h2⟩ := lenA_sound (ty := type) hs ht h hca (hev x)
      exact ⟨v, h1, fun w' hw => by simp only [execOp, resolve, invoke, builtin, Sem.run_bind, Sem.run_pure, Result.andThen_ok, h2 w' hw]⟩
    · cases h
  case _ args ts =>
    obtain ⟨v, h1, h2⟩ := mmA_sound (P := P) (ts := ts) (ty := type) h (relsMap hev args)
    exact ⟨v, h1, fun w' _ => by
      have := h2 w'
      simp only [Bool.false_eq_true, if_false] at this
      simp only [execOp, resolve, invoke, builtin, Sem.run_bind, Sem.run_pure, Result.andThen_ok, this]⟩
  case _ args ts =>
    obtain ⟨v, h1, h2⟩ := mmA_sound (P := P) (ts := ts) (ty := type) h (relsMap hev args)
    exact ⟨v, h1, fun w' _ => by
      have := h2 w'
      simp only [if_true] at this
      simp only [execOp, resolve, invoke, builtin, Sem.run_bind, Sem.run_pure, Result.andThen_ok, this]⟩
  case _ t x =>
    obtain ⟨v, h1, h2⟩ := arrPtrA_sound h (hev x)
    exact ⟨v, h1, fun w' _ => by simp only [execOp, Sem.run_bind, h2 w', Result.andThen_ok, Sem.run_pure]⟩
  case _ t x k ok =>
    obtain ⟨v, h1, h2⟩ := lookA_sound hs h (hev x) (hev k)
    exact ⟨v, h1, fun w' hw => by simp only [execOp, Sem.run_bind, h2 w' hw, Result.andThen_ok, Sem.run_pure]⟩
  case _ => cases h
end Go.Abs

set_option linter.unusedVariables false
set_option linter.unusedSimpArgs false
namespace Go.Abs
variable {P : Program} {κ : K} {m : Mem} {w : World}
def storeA (P : Program) (m : Mem) (t : TypeId) (a v : AV) : Option Mem :=
  match a with
  | .ptr n off => match m n, ti P t, v.cells with
    | some (.cells opn bt cs), some i, some vs => if vs.length = i.size ∧ off + vs.length ≤ cs.length ∧ 0 < vs.length then some (m.set n (.cells opn bt (setRange cs off vs))) else none
    | _, _, _ => none
  | _ => none
theorem Sim.cells (hs : Sim P κ m w) {n : Nat} {opn : Bool} {t : TypeId} {cs : List AV} (hm : m n = some (.cells opn t cs)) (h0 : 0 < cs.length) :
    ∃ l, κ.rho n = some (some l) ∧ BlkOK P κ w l (.cells opn t cs) ∧ ∀ o, κ.prot l.blk o = none := by
  rcases hs.blk n _ hm with h | ⟨_, t', e⟩
  · exact h
  · cases e; simp at h0
theorem store_cells (hs : Sim P κ m w) {n : Nat} {opn : Bool} {bt : TypeId} {cs : List AV} {l : Loc} (hm : m n = some (.cells opn bt cs)) (hl : κ.rho n = some (some l)) {off : Nat} {vs : List AV} (hfit : off + vs.length ≤ cs.length)
    {ca : Array Value} (hv : Rels κ vs ca) (h1 : ∀ u ∈ ca.toList, u.oneCell' = true) :
    ∃ w', (storeCells ⟨l.blk, l.base + off, none⟩ ca.toList).run P w = .ok () w' ∧ Step P κ m w κ (m.set n (.cells opn bt (setRange cs off vs))) w' := by
  rcases hs.blk n _ hm with ⟨l', e1, e2, e3⟩ | ⟨e1, _⟩
  · rw [hl] at e1; cases e1
    obtain ⟨arr, t', fz, z1, z2, z3, z4, z5, z6, z7⟩ := e2
    have hlen : ca.toList.length = vs.length := by simp [hv.1]
    have hfit' : l.base + off + 0 + ca.toList.length ≤ arr.size := by rw [hlen]; omega
    obtain ⟨w', g1, g2, g3⟩ := run_storeCells' P l.blk t' fz (l.base + off) ca.toList 0 arr w z1 (fun k hk => z2 k (.inl hk)) hfit' h1
    refine ⟨w', g1, Step.change hs (by rw [hm]; simp) hl e3 g3 _ ?_⟩
    refine ⟨_, t', fz, g2, ?_, ?_, ?_, z5, z6, ?_⟩
    · rw [overwrite_size]; exact z2
    · rw [setRange_length _ _ _ hfit]; exact z3
    · rw [overwrite_size]; exact z4
    · intro i hi
      rw [setRange_length _ _ _ hfit] at hi
      have e := overwrite_get ca.toList arr (l.base + off + 0) hfit' (l.base + i)
      have e' := setRange_get cs off vs hfit i
      have hi' : i < (setRange cs off vs).length := by rw [setRange_length _ _ _ hfit]; exact hi
      rw [List.getElem?_eq_getElem hi'] at e'
      by_cases hc : off ≤ i ∧ i < off + vs.length
      · rw [if_pos hc] at e'
        rw [if_pos (by rw [hlen]; omega)] at e
        have i1 : i - off < vs.length := by omega
        have i2 : i - off < ca.size := by rw [← hv.1]; exact i1
        have i3 : l.base + i - (l.base + off + 0) = i - off := by omega
        rw [i3, Array.getElem?_toList, Array.getElem?_eq_getElem i2] at e
        rw [List.getElem?_eq_getElem i1] at e'
        exact ⟨_, e, by rw [Option.some.inj e']; exact hv.2 _ i1 i2⟩
      · rw [if_neg hc] at e'
        rw [if_neg (by rw [hlen]; omega)] at e
        rw [List.getElem?_eq_getElem hi] at e'
        obtain ⟨cv, y1, y2⟩ := z7 i hi
        exact ⟨cv, e.trans y1, by rw [Option.some.inj e']; exact y2⟩
  · rw [hl] at e1; cases e1
theorem storeA_sound (hs : Sim P κ m w) {t : TypeId} {a v : AV} {m' : Mem} (h : storeA P m t a v = some m') {ca cv : Value} (ha : Rel κ a ca) (hv : Rel κ v cv) :
    ∃ w', (Instr.storeAt t ca cv).run P w = .ok () w' ∧ Step P κ m w κ m' w' := by
  unfold storeA at h
  split at h
  · rename_i n off
    split at h
    · rename_i opn bt cs i vs hm hi hvs
      split at h
      · rename_i hc
        cases h
        obtain ⟨l, hl, _⟩ := hs.cells hm (by omega)
        cases ha with
        | ptr hr =>
          rw [hl] at hr; cases hr
          obtain ⟨g1, g2⟩ := hv.cells hvs
          obtain ⟨w', g3, g4⟩ := store_cells hs hm hl hc.2.1 g1 g2
          refine ⟨w', ?_, g4⟩
          have hsz : ¬ (cv.cells.size ≠ i.size) := by rw [← g1.1]; simpa using hc.1
          simp only [Instr.storeAt, Instr.sureAddr, storeVar, Sem.run_bind, Sem.run_pure, Result.andThen_ok, run_sizeOf hi, if_neg hsz]
          exact g3
      · cases h
    · cases h
  · cases h
theorem heap_alloc_new' (w : World) (o : Obj) : (w.alloc o).heap[w.heap.size]? = some o := by show (w.heap.push o)[w.heap.size]? = _; simp
theorem new_cells (hs : Sim P κ m w) {n : Nat} (hm : m n = none) (hr : κ.rho n = none) {opn : Bool} {t : TypeId} {cs : List AV} {ca : Array Value} (hc : Rels κ cs ca) (ext : Nat) (rest : Array Value)
    (h0 : opn = false → ext = 0) (hrest : ext * P.cellsOf t ≤ rest.size) {fz : Nat × Nat} (hfz : ∀ i, i < (ca ++ rest).size ∨ (i = (ca ++ rest).size ∧ byteT P t = false) → ¬ (fz.1 ≤ i ∧ i < fz.2)) {w' : World} (hb : But w w' w.heap.size)
    (hw' : w'.heap[w.heap.size]? = some (.cells (ca ++ rest) t fz)) :
    Step P κ m w (κ.add n ⟨w.heap.size, 0, P.cellsOf t, cs.length, ext⟩) (m.set n (.cells opn t cs)) w' := by
  refine Step.alloc hs hm hr (Nat.le_refl _) (Array.getElem?_eq_some_iff.1 hw').1 hb _ ?_
  refine ⟨_, t, fz, hw', hfz, rfl, ?_, h0, fun _ => rfl, fun i hi => ?_⟩
  · have : cs.length = ca.size := hc.1
    simp only [Array.size_append]; omega
  · have hi' : i < ca.size := hc.1 ▸ hi
    refine ⟨ca[i], by rw [Nat.zero_add, Array.getElem?_append_left hi', Array.getElem?_eq_getElem hi'], (hc.2 i hi hi').mono (K.le_add hr)⟩
theorem new_box (hs : Sim P κ m w) {t : TypeId} {cs : List AV} {ca : Array Value} (hc : Rels κ cs ca) :
    ∃ n, m n = none ∧ ∃ κ', Step P κ m w κ' (m.set n (.cells false t cs)) (w.alloc (.cells ca t)) ∧ Rel κ' (.ptr n 0) (.pointer (some ⟨w.heap.size, 0, none⟩)) := by
  obtain ⟨n, hr, hm⟩ := hs.fresh
  refine ⟨n, hm, κ.add n ⟨w.heap.size, 0, P.cellsOf t, cs.length, 0⟩, ?_, ?_⟩
  · exact new_cells hs hm hr hc 0 #[] (fun _ => rfl) (by simp) (fz := (0, 0)) (fun i _ => by simp) (But.alloc w _ _) (by rw [heap_alloc_new']; simp)
  · have := @Rel.ptr (κ.add n ⟨w.heap.size, 0, P.cellsOf t, cs.length, 0⟩) n 0 _ (K.add_same ..)
    simpa using this
theorem new_lit (hs : Sim P κ m w) {t : TypeId} {es : List (List AV)} {s : Nat} (hl : ∀ e ∈ es, e.length = s) {ca : Array Value} (hc : Rels κ es.flatten ca) :
    ∃ κ', Step P κ m w κ' m (w.alloc (.cells ca t)) ∧ Rel κ' (.vs es true) (.slice (some ⟨w.heap.size, 0, none⟩) es.length es.length) := by
  have hst := Step.protect (P := P) (m := m) (w := w) (w' := w.alloc (.cells ca t)) hs (c := w.heap.size) (f := fun o => ca[o]?) (But.alloc w _ _) (Nat.le_refl _) (fun o v h => by
    simp only [World.cell?, heap_alloc_new']
    simpa using h)
  refine ⟨_, hst, ?_⟩
  have key : ∀ i j, i < es.length → j < s → ∃ (h : i * s + j < es.flatten.length), ∃ (hi : i < es.length) (hj : j < es[i].length), es.flatten[i * s + j] = es[i][j] := by
    clear hc hst hs
    intro i j hi hj
    induction es generalizing i with
    | nil => simp at hi
    | cons e es ih =>
      have he : e.length = s := hl e (by simp)
      cases i with
      | zero =>
        refine ⟨by simp [he]; omega, by simp, by simpa [he] using hj, ?_⟩
        simp only [List.flatten_cons, Nat.zero_mul, Nat.zero_add, List.getElem_cons_zero]
        rw [List.getElem_append_left (by omega)]
      | succ i =>
        obtain ⟨h1, h2, h3, h4⟩ := ih (fun x hx => hl x (by simp [hx])) i (by simpa using hi)
        refine ⟨by simp only [List.flatten_cons, List.length_append, he]; rw [Nat.add_mul]; omega, hi, by simpa using h3, ?_⟩
        simp only [List.flatten_cons, List.getElem_cons_succ]
        rw [List.getElem_append_right (by rw [he, Nat.add_mul]; omega)]
        have : (i + 1) * s + j - e.length = i * s + j := by rw [he, Nat.add_mul]; omega
        simp only [this]
        exact h4
  refine @Rel.vs _ es true w.heap.size 0 s es.length (fun i j => (ca[i * s + j]?).getD (.bool false)) hl (Nat.le_refl _) (fun _ => rfl) (fun i j hi hj => ?_) (fun i hi j hj => ?_)
  · obtain ⟨h1, h2, h3, h4⟩ := key i j hi hj
    have h5 : i * s + j < ca.size := by rw [← hc.1]; exact h1
    rw [Nat.zero_add]
    simp only [Array.getElem?_eq_getElem h5, Option.getD_some]
    exact K.protect_same _ (by simp [h5])
  · have hjs : j < s := by rw [← hl _ (List.getElem_mem hi)]; exact hj
    obtain ⟨h1, h2, h3, h4⟩ := key i j hi hjs
    have h5 : i * s + j < ca.size := by rw [← hc.1]; exact h1
    simp only [Array.getElem?_eq_getElem h5, Option.getD_some]
    rw [← h4]
    exact (hc.2 _ h1 h5).mono hst.le
def litA (P : Program) (t : TypeId) (len : Nat) (parts : List (Nat × AV)) : Option (TypeId × Nat × List AV) :=
  match ti P t with
  | some i => match i.desc with
    | .slice e => match ti P e, zeroA P e with
      | some j, some z => if z.length = j.size ∧ 0 < j.size ∧ len * j.size ≤ 16777216 then
          (match fillA (fun k => some (k * j.size, j.size)) (List.replicate len z).flatten parts with
          | some cs => some (e, j.size, cs)
          | none => none) else none
      | _, _ => none
    | _ => none
  | none => none
theorem replicate_flatten_get (z : List AV) (hz : 0 < z.length) : ∀ (n k : Nat) (h : k < n * z.length), ∃ h1 h2, (List.replicate n z).flatten[k]'h1 = z[k % z.length]'h2
  | 0, k, h => by simp at h
  | n + 1, k, h => by
    have hm := Nat.mod_lt k hz
    by_cases hk : k < z.length
    · refine ⟨by simp only [List.length_flatten, List.map_replicate, List.sum_replicate_nat]; rw [Nat.add_mul] at h ⊢; omega, hm, ?_⟩
      simp only [List.replicate_succ, List.flatten_cons]
      rw [List.getElem_append_left hk]
      congr 1; exact (Nat.mod_eq_of_lt hk).symm
    · obtain ⟨h1, h2, h3⟩ := replicate_flatten_get z hz n (k - z.length) (by rw [Nat.add_mul] at h; omega)
      refine ⟨by simpa [Nat.add_mul] using h, hm, ?_⟩
      simp only [List.replicate_succ, List.flatten_cons]
      rw [List.getElem_append_right (by omega), h3]
      congr 1
      exact (Nat.mod_eq_sub_mod (by omega)).symm
theorem rels_zeros {z : List AV} {zc : Array Value} (hz : Rels κ z zc) (h0 : 0 < z.length) (n : Nat) : Rels κ (List.replicate n z).flatten ((Array.range (n * z.length)).map (zc[· % zc.size]!)) := by
  refine ⟨by simp, fun i h h' => ?_⟩
  simp only [Array.size_map, Array.size_range] at h'
  obtain ⟨h1, h2, h3⟩ := replicate_flatten_get z h0 n i h'
  rw [h3]
  simp only [Array.getElem_map, Array.getElem_range]
  have : i % zc.size < zc.size := Nat.mod_lt _ (by rw [← hz.1]; exact h0)
  rw [getElem!_pos zc _ this]
  have e : z.length = zc.size := hz.1
  have := hz.2 (i % z.length) h2 (by rw [e]; exact this)
  simpa [e] using this
theorem litA_sound {t : TypeId} {len : Nat} {parts : List (Nat × AV)} {e : TypeId} {s : Nat} {cs : List AV} (h : litA P t len parts = some (e, s, cs)) {cparts : Array (Nat × Value)} (hl : parts.length = cparts.size)
    (hp : ∀ i (h : i < parts.length) (h' : i < cparts.size), parts[i].1 = cparts[i].1 ∧ Rel κ parts[i].2 cparts[i].2) :
    ∃ ca, Rels κ cs ca ∧ ∀ w, (Instr.buildSlice t len cparts).run P w = .ok (.slice (some ⟨w.heap.size, 0, none⟩) len len) (w.alloc (.cells ca e)) := by
  unfold litA at h
  split at h
  · rename_i i hi
    split at h
    · rename_i e' hd
      split at h
      · rename_i j z hj hz
        split at h
        · rename_i hc
          split at h
          · rename_i cs' hcs
            cases h
            obtain ⟨zv, z1, z2, _⟩ := zeroA_sound (κ := κ) hz
            have hz2 := rels_zeros z2 (by omega) len
            obtain ⟨cr, g1, g2⟩ := fillA_sound (κ := κ) _ parts _ cs hcs cparts.toList _ hz2 (by simpa using hl) (fun k a b => by simpa using hp k a (by simpa using b))
            refine ⟨cr, g2, fun w => ?_⟩
            rw [hc.1] at g1
            have hbig : ¬ (len * j.size > 2 ^ 24) := by have := hc.2.2; omega
            simp only [Instr.buildSlice, Sem.run_bind, run_underlying' hi, hd, Result.andThen_ok, run_sizeOf hj, if_neg hbig, Sem.run_pure]
            by_cases h0 : len * j.size = 0
            · simp only [h0, if_true] at g1 ⊢
              simp only [Array.range_zero', List.map_toArray, List.map_nil] at g1
              simp only [Sem.run_bind, Sem.run_pure, Result.andThen_ok, Array.range_zero', List.map_toArray, List.map_nil, g1]
              rfl
            · rw [if_neg h0]
              simp only [Sem.run_bind, z1, Result.andThen_ok, Sem.run_pure]
              rw [g1]
              rfl
          · cases h
        · cases h
      · cases h
    · cases h
  · cases h
end Go.Abs

set_option linter.unusedVariables false
set_option linter.unusedSimpArgs false
namespace Go.Abs
variable {P : Program} {κ : K} {m : Mem} {w : World}
def srcA (P : Program) (m : Mem) (xt : TypeId) (s : Nat) (x : AV) : Option (Nat × List AV) :=
  match ti P xt with
  | some i => match i.desc, x with
    | .slice _, .vs es _ => if ∀ e ∈ es, e.length = s ∧ e.all AV.one = true then some (es.length, es.flatten) else none
    | .slice _, .val (.slice none 0 0) => some (0, [])
    | .slice _, .sl n off len _ => match m n with
      | some (.cells _ _ cs) => if off + len * s ≤ cs.length ∧ ((cs.drop off).take (len * s)).all AV.one = true then some (len, (cs.drop off).take (len * s)) else none
      | _ => none
    | .string, .val (.string b) => if s = 1 then some (b.size, b.data.toList.map fun c => .val (.int .u8 c.toNat)) else none
    | _, _ => none
  | none => none
structure SrcOK (P : Program) (κ : K) (w : World) (s : Nat) (cx : Value) (k : Nat) (cs : List AV) (news : Array Value) : Prop where
  len : cs.length = k * s
  one : cs.all AV.one = true
  rels : Rels κ cs news
  lenOf : ∀ w', (Builtin.lenOf cx).run P w' = .ok k w'
  first : ∀ w', Ext w w' → (Builtin.firstCells s k cx).run P w' = .ok news w'
theorem flatten_rels {es : List (List AV)} {s : Nat} (hl : ∀ e ∈ es, e.length = s) (f : Nat → Nat → Value) (hr : ∀ i (hi : i < es.length) j (hj : j < es[i].length), Rel κ es[i][j] (f i j)) :
    es.flatten.length = es.length * s ∧ ∀ q (h : q < es.flatten.length), Rel κ es.flatten[q] (f (q / s) (q % s)) := by
  induction es generalizing f with
  | nil => exact ⟨by simp, fun q h => by simp at h⟩
  | cons e es ih =>
    have he : e.length = s := hl e (by simp)
    obtain ⟨h1, h2⟩ := ih (fun x hx => hl x (by simp [hx])) (fun i j => f (i + 1) j) (fun i hi j hj => hr (i + 1) (by simpa using hi) j (by simpa using hj))
    refine ⟨by simp only [List.flatten_cons, List.length_append, h1, he, List.length_cons]; rw [Nat.add_mul]; omega, fun q h => ?_⟩
    by_cases hq : q < s
    · simp only [List.flatten_cons]
      rw [List.getElem_append_left (by omega), Nat.div_eq_of_lt hq, Nat.mod_eq_of_lt hq]
      exact hr 0 (by simp) q (by simpa [he] using hq)
    · have hs : 0 < s := by
        rcases Nat.eq_zero_or_pos s with h0 | h0
        · subst h0
          simp only [List.flatten_cons, List.length_append, h1, he, Nat.mul_zero] at h; omega
        · exact h0
      simp only [List.flatten_cons, List.length_append, h1, he] at h
      have := h2 (q - s) (by omega)
      simp only [List.flatten_cons]
      rw [List.getElem_append_right (by omega)]
      have e1 : q / s = (q - s) / s + 1 := by rw [Nat.div_eq_sub_div hs (by omega)]
      have e2 : q % s = (q - s) % s := (Nat.mod_eq_sub_mod (by omega))
      rw [e1, e2]
      have e3 : q - e.length = q - s := by rw [he]
      simp only [e3]
      exact this
theorem srcA_sound (hs : Sim P κ m w) {xt : TypeId} {s : Nat} {x : AV} {k : Nat} {cs : List AV} (h : srcA P m xt s x = some (k, cs)) {cx : Value} (hx : Rel κ x cx) : ∃ news, SrcOK P κ w s cx k cs news := by
  unfold srcA at h
  split at h
  · rename_i i hi
    split at h
    · rename_i e es ex hd
      split at h
      · rename_i hall
        cases h
        cases hx with
        | vnil => exact ⟨#[], by simp, rfl, ⟨rfl, fun i h => by simp at h⟩, fun w' => rfl, fun w' _ => rfl⟩
        | vz => exact ⟨#[], by simp, by simp, ⟨by simp, fun i h => by simp at h⟩, fun w' => rfl, fun w' _ => by simp [Builtin.firstCells, loadCells, loadCellsFrom]⟩
        | @vs _ _ c o s' cap f q1 q2 q3 q4 q5 =>
          have hss : ∀ e ∈ es, e.length = s := fun e he => (hall e he).1
          obtain ⟨g1, g2⟩ := flatten_rels (κ := κ) hss f q5
          refine ⟨Array.ofFn fun q : Fin (es.length * s) => f (q / s) (q % s), g1, ?_, ⟨by simp [g1], fun q h1 h2 => by simpa using g2 q h1⟩, fun w' => rfl, fun w' hw => ?_⟩
          · rw [List.all_eq_true]
            intro x hx
            obtain ⟨e, he, hxe⟩ := List.mem_flatten.1 hx
            exact List.all_eq_true.1 (hall e he).2 x hxe
          · simp only [Builtin.firstCells]
            refine run_loadCells' (fun q => f (q / s) (q % s)) (es.length * s) (fun q hq => hw.cell (hs.prot _ _ _ ?_))
            have hs0 : 0 < s := by
              rcases Nat.eq_zero_or_pos s with h0 | h0
              · subst h0; omega
              · exact h0
            have hi1 : q / s < es.length := by rw [Nat.div_lt_iff_lt_mul hs0]; exact hq
            have hs' : s = s' := by rw [← hss _ (List.getElem_mem hi1), q1 _ (List.getElem_mem hi1)]
            have := q4 (q / s) (q % s) hi1 (by rw [← hs']; exact Nat.mod_lt _ hs0)
            rw [← hs', Nat.mul_comm (q / s) s, Nat.div_add_mod] at this
            exact this
      · cases h
    · cases h
      obtain ⟨rfl, _⟩ := hx.val_inv
      exact ⟨#[], by simp, rfl, ⟨rfl, fun i h => by simp at h⟩, fun w' => rfl, fun w' _ => rfl⟩
    · rename_i e n off len cap hd
      split at h
      · rename_i opn bt bcs hm
        split at h
        · rename_i hfit
          cases h
          have zero : k = 0 ∨ 0 < k := Nat.eq_zero_or_pos k
          cases hx with
          | snil => exact ⟨#[], by simp, by simp, ⟨by simp, fun i h => by simp at h⟩, fun w' => rfl, fun w' _ => rfl⟩
          | szero => exact ⟨#[], by simp, by simp, ⟨by simp, fun i h => by simp at h⟩, fun w' => rfl, fun w' _ => by simp [Builtin.firstCells, loadCells, loadCellsFrom]⟩
          | @sl _ _ _ _ cap' c' o' l q1 q2 q3 q4 =>
            rcases hs.blk n _ hm with ⟨l', e1, e2, _⟩ | ⟨e1, _⟩
            · rw [q1] at e1; cases e1
              obtain ⟨arr, t', fz, z1, z2, z3, z4, z5, z6, z7⟩ := e2
              have hlen : ((bcs.drop off).take (k * s)).length = k * s := by simp; omega
              refine ⟨Array.ofFn fun q : Fin (k * s) => (arr[l.base + (off + q)]?).getD (.bool false), hlen, hfit.2, ⟨by simp [hlen], fun q h1 h2 => ?_⟩, fun w' => rfl, fun w' hw => ?_⟩
              · rw [hlen] at h1
                obtain ⟨cv, y1, y2⟩ := z7 (off + q) (by omega)
                simp only [List.getElem_take, List.getElem_drop, Array.getElem_ofFn, y1, Option.getD_some]
                exact y2
              · simp only [Builtin.firstCells]
                rcases zero with h0 | h0
                · subst h0; simp [loadCells, loadCellsFrom]
                · have ha : c' = l.blk ∧ o' = l.base + off := by
                    rcases q4 with q4 | q4
                    · rcases q2 with q2 | q2 <;> omega
                    · exact q4
                  obtain ⟨rfl, rfl⟩ := ha
                  refine run_loadCells' (fun q => (arr[l.base + (off + q)]?).getD (.bool false)) (k * s) (fun q hq => hw.cell ?_)
                  obtain ⟨cv, y1, y2⟩ := z7 (off + q) (by omega)
                  simp only [World.cell?, z1, Nat.add_assoc, y1, Option.getD_some]
                  rfl
            · rw [q1] at e1; cases e1
        · cases h
      · cases h
    · rename_i b hd
      split at h
      · rename_i hs1
        cases h
        subst hs1
        obtain ⟨rfl, _⟩ := hx.val_inv
        refine ⟨b.data.map fun c => .int .u8 c.toNat, by simp, ?_, ⟨by simp, fun i h1 h2 => ?_⟩, fun w' => rfl, fun w' _ => ?_⟩
        · rw [List.all_eq_true]
          intro x hx
          obtain ⟨c, _, rfl⟩ := List.mem_map.1 hx
          rfl
        · simp only [List.getElem_map, Array.getElem_map, Array.getElem_toList]
          exact .val rfl
        · have : (b.extract 0 b.size) = b := by
            simp
          simp only [Builtin.firstCells, this, Sem.run_pure]
      · cases h
    · cases h
  · cases h
structure AppT (P : Program) (t xt e : TypeId) (j : TI) (z : List AV) : Prop where
  desc : ∃ i, ti P t = some i ∧ i.desc = .slice e
  src : ∃ i, ti P xt = some i ∧ ((∃ e, i.desc = .slice e) ∨ i.desc = .string ∨ ∃ k, i.desc = .int k)
  elem : ti P e = some j
  zero : zeroA P e = some z
  zlen : z.length = j.size
  pos : 0 < j.size
  bpos : 0 < j.bytes
structure AppSrc (P : Program) (κ : K) (w : World) (xt e : TypeId) (j : TI) (cx : Value) (k : Nat) (cs : List AV) (news : Array Value) : Prop where
  len : cs.length = k * j.size
  one : cs.all AV.one = true
  rels : Rels κ cs news
  how : ((∃ i, ti P xt = some i ∧ ((∃ e, i.desc = .slice e) ∨ i.desc = .string)) ∧ (∀ w', (Builtin.lenOf cx).run P w' = .ok k w') ∧ (∀ w', Ext w w' → (Builtin.firstCells j.size k cx).run P w' = .ok news w')) ∨
    ((∃ i kk, ti P xt = some i ∧ i.desc = .int kk) ∧ (∃ kk, cx = .int kk k) ∧ k * j.bytes ≤ 281474976710656 ∧ k ≤ 9223372036854775807 ∧ ∃ zv, (∀ w, (zeroValue e).run P w = .ok zv w) ∧ news = Builtin.zeroCells zv.cells k)
theorem SrcOK.app {xt e : TypeId} {j : TI} {cx : Value} {k : Nat} {cs : List AV} {news : Array Value} (h : SrcOK P κ w j.size cx k cs news) (hx : ∃ i, ti P xt = some i ∧ ((∃ e, i.desc = .slice e) ∨ i.desc = .string)) : AppSrc P κ w xt e j cx k cs news :=
  ⟨h.len, h.one, h.rels, .inl ⟨hx, h.lenOf, h.first⟩⟩
def srcB (P : Program) (m : Mem) (xt : TypeId) (j : TI) (z : List AV) (x : AV) : Option (Nat × List AV) :=
  match srcA P m xt j.size x with
  | some r => some r
  | none => match ti P xt, x with
    | some i, .val (.int _ q) => match i.desc with
      | .int _ => if 0 ≤ q ∧ q * j.bytes ≤ 281474976710656 ∧ q ≤ 9223372036854775807 ∧ z.all AV.one = true then some (q.toNat, (List.replicate q.toNat z).flatten) else none
      | _ => none
    | _, _ => none
theorem srcB_of {m : Mem} {xt : TypeId} {j : TI} {z : List AV} {x : AV} {r : Nat × List AV} (h : srcA P m xt j.size x = some r) : srcB P m xt j z x = some r := by simp only [srcB, h]
theorem srcB_zeros {m : Mem} {xt : TypeId} {j i : TI} {z : List AV} {kk k' : IntKind} {q : Int} (hi : ti P xt = some i) (hd : i.desc = .int k') (h0 : 0 ≤ q) (h1 : q * j.bytes ≤ 281474976710656) (h2 : q ≤ 9223372036854775807) (hz : z.all AV.one = true) :
    srcB P m xt j z (.val (.int kk q)) = some (q.toNat, (List.replicate q.toNat z).flatten) := by
  have : srcA P m xt j.size (.val (.int kk q)) = none := by simp only [srcA, hi, hd]
  simp only [srcB, this, hi, hd]
  rw [if_pos ⟨h0, h1, h2, hz⟩]
theorem srcB_sound (hs : Sim P κ m w) {t xt e : TypeId} {j : TI} {z : List AV} (hT : AppT P t xt e j z) {x : AV} {k : Nat} {cs : List AV} (h : srcB P m xt j z x = some (k, cs)) {cx : Value} (hx : Rel κ x cx) : ∃ news, AppSrc P κ w xt e j cx k cs news := by
  unfold srcB at h
  split at h
  · rename_i r hr
    cases h
    obtain ⟨news, hok⟩ := srcA_sound hs hr hx
    refine ⟨news, hok.app ?_⟩
    unfold srcA at hr
    split at hr
    · rename_i i hi
      split at hr
      · rename_i e' _ _ hd; exact ⟨i, hi, .inl ⟨_, hd⟩⟩
      · rename_i e' hd; exact ⟨i, hi, .inl ⟨_, hd⟩⟩
      · rename_i e' _ _ _ _ hd; exact ⟨i, hi, .inl ⟨_, hd⟩⟩
      · rename_i _ hd; exact ⟨i, hi, .inr hd⟩
      · cases hr
    · cases hr
  · split at h
    · rename_i i kk q hi hlast
      split at h
      · rename_i k' hd
        split at h
        · rename_i hc
          cases h
          obtain ⟨c1, c2, c3, c4⟩ := hc
          obtain ⟨rfl, _⟩ := hx.val_inv
          obtain ⟨zv, z1, z2, _⟩ := zeroA_sound (κ := κ) hT.zero
          have hr := rels_zeros z2 (by rw [hT.zlen]; exact hT.pos) q.toNat
          have hzc : Builtin.zeroCells zv.cells q.toNat = (Array.range (q.toNat * z.length)).map (zv.cells[· % zv.cells.size]!) := by
            simp only [Builtin.zeroCells, z2.1]
          have hq : (q.toNat : Int) = q := Int.toNat_of_nonneg c1
          refine ⟨Builtin.zeroCells zv.cells q.toNat, by simp [hT.zlen], ?_, by rw [hzc]; exact hr, .inr ⟨⟨i, k', hi, hd⟩, ⟨kk, by rw [hq]⟩, ?_, by omega, zv, z1, rfl⟩⟩
          · rw [List.all_eq_true] at *
            intro y hy
            obtain ⟨l, hl, hy⟩ := List.mem_flatten.1 hy
            rw [List.mem_replicate] at hl
            rw [hl.2] at hy
            exact c4 y hy
          · have : ((q.toNat * j.bytes : Nat) : Int) ≤ (281474976710656 : Nat) := by rw [Int.natCast_mul, hq]; exact c2
            exact Int.ofNat_le.1 this
        · cases h
      · cases h
    · cases h
theorem run_append_in {t xt ty e : TypeId} {j : TI} {z : List AV} (hT : AppT P t xt e j z) {base : Option Addr} {sLen sCap : Nat} {cx : Value} {k : Nat} {cs : List AV} {news : Array Value} (hsrc : AppSrc P κ w xt e j cx k cs news) (hroom : sLen + k ≤ sCap) :
    (Builtin.append_ #[t, xt] ty #[.slice base sLen sCap, cx]).run P w =
      (match base with | some a => (storeCells (a.add (sLen * j.size)) news.toList).run P w | none => .ok () w).andThen fun _ w' => .ok (.slice base (sLen + k) sCap) w' := by
  obtain ⟨i, hi, hd⟩ := hT.desc
  rcases hsrc.how with ⟨⟨i2, hi2, hd2⟩, hlen, hfirst⟩ | ⟨⟨i2, kk, hi2, hd2⟩, ⟨k2, rfl⟩, hb, hmax, zv, hz, rfl⟩
  · have hf := hfirst w (Ext.refl w)
    rcases hd2 with ⟨e2, hd2⟩ | hd2 <;> cases base <;>
      simp [Builtin.append_, run_underlying' hi, hd, run_sizeOf hT.elem, run_underlying' hi2, hd2, hlen, hroom, hf]
  · have hw : IntKind.i64.wrap (k : Int) = (k : Int) := IntWalk.i64_in _ (by omega)
    obtain ⟨_, i3, h31, h32, h33, h34⟩ := ti_spec hT.elem
    have h48 : ¬ (281474976710656 < (k : Int) * (i3.bytes : Int)) := by
      rw [h33]
      have : ((k * j.bytes : Nat) : Int) ≤ (281474976710656 : Nat) := Int.ofNat_le.2 hb
      rw [Int.natCast_mul] at this; omega
    have hneg : ¬ ((k : Int) < 0) := by omega
    by_cases hk0 : k = 0
    · subst hk0
      have hzc : (Builtin.zeroCells zv.cells 0) = #[] := by simp [Builtin.zeroCells]
      have hroom' : sLen ≤ sCap := by omega
      cases base <;>
        simp [Builtin.append_, run_underlying' hi, hd, run_sizeOf hT.elem, run_underlying' hi2, hd2, asInt, asIntOf, show IntKind.i64.wrap 0 = 0 from by decide, typeInfo, h31, hroom', hzc]
    · have hks : ¬ (k * j.size = 0) := Nat.mul_ne_zero hk0 (by have := hT.pos; omega)
      have hpos : ¬ (j.size = 0) := by have := hT.pos; omega
      cases base <;>
        simp [Builtin.append_, run_underlying' hi, hd, run_sizeOf hT.elem, run_underlying' hi2, hd2, asInt, asIntOf, hw, typeInfo, h31, hroom, h48, hneg, hk0, hpos, hks, hz]
theorem run_append_new {t xt ty e : TypeId} {j : TI} {z : List AV} (hT : AppT P t xt e j z) {base : Option Addr} {sLen sCap : Nat} {cx : Value} {k : Nat} {cs : List AV} {news olds : Array Value} (hsrc : AppSrc P κ w xt e j cx k cs news)
    (hold : (Builtin.firstCells j.size sLen (.slice base sLen sCap)).run P w.drew = .ok olds w.drew) (hroom : sCap < sLen + k) (hsz : (sLen + k) * j.bytes ≤ 140737488355328) :
    ∃ (cap : Nat) (rest : Array Value), sLen + k ≤ cap ∧ (cap - (sLen + k)) * j.size ≤ rest.size ∧
    (Builtin.append_ #[t, xt] ty #[.slice base sLen sCap, cx]).run P w = .ok (.slice (some ⟨w.heap.size, 0, none⟩) (sLen + k) cap) (w.drew.alloc (.cells (olds ++ news ++ rest) e)) := by
  obtain ⟨i, hi, hd⟩ := hT.desc
  obtain ⟨zv, z1, z2, _⟩ := zeroA_sound (κ := κ) hT.zero
  obtain ⟨_, i3, h31, h32, h33, h34⟩ := ti_spec hT.elem
  have hn : ¬ (sLen + k ≤ sCap) := by omega
  have hlen : sLen + k ≤ 140737488355328 := Nat.le_trans (Nat.le_mul_of_pos_right _ hT.bpos) hsz
  have h63 : ¬ (((sLen + k : Nat) : Int) > IntKind.i64.max) := by simp only [IntKind.max_i64]; omega
  have h63' : ¬ (9223372036854775807 < ((sLen : Int) + (k : Int))) := by omega
  have h48 : ¬ (Builtin.nextslicecap (sLen + k) sCap * i3.bytes > 2 ^ 48) := by
    have := growslice_fits (old := sCap) hroom hsz
    rw [h33]; omega
  have h48' : ¬ (281474976710656 < Builtin.nextslicecap (sLen + k) sCap * i3.bytes) := by simpa using h48
  have hb0 : ¬ (i3.bytes = 0) := by rw [h33]; have := hT.bpos; omega
  refine ⟨grownCap w (sLen + k) sCap e, Builtin.zeroCells zv.cells (grownCap w (sLen + k) sCap e - (sLen + k)), grownCap_ge .., ?_, ?_⟩
  · rw [size_zeroCells, ← z2.1, hT.zlen]; exact Nat.le_refl _
  · rcases hsrc.how with ⟨⟨i2, hi2, hd2⟩, hle, hfirst⟩ | ⟨⟨i2, kk, hi2, hd2⟩, ⟨k2, rfl⟩, hb, hmax, zv', hz, rfl⟩
    · have hf := hfirst w.drew (fun _ _ => rfl)
      rcases hd2 with ⟨e2, hd2⟩ | hd2 <;>
        simp [Builtin.append_, run_underlying' hi, hd, run_sizeOf hT.elem, run_underlying' hi2, hd2, hle, hn, typeInfo, h31, h63', h48', hold, hf, z1, Question.forced, newRow, grownCap]
    · have hw : IntKind.i64.wrap (k : Int) = (k : Int) := IntWalk.i64_in _ (by omega)
      have hzz : zv' = zv := by have := (hz w).symm.trans (z1 w); simpa using this
      subst hzz
      have h48 : ¬ (281474976710656 < (k : Int) * (i3.bytes : Int)) := by
        rw [h33]
        have : ((k * j.bytes : Nat) : Int) ≤ (281474976710656 : Nat) := Int.ofNat_le.2 hb
        rw [Int.natCast_mul] at this; omega
      have hneg : ¬ ((k : Int) < 0) := by omega
      by_cases hk0 : k = 0
      · subst hk0
        have hzc : (Builtin.zeroCells zv'.cells 0) = #[] := by simp [Builtin.zeroCells]
        have hn' : ¬ (sLen ≤ sCap) := by omega
        have h48'' : ¬ (281474976710656 < Builtin.nextslicecap sLen sCap * i3.bytes) := by simpa using h48'
        have h63'' : ¬ (9223372036854775807 < (sLen : Int)) := by omega
        simp [Builtin.append_, run_underlying' hi, hd, run_sizeOf hT.elem, run_underlying' hi2, hd2, asInt, asIntOf, show IntKind.i64.wrap 0 = 0 from by decide, typeInfo, h31, hn', h63'', h48'', hold, hz, hzc, Question.forced, newRow, grownCap]
      · have hks : ¬ (k * j.size = 0) := Nat.mul_ne_zero hk0 (by have := hT.pos; omega)
        have hpos : ¬ (j.size = 0) := by have := hT.pos; omega
        simp [Builtin.append_, run_underlying' hi, hd, run_sizeOf hT.elem, run_underlying' hi2, hd2, asInt, asIntOf, hw, typeInfo, h31, hn, h63', h48', h48, hneg, hk0, hpos, hks, hold, hz, Question.forced, newRow, grownCap]
end Go.Abs

set_option linter.unusedVariables false
set_option linter.unusedSimpArgs false
namespace Go.Abs
variable {P : Program} {κ : K} {m : Mem} {w : World}
def K.ghost (κ : K) (n : Nat) : K := { κ with rho := fun k => if k = n then some none else κ.rho k }
theorem K.le_ghost {κ : K} {n : Nat} (h : κ.rho n = none) : κ.le (κ.ghost n) := ⟨fun _ _ _ h => h, fun k l' hk => by
  unfold K.ghost
  simp only
  split
  · rename_i e; rw [e, h] at hk; cases hk
  · exact hk⟩
theorem K.ghost_same (κ : K) (n : Nat) : (κ.ghost n).rho n = some none := by simp [K.ghost]
theorem K.ghost_ne (κ : K) {n k : Nat} (h : k ≠ n) : (κ.ghost n).rho k = κ.rho k := by simp [K.ghost, h]
theorem K.ghost_some {κ : K} {n k : Nat} {l : Loc} (h : (κ.ghost n).rho k = some (some l)) : k ≠ n ∧ κ.rho k = some (some l) := by
  by_cases e : k = n
  · subst e; rw [K.ghost_same] at h; cases h
  · exact ⟨e, by rw [← K.ghost_ne κ e]; exact h⟩
theorem Step.empty (hs : Sim P κ m w) {n : Nat} (hm : m n = none) (hr : κ.rho n = none) (t : TypeId) : Step P κ m w (κ.ghost n) (m.set n (.cells true t [])) w := by
  have hle : κ.le (κ.ghost n) := K.le_ghost hr
  refine ⟨hle, ⟨hs.prot, ?_, fun k l h => hs.lt k l (K.ghost_some h).2, ?_, ?_⟩, Nat.le_refl _, fun _ _ _ => rfl, ?_, rfl, rfl, rfl, fun _ _ _ h => .inl h, fun k hk hk' => by
    have e : k ≠ n := fun e => hk (e ▸ hr)
    rw [Mem.set_ne _ _ e]; exact hk'⟩
  · intro k b hk
    by_cases e : k = n
    · subst e; rw [Mem.set_same] at hk; cases hk; exact .inr ⟨K.ghost_same .., t, rfl⟩
    · rw [Mem.set_ne _ _ e] at hk
      rcases hs.blk k b hk with ⟨l', h1, h2, h3⟩ | ⟨h1, h2⟩
      · exact .inl ⟨l', (K.ghost_ne _ e).trans h1, h2.mono hle, h3⟩
      · exact .inr ⟨(K.ghost_ne _ e).trans h1, h2⟩
  · intro k k' l1 l2 hne h1 h2 h3 h4
    obtain ⟨e, h3⟩ := K.ghost_some h3
    obtain ⟨e', h4⟩ := K.ghost_some h4
    rw [Mem.set_ne _ _ e] at h1
    rw [Mem.set_ne _ _ e'] at h2
    exact hs.excl k k' l1 l2 hne h1 h2 h3 h4
  · obtain ⟨N, hN⟩ := hs.fin
    refine ⟨max N (n + 1), fun k hk => ?_⟩
    have e : k ≠ n := by omega
    rw [Mem.set_ne _ _ e, K.ghost_ne _ e]
    exact hN k (by omega)
  · rintro c hc ⟨k, l', h1, h2, h3⟩
    obtain ⟨e, h1⟩ := K.ghost_some h1
    rw [Mem.set_ne _ _ e] at h2
    exact ⟨k, l', h1, h2, h3⟩
theorem Step.move {w' : World} (hs : Sim P κ m w) {n N : Nat} {l l' : Loc} (hm : m n ≠ none) (hl : κ.rho n = some (some l)) (hp : ∀ o, κ.prot l.blk o = none) (hN : m N = none) (hrN : κ.rho N = none)
    (hblk : l'.blk = l.blk) (hb : But w w' l.blk) (b : Blk) (hok : BlkOK P (κ.add N l') w' l' b) : Step P κ m w (κ.add N l') ((m.del n).set N b) w' := by
  have hle : κ.le (κ.add N l') := K.le_add hrN
  have heap : ∀ c, c < w.heap.size → c ≠ l.blk → w'.heap[c]? = w.heap[c]? := hb.blk
  refine ⟨hle, ⟨?_, ?_, ?_, ?_, ?_⟩, hb.size, ?_, ?_, hb.os, hb.tape, hb.output, fun _ _ _ h => .inl h, fun k hk hk' => by
    have e : k ≠ N := fun e => hk (e ▸ hrN)
    rw [Mem.set_ne _ _ e]; unfold Mem.del; split <;> first | rfl | exact hk'⟩
  · intro c o v h
    have hne : c ≠ l.blk := fun e => by rw [e] at h; have := hp o; rw [show (κ.add N l').prot l.blk o = κ.prot l.blk o from rfl, this] at h; cases h
    rw [cell_of_heap (heap c (hs.protLt h) hne)]
    exact hs.prot c o v h
  · intro k b' hk
    by_cases e : k = N
    · subst e
      rw [Mem.set_same] at hk; cases hk
      exact .inl ⟨l', K.add_same .., hok, fun o => by rw [hblk]; exact hp o⟩
    · rw [Mem.set_ne _ _ e] at hk
      have hkn : k ≠ n := fun e => by subst e; simp at hk
      have hk' : m k = some b' := Mem.del_sub m n k b' hk
      rcases hs.blk k b' hk' with ⟨l2, h1, h2, h3⟩ | ⟨h1, h2⟩
      · exact .inl ⟨l2, (K.add_ne _ _ e).trans h1, (h2.congr (heap _ h2.lt (hs.excl k n l2 l hkn (by rw [hk']; simp) hm h1 hl))).mono hle, h3⟩
      · exact .inr ⟨(K.add_ne _ _ e).trans h1, h2⟩
  · intro k l2 h
    by_cases e : k = N
    · subst e; rw [K.add_same] at h; cases h; exact hok.lt
    · rw [K.add_ne _ _ e] at h; exact Nat.lt_of_lt_of_le (hs.lt k l2 h) hb.size
  · intro k k' l1 l2 hne h1 h2 h3 h4
    by_cases e : k = N
    · subst e
      rw [K.add_same] at h3; cases h3
      have e' : k' ≠ k := Ne.symm hne
      rw [K.add_ne _ _ e'] at h4
      rw [Mem.set_ne _ _ e'] at h2
      have hkn : k' ≠ n := fun e => by subst e; simp at h2
      rw [hblk]
      exact fun e => hs.excl k' n l2 l hkn ((Mem.del_sub m n).live h2) hm h4 hl e.symm
    · rw [K.add_ne _ _ e] at h3
      rw [Mem.set_ne _ _ e] at h1
      have hkn : k ≠ n := fun e => by subst e; simp at h1
      by_cases e' : k' = N
      · subst e'
        rw [K.add_same] at h4; cases h4
        rw [hblk]
        exact hs.excl k n l1 l hkn ((Mem.del_sub m n).live h1) hm h3 hl
      · rw [K.add_ne _ _ e'] at h4
        rw [Mem.set_ne _ _ e'] at h2
        exact hs.excl k k' l1 l2 hne ((Mem.del_sub m n).live h1) ((Mem.del_sub m n).live h2) h3 h4
  · obtain ⟨M, hM⟩ := hs.fin
    refine ⟨max M (N + 1), fun k hk => ?_⟩
    have e : k ≠ N := by omega
    rw [K.add_ne _ _ e, Mem.set_ne _ _ e]
    refine ⟨(hM k (by omega)).1, ?_⟩
    unfold Mem.del; split
    · rfl
    · exact (hM k (by omega)).2
  · intro c hc hnb
    exact heap c hc fun e => hnb ⟨n, l, hl, hm, e.symm⟩
  · rintro c hc ⟨k, l2, h1, h2, h3⟩
    by_cases e : k = N
    · subst e; rw [K.add_same] at h1; cases h1
      exact ⟨n, l, hl, hm, by rw [← hblk]; exact h3⟩
    · rw [K.add_ne _ _ e] at h1
      rw [Mem.set_ne _ _ e] at h2
      exact ⟨k, l2, h1, (Mem.del_sub m n).live h2, h3⟩
theorem rels_append {a b : List AV} {ca cb : Array Value} (ha : Rels κ a ca) (hb : Rels κ b cb) : Rels κ (a ++ b) (ca ++ cb) := by
  refine ⟨by simp [ha.1, hb.1], fun i h h' => ?_⟩
  have e : a.length = ca.size := ha.1
  by_cases hi : i < a.length
  · rw [List.getElem_append_left hi, Array.getElem_append_left (by omega)]
    exact ha.2 _ _ _
  · rw [List.getElem_append_right (by omega), Array.getElem_append_right (by omega)]
    have := hb.2 (i - a.length) (by simp at h; omega) (by simp at h'; omega)
    simpa [e] using this
theorem append_fresh (hs : Sim P κ m w) {e : TypeId} {j : TI} {z : List AV} {t xt ty : TypeId} (hT : AppT P t xt e j z) {base : Option Addr} {sLen sCap : Nat} {cx : Value} {k : Nat} {src old : List AV} {news olds : Array Value}
    (hsrc : AppSrc P κ w xt e j cx k src news) (hold : (Builtin.firstCells j.size sLen (.slice base sLen sCap)).run P w.drew = .ok olds w.drew) (ho : Rels κ old olds) (hol : old.length = sLen * j.size)
    (hroom : sCap < sLen + k) (hsz : (sLen + k) * j.bytes ≤ 140737488355328) {N : Nat} (hN : m N = none) (hrN : κ.rho N = none) :
    ∃ cv w' κ', (Builtin.append_ #[t, xt] ty #[.slice base sLen sCap, cx]).run P w = .ok cv w' ∧ Step P κ m w κ' (m.set N (.cells true e (old ++ src))) w' ∧ Rel κ' (.sl N 0 (sLen + k) (sLen + k)) cv := by
  obtain ⟨cap, rest, g1, g2, g3⟩ := run_append_new (ty := ty) hT hsrc hold hroom hsz
  have hcell : P.cellsOf e = j.size := cellsOf_ti hT.elem
  have hst := new_cells (w' := w.drew.alloc (.cells (olds ++ news ++ rest) e)) hs hN hrN (opn := true) (t := e) (cs := old ++ src) (rels_append ho hsrc.rels) (cap - (sLen + k)) rest (fun h => by cases h) (by rw [hcell]; exact g2)
    (fz := (0, 0)) (fun i _ => by simp) ((But.drew w _).trans (But.alloc _ _ _)) (heap_alloc_new' w.drew _)
  refine ⟨_, _, _, g3, hst, ?_⟩
  refine .sl (K.add_same ..) (.inr ⟨?_, ?_⟩) (Nat.le_refl _) (.inr ⟨rfl, rfl⟩)
  · simp only [List.length_append, hol, hsrc.len, hcell]
    rw [Nat.add_mul]; omega
  · simp only; omega
def AppK (P : Program) (t xt : TypeId) (s x : AV) (m : Mem) (K : AV → Mem → Prop) : Prop :=
  ∃ e j z k src, AppT P t xt e j z ∧ srcB P m xt j z x = some (k, src) ∧
  ((∃ n off len bt cs, s = .sl n off len len ∧ m n = some (.cells true bt cs) ∧ (P.cellsOf bt = j.size ∧ (byteT P bt = true → byteT P e = true)) ∧ off + len * j.size = cs.length ∧ (len + k) * j.bytes ≤ 140737488355328 ∧
      ∀ N, m N = none → K (.sl N 0 (len + k) (len + k)) ((m.del n).set N (.cells true e (cs.drop off ++ src)))) ∨
   ((s = .val (.slice none 0 0) ∨ s = .vs [] true) ∧ k * j.bytes ≤ 140737488355328 ∧ ∀ N, m N = none → K (.sl N 0 k k) (m.set N (.cells true e src))) ∨
   (∃ es, s = .vs es true ∧ 0 < k ∧ (∀ e ∈ es, e.length = j.size) ∧ (es.length + k) * j.bytes ≤ 140737488355328 ∧ ∀ N, m N = none → K (.sl N 0 (es.length + k) (es.length + k)) (m.set N (.cells true e (es.flatten ++ src)))) ∨
   (∃ n off len cap opn bt cs, s = .sl n off len cap ∧ m n = some (.cells opn bt cs) ∧ len + k ≤ cap ∧ off + (len + k) * j.size ≤ cs.length ∧
      K (.sl n off (len + k) cap) (m.set n (.cells opn bt (setRange cs (off + len * j.size) src)))) ∨
   (∃ n off len cap bt cs, s = .sl n off len cap ∧ m n = some (.cells false bt cs) ∧ cap < len + k ∧ off + len * j.size ≤ cs.length ∧ (len + k) * j.bytes ≤ 140737488355328 ∧
      ∀ N, m N = none → K (.sl N 0 (len + k) (len + k)) (m.set N (.cells true e ((cs.drop off).take (len * j.size) ++ src)))))
theorem own_first (hs : Sim P κ m w) {n off len cap : Nat} {opn : Bool} {bt : TypeId} {cs : List AV} (hm : m n = some (.cells opn bt cs)) {s : Nat} (hfit : off + len * s ≤ cs.length) {cv : Value} (hx : Rel κ (.sl n off len cap) cv) :
    ∃ base cap', cv = .slice base len cap' ∧ ∃ olds, Rels κ ((cs.drop off).take (len * s)) olds ∧ ∀ w', Ext w w' → (Builtin.firstCells s len (.slice base len cap')).run P w' = .ok olds w' := by
  have hlen : ((cs.drop off).take (len * s)).length = len * s := by simp; omega
  cases hx with
  | snil => exact ⟨none, 0, rfl, #[], ⟨by simp, fun i h => by simp at h⟩, fun w' _ => rfl⟩
  | szero => exact ⟨_, 0, rfl, #[], ⟨by simp, fun i h => by simp at h⟩, fun w' _ => by simp [Builtin.firstCells, loadCells, loadCellsFrom]⟩
  | @sl _ _ _ _ cap' c' o' l q1 q2 q3 q4 =>
    refine ⟨_, cap', rfl, ?_⟩
    rcases hs.blk n _ hm with ⟨l', e1, e2, _⟩ | ⟨e1, _⟩
    · rw [q1] at e1; cases e1
      obtain ⟨arr, t', fz, z1, z2, z3, z4, z5, z6, z7⟩ := e2
      refine ⟨Array.ofFn fun q : Fin (len * s) => (arr[l.base + (off + q)]?).getD (.bool false), ⟨by simp [hlen], fun q h1 h2 => ?_⟩, fun w' hw => ?_⟩
      · rw [hlen] at h1
        obtain ⟨cv, y1, y2⟩ := z7 (off + q) (by omega)
        simp only [List.getElem_take, List.getElem_drop, Array.getElem_ofFn, y1, Option.getD_some]
        exact y2
      · simp only [Builtin.firstCells]
        rcases Nat.eq_zero_or_pos len with h0 | h0
        · subst h0; simp [loadCells, loadCellsFrom]
        · have ha : c' = l.blk ∧ o' = l.base + off := by
            rcases q4 with q4 | q4
            · rcases q2 with q2 | q2 <;> omega
            · exact q4
          obtain ⟨rfl, rfl⟩ := ha
          refine run_loadCells' (fun q => (arr[l.base + (off + q)]?).getD (.bool false)) (len * s) (fun q hq => hw.cell ?_)
          obtain ⟨cv, y1, y2⟩ := z7 (off + q) (by omega)
          simp only [World.cell?, z1, Nat.add_assoc, y1, Option.getD_some]
          rfl
    · rw [q1] at e1; cases e1
theorem news_one {s : Nat} {cx : Value} {k : Nat} {cs : List AV} {news : Array Value} (h : SrcOK P κ w s cx k cs news) : ∀ u ∈ news.toList, u.oneCell' = true := by
  intro u hu
  obtain ⟨i, hi, rfl⟩ := List.getElem_of_mem hu
  simp only [Array.length_toList] at hi
  have hi' : i < cs.length := by rw [h.rels.1]; exact hi
  exact ((h.rels.2 i hi' hi).one (List.all_eq_true.1 h.one _ (List.getElem_mem _))).1
theorem AppSrc.news_one {xt e : TypeId} {j : TI} {cx : Value} {k : Nat} {cs : List AV} {news : Array Value} (h : AppSrc P κ w xt e j cx k cs news) : ∀ u ∈ news.toList, u.oneCell' = true := by
  intro u hu
  obtain ⟨i, hi, rfl⟩ := List.getElem_of_mem hu
  simp only [Array.length_toList] at hi
  have hi' : i < cs.length := by rw [h.rels.1]; exact hi
  exact ((h.rels.2 i hi' hi).one (List.all_eq_true.1 h.one _ (List.getElem_mem _))).1
theorem appK_sound (hs : Sim P κ m w) {t xt ty : TypeId} {s x : AV} {K' : AV → Mem → Prop} (h : AppK P t xt s x m K') {cs cx : Value} (hcs : Rel κ s cs) (hcx : Rel κ x cx) :
    ∃ cv r m' κ' w', (Builtin.append_ #[t, xt] ty #[cs, cx]).run P w = .ok cv w' ∧ K' r m' ∧ Step P κ m w κ' m' w' ∧ Rel κ' r cv := by
  obtain ⟨e, j, z, k, src, hT, hsrcA, h⟩ := h
  obtain ⟨news, hsrc⟩ := srcB_sound hs hT hsrcA hcx
  obtain ⟨N, hrN, hN⟩ := hs.fresh
  have hcell : P.cellsOf e = j.size := cellsOf_ti hT.elem
  have nilish : ∀ (base : Option Addr), (∀ n off, Rel κ (.sl n off 0 0) (.slice base 0 0)) → k * j.bytes ≤ 140737488355328 →
      ∃ cv κ' w', (Builtin.append_ #[t, xt] ty #[.slice base 0 0, cx]).run P w = .ok cv w' ∧ Step P κ m w κ' (m.set N (.cells true e src)) w' ∧ Rel κ' (.sl N 0 k k) cv := by
    intro base hrel hsz
    rcases Nat.eq_zero_or_pos k with h0 | h0
    · subst h0
      have hl : src = [] := List.eq_nil_of_length_eq_zero (by rw [hsrc.len]; simp)
      subst hl
      have hn : news.toList = [] := List.eq_nil_of_length_eq_zero (by simp [← hsrc.rels.1])
      refine ⟨.slice base 0 0, κ.ghost N, w, ?_, Step.empty hs hN hrN e, (hrel N 0).mono (K.le_ghost hrN)⟩
      rw [run_append_in hT hsrc (by omega), hn]
      cases base <;> simp [storeCells]
    · obtain ⟨cv, w', κ', g1, g2, g3⟩ := append_fresh (ty := ty) (base := base) (sLen := 0) (sCap := 0) (old := []) (olds := #[]) hs hT hsrc (by cases base <;> simp [Builtin.firstCells, loadCells, loadCellsFrom]) ⟨rfl, fun i h => by simp at h⟩ (by simp) (by omega) (by simpa using hsz) hN hrN
      rw [Nat.zero_add] at g3
      exact ⟨cv, κ', w', g1, by simpa using g2, g3⟩
  rcases h with ⟨n, off, len, bt, bcs, rfl, hm, hbt, htip, hsz, hK⟩ | ⟨hnil, hsz, hK⟩ | ⟨es, rfl, hk, hes, hsz, hK⟩ | ⟨n, off, len, cap, opn, bt, bcs, rfl, hm, hroom, hfit, hK⟩ | ⟨n, off, len, cap, bt, bcs, rfl, hm, hroom, hfit, hsz, hK⟩
  · -- the tip of an open row
    have hdel : (m.del n).sub m := Mem.del_sub m n
    have hsub : ((m.del n).set N (.cells true e (bcs.drop off ++ src))).sub (m.set N (.cells true e (bcs.drop off ++ src))) := by
      intro q b hq
      by_cases eq : q = N
      · subst eq; rw [Mem.set_same] at hq ⊢; exact hq
      · rw [Mem.set_ne _ _ eq] at hq ⊢; exact hdel q b hq
    have hold0 : len = 0 → bcs.drop off = [] := fun h0 => by subst h0; simp at htip; simp [htip]
    have small : ∀ base, len = 0 → (∀ n off, Rel κ (.sl n off 0 0) (.slice base 0 0)) → cs = .slice base 0 0 → ∃ cv r m' κ' w', (Builtin.append_ #[t, xt] ty #[cs, cx]).run P w = .ok cv w' ∧ K' r m' ∧ Step P κ m w κ' m' w' ∧ Rel κ' r cv := by
      intro base h0 hrel hcv
      subst h0
      obtain ⟨cv, κ', w', g1, g2, g3⟩ := nilish base hrel (by simpa using hsz)
      refine ⟨cv, _, _, κ', w', by rw [hcv]; exact g1, hK N hN, ?_, by simpa using g3⟩
      have : Step P κ m w κ' (m.set N (.cells true e (bcs.drop off ++ src))) w' := by rw [hold0 rfl]; exact g2
      exact this.sub hsub
    have hcs2 := hcs
    cases hcs with
    | snil => exact small none rfl (fun _ _ => .snil) rfl
    | szero => exact small _ rfl (fun _ _ => .szero) rfl
    | @sl _ _ _ _ cap' c' o' l q1 q2 q3 q4 =>
      by_cases hc0 : cap' = 0
      · have : len = 0 := by rcases q2 with q2 | q2 <;> omega
        subst hc0
        exact small _ this (fun _ _ => .szero) (by rw [this])
      · obtain ⟨rfl, rfl⟩ := q4.resolve_left hc0
        rcases hs.blk n _ hm with ⟨l', e1, e2, e3⟩ | ⟨e1, _⟩
        · rw [q1] at e1; cases e1
          have e2' := e2
          obtain ⟨arr, t', fz, z1, z2, z3, z4, z5, z6, z7⟩ := e2
          have hls : l.size = j.size := (z6 rfl).trans hbt.1
          by_cases hroom : len + k ≤ cap'
          · -- within the capacity
            have hcap : cap' ≤ len + l.ext := by rcases q2 with q2 | q2 <;> omega
            have hnl : news.toList.length = k * j.size := by simp [← hsrc.rels.1, hsrc.len]
            have hmul : (len + l.ext) * j.size = len * j.size + l.ext * j.size := Nat.add_mul ..
            have hmul2 : (len + k) * j.size = len * j.size + k * j.size := Nat.add_mul ..
            have hmul3 : (len + k) * j.size ≤ (len + l.ext) * j.size := Nat.mul_le_mul_right _ (by omega)
            rw [hls] at z4
            obtain ⟨w', g1, g2, g3⟩ := run_storeCells' P l.blk t' fz (l.base + off + len * j.size) news.toList 0 arr w z1 (fun k hk => z2 k (.inl hk)) (by rw [hnl]; omega) hsrc.news_one
            refine ⟨.slice (some ⟨l.blk, l.base + off, none⟩) (len + k) cap', _, _, κ.add N ⟨l.blk, l.base + off, j.size, (len + k) * j.size, cap' - (len + k)⟩, w', ?_, hK N hN, ?_, ?_⟩
            · rw [run_append_in hT hsrc hroom]
              simp only [addr_plain]
              rw [g1]; rfl
            · refine Step.move (l' := ⟨l.blk, l.base + off, j.size, (len + k) * j.size, cap' - (len + k)⟩) hs (by rw [hm]; simp) q1 e3 hN hrN rfl g3 _ ?_
              refine ⟨_, t', fz, g2, ?_, ?_, ?_, fun h => by simp at h, fun _ => hcell.symm, ?_⟩
              · rw [overwrite_size]
                refine fun i hi => z2 i (hi.imp (fun q => q) fun hi => ⟨hi.1, ?_⟩)
                cases hbb : byteT P bt with
                | false => rfl
                | true => rw [hbt.2 hbb] at hi; cases hi.2
              · simp only [List.length_append, List.length_drop, hsrc.len]; omega
              · rw [overwrite_size]
                simp only
                have : (len + k) * j.size + (cap' - (len + k)) * j.size = cap' * j.size := by rw [← Nat.add_mul]; congr 1; omega
                have h2 : cap' * j.size ≤ (len + l.ext) * j.size := Nat.mul_le_mul_right _ hcap
                omega
              · intro i hi
                simp only [List.length_append, List.length_drop, hsrc.len] at hi
                have e := overwrite_get news.toList arr (l.base + off + len * j.size + 0) (by rw [hnl]; omega) (l.base + off + i)
                rw [hnl] at e
                by_cases hc : i < len * j.size
                · rw [if_neg (by omega)] at e
                  obtain ⟨cv, y1, y2⟩ := z7 (off + i) (by omega)
                  refine ⟨cv, by rw [← Nat.add_assoc] at y1; exact e.trans y1, ?_⟩
                  rw [List.getElem_append_left (by simp; omega)]
                  simp only [List.getElem_drop]
                  exact y2.mono (K.le_add hrN)
                · rw [if_pos (by omega)] at e
                  have i1 : i - len * j.size < src.length := by rw [hsrc.len]; omega
                  have i2 : i - len * j.size < news.size := by rw [← hsrc.rels.1]; exact i1
                  have i3 : l.base + off + i - (l.base + off + len * j.size + 0) = i - len * j.size := by omega
                  rw [i3, Array.getElem?_toList, Array.getElem?_eq_getElem i2] at e
                  refine ⟨_, e, ?_⟩
                  rw [List.getElem_append_right (by simp; omega)]
                  have i4 : i - (bcs.drop off).length = i - len * j.size := by simp; omega
                  simp only [i4]
                  exact (hsrc.rels.2 _ i1 i2).mono (K.le_add hrN)
            · exact .sl (K.add_same ..) (.inr ⟨by simp, by simp only; omega⟩) (Nat.le_refl _) (.inr ⟨rfl, rfl⟩)
          · obtain ⟨base, cap2, hcv, olds, ho1, ho2⟩ := own_first (s := j.size) hs hm (by omega) hcs2
            cases hcv
            have hdr : (bcs.drop off).take (len * j.size) = bcs.drop off := List.take_of_length_le (by simp; omega)
            rw [hdr] at ho1
            obtain ⟨cv, w', κ', g1, g2, g3⟩ := append_fresh (ty := ty) hs hT hsrc (ho2 w.drew (fun _ _ => rfl)) ho1 (by simp; omega) (by omega) hsz hN hrN
            exact ⟨cv, _, _, κ', w', g1, hK N hN, g2.sub hsub, g3⟩
        · rw [q1] at e1; cases e1
  · rcases hnil with rfl | rfl
    · obtain ⟨rfl, _⟩ := hcs.val_inv
      obtain ⟨cv, κ', w', g1, g2, g3⟩ := nilish none (fun _ _ => .snil) hsz
      exact ⟨cv, _, _, κ', w', g1, hK N hN, g2, g3⟩
    · cases hcs with
      | vnil =>
        obtain ⟨cv, κ', w', g1, g2, g3⟩ := nilish none (fun _ _ => .snil) hsz
        exact ⟨cv, _, _, κ', w', g1, hK N hN, g2, g3⟩
      | vz =>
        obtain ⟨cv, κ', w', g1, g2, g3⟩ := nilish _ (fun _ _ => .szero) hsz
        exact ⟨cv, _, _, κ', w', g1, hK N hN, g2, g3⟩
      | vs f q1 q2 q3 q4 q5 =>
        have : _ = 0 := q3 rfl
        subst this
        obtain ⟨cv, κ', w', g1, g2, g3⟩ := nilish _ (fun _ _ => .szero) hsz
        exact ⟨cv, _, _, κ', w', g1, hK N hN, g2, g3⟩
  · cases hcs with
    | vnil =>
      obtain ⟨cv, κ', w', g1, g2, g3⟩ := nilish none (fun _ _ => .snil) (by simpa using hsz)
      exact ⟨cv, _, _, κ', w', g1, hK N hN, by simpa using g2, by simpa using g3⟩
    | vz =>
      obtain ⟨cv, κ', w', g1, g2, g3⟩ := nilish _ (fun _ _ => .szero) (by simpa using hsz)
      exact ⟨cv, _, _, κ', w', g1, hK N hN, by simpa using g2, by simpa using g3⟩
    | @vs _ _ c o s cap f q1 q2 q3 q4 q5 =>
      have hcapeq : cap = es.length := q3 rfl
      obtain ⟨r1, r2⟩ := flatten_rels (κ := κ) hes f q5
      have hold : (Builtin.firstCells j.size es.length (.slice (some ⟨c, o, none⟩) es.length cap)).run P w.drew = .ok (Array.ofFn fun q : Fin (es.length * j.size) => f (q / j.size) (q % j.size)) w.drew := by
        simp only [Builtin.firstCells]
        refine run_loadCells' (fun q => f (q / j.size) (q % j.size)) (es.length * j.size) (fun q hq => ?_)
        have hi1 : q / j.size < es.length := by rw [Nat.div_lt_iff_lt_mul hT.pos]; exact hq
        have hs' : j.size = s := by rw [← hes _ (List.getElem_mem hi1), q1 _ (List.getElem_mem hi1)]
        have := q4 (q / j.size) (q % j.size) hi1 (by rw [← hs']; exact Nat.mod_lt _ hT.pos)
        rw [← hs', Nat.mul_comm (q / j.size) j.size, Nat.div_add_mod] at this
        exact hs.prot _ _ _ this
      obtain ⟨cv, w', κ', g1, g2, g3⟩ := append_fresh (ty := ty) (old := es.flatten) hs hT hsrc hold ⟨by simp [r1], fun q h1 h2 => by simpa using r2 q h1⟩ r1 (by omega) hsz hN hrN
      exact ⟨cv, _, _, κ', w', g1, hK N hN, g2, g3⟩
  · -- within the capacity that is known
    have run : ∀ base cap', cs = .slice base len cap' → len + k ≤ cap' → (k = 0 ∨ ∃ l, κ.rho n = some (some l) ∧ base = some ⟨l.blk, l.base + off, none⟩) → Rel κ (.sl n off (len + k) cap) (.slice base (len + k) cap') → ∃ cv r m' κ' w', (Builtin.append_ #[t, xt] ty #[cs, cx]).run P w = .ok cv w' ∧ K' r m' ∧ Step P κ m w κ' m' w' ∧ Rel κ' r cv := by
      intro base cap' hcv hr hb hrel
      rw [hcv, run_append_in hT hsrc hr]
      rcases hb with h0 | ⟨l, hl, hb⟩
      · subst h0
        have hl : src = [] := List.eq_nil_of_length_eq_zero (by rw [hsrc.len]; simp)
        subst hl
        have hn : news.toList = [] := List.eq_nil_of_length_eq_zero (by simp [← hsrc.rels.1])
        have hset : setRange bcs (off + len * j.size) [] = bcs := by simp [setRange]
        have hmm : m.set n (.cells opn bt (setRange bcs (off + len * j.size) [])) = m := by
          rw [hset]; funext q; unfold Mem.set; split
          · rename_i eq; rw [eq, hm]
          · rfl
        refine ⟨.slice base (len + 0) cap', _, _, κ, w, ?_, hK, by rw [hmm]; exact Step.refl hs, hrel⟩
        rw [hn]
        cases base <;> simp [storeCells]
      · subst hb
        have hmul2 : (len + k) * j.size = len * j.size + k * j.size := Nat.add_mul ..
        obtain ⟨w', g1, g2⟩ := store_cells hs hm hl (off := off + len * j.size) (vs := src) (by rw [hsrc.len]; omega) hsrc.rels hsrc.news_one
        refine ⟨_, _, _, κ, w', ?_, hK, g2, hrel⟩
        simp only [addr_plain]
        rw [Nat.add_assoc, g1]; rfl
    cases hcs with
    | snil => exact run none 0 rfl (by omega) (.inl (by omega)) (by have : k = 0 := by omega
                                                                    subst this; exact .snil)
    | szero => exact run _ 0 rfl (by omega) (.inl (by omega)) (by have : k = 0 := by omega
                                                                  subst this; exact .szero)
    | @sl _ _ _ _ cap' c' o' l q1 q2 q3 q4 =>
      have hcc : cap ≤ cap' := by rcases q2 with q2 | q2 <;> omega
      refine run _ cap' rfl (by omega) ?_ (.sl q1 q2 hroom q4)
      rcases q4 with q4 | ⟨rfl, rfl⟩
      · exact .inl (by omega)
      · exact .inr ⟨l, q1, rfl⟩
  · -- a closed row that is full
    obtain ⟨base, cap2, hcv, olds, ho1, ho2⟩ := own_first (s := j.size) hs hm hfit hcs
    have hcap2 : cap2 < len + k := by
      cases hcs with
      | snil => cases hcv; omega
      | szero => cases hcv; omega
      | @sl _ _ _ _ cap' c' o' l q1 q2 q3 q4 =>
        cases hcv
        rcases hs.blk n _ hm with ⟨l', e1, e2, _⟩ | ⟨e1, _⟩
        · rw [q1] at e1; cases e1
          obtain ⟨arr, t', fz, z1, z2, z3, z4, z5, z6, z7⟩ := e2
          have := z5 rfl
          rcases q2 with q2 | q2 <;> omega
        · rw [q1] at e1; cases e1
    subst hcv
    obtain ⟨cv, w', κ', g1, g2, g3⟩ := append_fresh (ty := ty) hs hT hsrc (ho2 w.drew (fun _ _ => rfl)) ho1 (by simp; omega) hcap2 hsz hN hrN
    exact ⟨cv, _, _, κ', w', g1, hK N hN, g2, g3⟩
end Go.Abs

set_option linter.unusedVariables false
set_option linter.unusedSimpArgs false
namespace Go.Abs
variable {P : Program}
def Fr (rd : Option Nat) : Fence := { Fence.wide with round := rd }
theorem Fr_depth (rd : Option Nat) {p : Prop} : (Fr rd).depth.isSome = true → p := fun h => by simp [Fr, Fence.wide] at h
def C (P : Program) (f : FuncId) (args : List AV) (m : Mem) (K' : AV → Mem → Prop) : Prop :=
  (∃ fn, P.funcs[f]? = some fn ∧ fn.body.isNone = false ∧ (fn.name == "runtime.NumGoroutine") = false) ∧
  ∀ κ w cargs, Sim P κ m w → Rels κ args cargs → CallsIn Fence.wide 0 P f cargs w fun e w' => ∃ cv r m' κ', e = .returned cv ∧ K' r m' ∧ Step P κ m w κ' m' w' ∧ Rel κ' r cv
def Y (P : Program) (n : Nat) (args : List AV) (m : Mem) (K' : AV → Mem → Prop) : Prop :=
  ∀ κ w l cargs, Sim P κ m w → κ.rho n = some (some l) → Rels κ args cargs → ∃ f tmps asg body, (Instr.yield l.blk cargs).run P w = .ok (.round l.blk f tmps asg body) w ∧
    RoundIn Fence.wide 0 P l.blk f tmps asg body w fun e w' => ∃ cv r m' κ', e = .returned cv ∧ K' r m' ∧ Step P κ m w κ' m' w' ∧ Rel κ' r cv
def CV (P : Program) (f : AV) (args : List AV) (m : Mem) (K' : AV → Mem → Prop) : Prop :=
  match f with
  | .fn (.func g) first caps => C P g (first ++ args ++ caps) m K'
  | .yld n => Y P n args m K'
  | _ => False
theorem C.mono {f : FuncId} {args : List AV} {m : Mem} {K' K'' : AV → Mem → Prop} (h : C P f args m K') (hk : ∀ r m', K' r m' → K'' r m') : C P f args m K'' :=
  ⟨h.1, fun κ w cargs hs hr => (h.2 κ w cargs hs hr).mono fun e w' ⟨cv, r, m', κ', a, b, c⟩ => ⟨cv, r, m', κ', a, hk _ _ b, c⟩⟩
theorem Y.mono {n : Nat} {args : List AV} {m : Mem} {K' K'' : AV → Mem → Prop} (h : Y P n args m K') (hk : ∀ r m', K' r m' → K'' r m') : Y P n args m K'' :=
  fun κ w l cargs hs hl hr => let ⟨f, t, a, b, h1, h2⟩ := h κ w l cargs hs hl hr; ⟨f, t, a, b, h1, h2.mono fun e w' ⟨cv, r, m', κ', a, b, c⟩ => ⟨cv, r, m', κ', a, hk _ _ b, c⟩⟩
theorem CV.mono {f : AV} {args : List AV} {m : Mem} {K' K'' : AV → Mem → Prop} (h : CV P f args m K') (hk : ∀ r m', K' r m' → K'' r m') : CV P f args m K'' := by
  unfold CV at *
  cases f with
  | fn g a b => cases g with
    | func g => exact C.mono h hk
    | _ => exact h.elim
  | yld n => exact Y.mono h hk
  | _ => exact h.elim
def chunk (s : Nat) : Nat → List AV → List (List AV)
  | 0, _ => []
  | n + 1, l => l.take s :: chunk s n (l.drop s)
theorem chunk_spec (s : Nat) : ∀ (n : Nat) (l : List AV), l.length = n * s → (chunk s n l).flatten = l ∧ (chunk s n l).length = n ∧ ∀ e ∈ chunk s n l, e.length = s
  | 0, l, h => by simp at h; subst h; exact ⟨rfl, rfl, fun e he => by simp [chunk] at he⟩
  | n + 1, l, h => by
    rw [Nat.add_mul] at h
    obtain ⟨h1, h2, h3⟩ := chunk_spec s n (l.drop s) (by simp; omega)
    refine ⟨by simp [chunk, h1], by simp [chunk, h2], fun e he => ?_⟩
    simp only [chunk, List.mem_cons] at he
    rcases he with rfl | he
    · simp; omega
    · exact h3 e he
def mkSliceA (P : Program) (t : TypeId) (l c : AV) : Option (TypeId × Nat × Nat × List AV) :=
  match ti P t, l, c with
  | some i, .val (.int _ a), .val (.int _ b) => match i.desc with
    | .slice e => match ti P e, zeroA P e with
      | some j, some z => if 0 ≤ a ∧ a ≤ b ∧ j.bytes * b ≤ 281474976710656 ∧ b ≤ 9223372036854775807 ∧ z.length = j.size ∧ 0 < j.size then some (e, a.toNat, b.toNat, (List.replicate b.toNat z).flatten) else none
      | _, _ => none
    | _ => none
  | _, _, _ => none
def truncA (k : Nat) : AV → AV
  | .vs es _ => .vs (es.take k) false
  | .sl n off len cap => .sl n off (min k len) cap
  | .val (.string b) => .val (.string (b.extract 0 k))
  | x => x
def lenS : AV → Option Nat
  | .vs es _ => some es.length
  | .sl _ _ len _ => some len
  | .val (.slice none 0 0) => some 0
  | .val (.string b) => some b.size
  | _ => none
def copyA (P : Program) (m : Mem) (t xt : TypeId) (d x : AV) : Option (Nat × Mem) :=
  match ti P t with
  | some i => match i.desc with
    | .slice e => match ti P e with
      | some j => match d, lenS x with
        | .sl n off len _, some k => if min k len = 0 then some (0, m) else match m n, srcA P m xt j.size (truncA (min k len) x) with
          | some (.cells opn bt cs), some (_, src) => if off + len * j.size ≤ cs.length then some (min k len, m.set n (.cells opn bt (setRange cs off src))) else none
          | _, _ => none
        | .val (.slice none 0 0), some _ => some (0, m)
        | _, _ => none
      | none => none
    | _ => none
  | none => none
def capA (P : Program) (m : Mem) (t : TypeId) (x : AV) : Option AV :=
  match ti P t with
  | some i => match i.desc, x with
    | .slice _, .sl n _ _ cap => match m n with
      | some (.cells false _ _) => some (.val (.int .i64 cap))
      | _ => none
    | .slice _, .val (.slice none 0 0) => some (.val (.int .i64 0))
    | .slice _, .vs es true => some (.val (.int .i64 es.length))
    | _, _ => none
  | none => none
def clearA (P : Program) (m : Mem) (t : TypeId) (x : AV) : Option Mem :=
  match ti P t with
  | some i => match i.desc with
    | .slice e => match zeroA P e with
      | some z => match x with
        | .sl n off len _ => if len = 0 then some m else match m n with
          | some (.cells opn bt cs) => if 0 < z.length ∧ off + len * z.length ≤ cs.length then some (m.set n (.cells opn bt (setRange cs off (List.replicate len z).flatten))) else none
          | _ => none
        | _ => none
      | none => none
    | _ => none
  | none => none
def nilAny (P : Program) (op : BinOp) (t : TypeId) (x y : AV) : Prop :=
  (op = .eql ∨ op = .neq) ∧ (∃ i e, ti P t = some i ∧ i.desc = .slice e) ∧ (y = .val (.slice none 0 0)) ∧ ((∃ es ex, x = .vs es ex) ∨ ∃ n off len cap, x = .sl n off len cap)
def X (P : Program) (f : FuncId) (args : List AV) (m : Mem) (K' : AV → Mem → Prop) : Prop :=
  ∃ fn e, P.funcs[f]? = some fn ∧ (fn.name == "runtime.NumGoroutine") = false ∧ fn.body.isNone = true ∧ Extern.findNext fn = none ∧ Extern.find fn = some e ∧
    ∀ κ w cargs, Sim P κ m w → Rels κ args cargs → ∃ cv w' r m' κ', (e cargs).run P w = .ok cv w' ∧ K' r m' ∧ Step P κ m w κ' m' w' ∧ Rel κ' r cv
theorem X.mono {f : FuncId} {args : List AV} {m : Mem} {K' K'' : AV → Mem → Prop} (h : X P f args m K') (hk : ∀ r m', K' r m' → K'' r m') : X P f args m K'' := by
  obtain ⟨fn, e, a, b, c, d, g, h⟩ := h
  exact ⟨fn, e, a, b, c, d, g, fun κ w cargs hs hr => let ⟨cv, w', r, m', κ', h1, h2, h3⟩ := h κ w cargs hs hr; ⟨cv, w', r, m', κ', h1, hk _ _ h2, h3⟩⟩
def CC (P : Program) (f : FuncId) (args : List AV) (m : Mem) (K' : AV → Mem → Prop) : Prop := C P f args m K' ∨ X P f args m K'
def CW (P : Program) (f : AV) (args : List AV) (m : Mem) (K' : AV → Mem → Prop) : Prop :=
  match f with
  | .fn (.func g) first caps => CC P g (first ++ args ++ caps) m K'
  | .yld n => Y P n args m K'
  | _ => False
theorem CC.mono {f : FuncId} {args : List AV} {m : Mem} {K' K'' : AV → Mem → Prop} (h : CC P f args m K') (hk : ∀ r m', K' r m' → K'' r m') : CC P f args m K'' := h.imp (fun h => h.mono hk) (fun h => h.mono hk)
theorem CW.mono {f : AV} {args : List AV} {m : Mem} {K' K'' : AV → Mem → Prop} (h : CW P f args m K') (hk : ∀ r m', K' r m' → K'' r m') : CW P f args m K'' := by
  unfold CW at *
  cases f with
  | fn g a b => cases g with
    | func g => exact CC.mono h hk
    | _ => exact h.elim
  | yld n => exact Y.mono h hk
  | _ => exact h.elim
theorem nilAny_sound {κ : K} {op : BinOp} {t : TypeId} {x y : AV} (h : nilAny P op t x y) {cx cy : Value} (hx : Rel κ x cx) (hy : Rel κ y cy) (A B : Operand) :
    ∃ b, ∀ w, (do eqGuard op t A B cx cy; binOp op t cx cy : Sem Value).run P w = .ok (.bool b) w := by
  obtain ⟨hop, ⟨i, e, hi, hd⟩, rfl, hx'⟩ := h
  obtain ⟨rfl, _⟩ := hy.val_inv
  have key : P.underlying t = some (.slice e) := (ti_spec hi).1.trans (by rw [hd])
  have shape : (∃ l c, cx = .slice none l c) ∨ ∃ a l c, cx = .slice (some a) l c := by
    rcases hx' with ⟨es, ex, rfl⟩ | ⟨n, off, len, cap, rfl⟩ <;> cases hx <;> first | exact .inl ⟨_, _, rfl⟩ | exact .inr ⟨_, _, _, rfl⟩
  rcases shape with ⟨l, c, rfl⟩ | ⟨a, l, c, rfl⟩
  · have he : ∀ w, (Op.equal t (.slice none l c) (.slice none 0 0)).run P w = .ok true w := fun w => by
      refine run_equal_of _ _ _ ?_; rw [Op.equalIn, Sem.run_bind, run_underlying key]; rfl
    rcases hop with rfl | rfl
    · refine ⟨true, fun w => ?_⟩
      simp only [Sem.run_bind, eqGuard_at_slice, Sem.run_pure, Result.andThen_ok]
      show ((Op.equal t (.slice none l c) (.slice none 0 0)) >>= fun b => pure (Value.bool b)).run P w = _
      rw [Sem.run_bind, he w]; rfl
    · refine ⟨false, fun w => ?_⟩
      simp only [Sem.run_bind, eqGuard_at_slice, Sem.run_pure, Result.andThen_ok]
      show ((Op.equal t (.slice none l c) (.slice none 0 0)) >>= fun b => pure (Value.bool (!b))).run P w = _
      rw [Sem.run_bind, he w]; rfl
  · have he : ∀ w, (Op.equal t (.slice (some a) l c) (.slice none 0 0)).run P w = .ok false w := fun w => by
      refine run_equal_of _ _ _ ?_; rw [Op.equalIn, Sem.run_bind, run_underlying key]; rfl
    rcases hop with rfl | rfl
    · refine ⟨false, fun w => ?_⟩
      simp only [Sem.run_bind, eqGuard_at_slice, Sem.run_pure, Result.andThen_ok]
      show ((Op.equal t (.slice (some a) l c) (.slice none 0 0)) >>= fun b => pure (Value.bool b)).run P w = _
      rw [Sem.run_bind, he w]; rfl
    · refine ⟨true, fun w => ?_⟩
      simp only [Sem.run_bind, eqGuard_at_slice, Sem.run_pure, Result.andThen_ok]
      show ((Op.equal t (.slice (some a) l c) (.slice none 0 0)) >>= fun b => pure (Value.bool (!b))).run P w = _
      rw [Sem.run_bind, he w]; rfl
theorem trunc_rel {κ : K} {x : AV} {cx : Value} (hx : Rel κ x cx) {k : Nat} (hl : lenS x = some k) {q : Nat} (hq : q ≤ k) :
    ∃ cx', Rel κ (truncA q x) cx' ∧ lenS (truncA q x) = some q ∧ (∀ w, (Builtin.lenOf cx).run P w = .ok k w) ∧ ∀ s w, (Builtin.firstCells s q cx).run P w = (Builtin.firstCells s q cx').run P w := by
  unfold lenS at hl
  split at hl
  · rename_i es ex
    cases hl
    cases hx with
    | vnil => exact ⟨.slice none 0 0, by simpa [truncA] using Rel.vnil, by simp at hq; simp [truncA, lenS, hq], fun w => rfl, fun s w => rfl⟩
    | @vz _ a => exact ⟨.slice (some a) 0 0, by simpa [truncA] using Rel.vz, by simp at hq; simp [truncA, lenS, hq], fun w => rfl, fun s w => rfl⟩
    | @vs _ _ c o s cap f q1 q2 q3 q4 q5 =>
      have hlen : (es.take q).length = q := by simp; omega
      refine ⟨.slice (some ⟨c, o, none⟩) q cap, ?_, by simp [truncA, lenS]; omega, fun w => rfl, fun s w => rfl⟩
      have := @Rel.vs κ (es.take q) false c o s cap f (fun e he => q1 e (List.mem_of_mem_take he)) (by rw [hlen]; omega) (fun h => by cases h)
        (fun i j hi hj => q4 i j (by rw [hlen] at hi; omega) hj) (fun i hi j hj => by
          simp only [List.getElem_take] at hj ⊢
          exact q5 i (by rw [hlen] at hi; omega) j hj)
      rw [hlen] at this
      exact this
  · rename_i n off len cap
    cases hl
    cases hx with
    | snil =>
      have : q = 0 := by omega
      subst this
      exact ⟨.slice none 0 0, .snil, by simp [truncA, lenS], fun w => rfl, fun s w => rfl⟩
    | @szero _ _ a =>
      have : q = 0 := by omega
      subst this
      exact ⟨.slice (some a) 0 0, .szero, by simp [truncA, lenS], fun w => rfl, fun s w => rfl⟩
    | @sl _ _ _ _ cap' c' o' l q1 q2 q3 q4 =>
      refine ⟨.slice (some ⟨c', o', none⟩) q cap', ?_, by simp [truncA, lenS]; omega, fun w => rfl, fun s w => rfl⟩
      simp only [truncA, Nat.min_eq_left hq]
      exact .sl q1 q2 (by omega) q4
  · cases hl
    obtain ⟨rfl, _⟩ := hx.val_inv
    have : q = 0 := by omega
    subst this
    exact ⟨_, .val rfl, rfl, fun w => rfl, fun s w => rfl⟩
  · rename_i b
    cases hl
    obtain ⟨rfl, _⟩ := hx.val_inv
    refine ⟨.string (b.extract 0 q), .val rfl, ?_, fun w => rfl, fun s w => ?_⟩
    · simp only [truncA, lenS, ByteArray.size_extract]; congr 1; omega
    · have : (b.extract 0 q).extract 0 q = b.extract 0 q := by
        have h := @ByteArray.extract_zero_size (b.extract 0 q)
        rwa [show (b.extract 0 q).size = q by rw [ByteArray.size_extract]; omega] at h
      simp only [Builtin.firstCells, this]
  · cases hl
theorem srcA_len {κ : K} {m : Mem} {w : World} (hs : Sim P κ m w) {xt : TypeId} {s : Nat} {x : AV} {k : Nat} {cs : List AV} (h : srcA P m xt s x = some (k, cs)) {q : Nat} (hl : lenS x = some q) : k = q := by
  unfold srcA at h
  split at h
  · split at h
    · split at h
      · cases h; simpa [lenS] using hl
      · cases h
    · cases h; simpa [lenS] using hl
    · split at h
      · split at h
        · cases h; simpa [lenS] using hl
        · cases h
      · cases h
    · split at h
      · cases h; simpa [lenS] using hl
      · cases h
    · cases h
  · cases h
theorem clearA_sound {κ : K} {m : Mem} {w : World} (hs : Sim P κ m w) {t ty : TypeId} {x : AV} {m' : Mem} (h : clearA P m t x = some m') {cx : Value} (hx : Rel κ x cx) :
    ∃ w', (Builtin.clear_ #[t] ty #[cx]).run P w = .ok (.tuple #[]) w' ∧ Step P κ m w κ m' w' := by
  unfold clearA at h
  split at h
  · rename_i i hi
    split at h
    · rename_i e hde
      have hu := run_underlying' (w := w) hi
      split at h
      · rename_i z hz
        obtain ⟨zv, z1, z2, z3⟩ := zeroA_sound (κ := κ) hz
        split at h
        · rename_i n off len cap
          split at h
          · rename_i h0
            cases h
            refine ⟨w, ?_, Step.refl hs⟩
            have hcx : ∃ base cap', cx = .slice base 0 cap' := by
              subst h0
              cases hx with
              | snil => exact ⟨_, _, rfl⟩
              | szero => exact ⟨_, _, rfl⟩
              | sl => exact ⟨_, _, rfl⟩
            obtain ⟨base, cap', rfl⟩ := hcx
            simp only [Builtin.clear_, List.getElem?_toArray, List.getElem?_cons_zero, Sem.run_bind, hu, hde, Result.andThen_ok]
            cases base <;> simp [Sem.run_pure]
          · rename_i hne
            split at h
            · rename_i opn bt cs hm
              split at h
              · rename_i hfit
                cases h
                have hsz := z2.1
                have hz2 : Rels κ (List.replicate len z).flatten (Builtin.zeroCells zv.cells len) := by
                  have q := rels_zeros z2 hfit.1 len
                  rw [hsz] at q
                  exact q
                have hlen : (List.replicate len z).flatten.length = len * z.length := by simp
                have hone : ∀ u ∈ (Builtin.zeroCells zv.cells len).toList, u.oneCell' = true := fun u hu' => by
                  unfold Builtin.zeroCells at hu'
                  rw [Array.mem_toList_iff, Array.mem_map] at hu'
                  obtain ⟨q, _, rfl⟩ := hu'
                  have hq : q % zv.cells.size < zv.cells.size := Nat.mod_lt _ (by rw [← hsz]; exact hfit.1)
                  rw [getElem!_pos zv.cells _ hq]
                  exact z3 _ (by simp)
                cases hx with
                | snil => exact absurd rfl hne
                | szero => exact absurd rfl hne
                | @sl _ _ _ _ cap2 c' o' l q1 q2 q3 q4 =>
                  have ha : c' = l.blk ∧ o' = l.base + off := by
                    rcases q4 with q4 | q4
                    · rcases q2 with q2 | q2 <;> omega
                    · exact q4
                  obtain ⟨rfl, rfl⟩ := ha
                  obtain ⟨w', g1, g2⟩ := store_cells hs hm q1 (by rw [hlen]; exact hfit.2) hz2 hone
                  refine ⟨w', ?_, g2⟩
                  obtain ⟨len', rfl⟩ : ∃ k, len = k + 1 := ⟨len - 1, by omega⟩
                  simp only [Builtin.clear_, List.getElem?_toArray, List.getElem?_cons_zero, Sem.run_bind, hu, hde, Result.andThen_ok, z1, g1, Sem.run_pure]
              · cases h
            · cases h
        · cases h
      · cases h
    · cases h
  · cases h
theorem copyA_sound {κ : K} {m : Mem} {w : World} (hs : Sim P κ m w) {t xt ty : TypeId} {d x : AV} {k : Nat} {m' : Mem} (h : copyA P m t xt d x = some (k, m')) {cd cx : Value} (hd : Rel κ d cd) (hx : Rel κ x cx) :
    ∃ w', (Builtin.copy_ #[t, xt] ty #[cd, cx]).run P w = .ok (.int .i64 k) w' ∧ Step P κ m w κ m' w' := by
  unfold copyA at h
  split at h
  · rename_i i hi
    split at h
    · rename_i e hde
      split at h
      · rename_i j hj
        have hu := run_underlying' (w := w) hi
        split at h
        · rename_i n off len cap kx hlx
          have hcd : ∃ base cap', cd = .slice base len cap' := by
            cases hd with
            | snil => exact ⟨_, _, rfl⟩
            | szero => exact ⟨_, _, rfl⟩
            | sl => exact ⟨_, _, rfl⟩
          have hmin : Nat.min kx len = min kx len := rfl
          obtain ⟨base, cap', hcd⟩ := hcd
          obtain ⟨cx', x1, x2, x3, x4⟩ := trunc_rel (P := P) hx hlx (q := min kx len) (Nat.min_le_left _ _)
          split at h
          · rename_i h0
            cases h
            refine ⟨w, ?_, Step.refl hs⟩
            rw [h0] at x4
            have first : ∀ s, (Builtin.firstCells s 0 cx).run P w = .ok #[] w := fun s => by
              have : ∃ y, cx = .string y ∨ ∃ a l c, cx = .slice a l c := by
                unfold lenS at hlx
                split at hlx
                · cases hx <;> exact ⟨.empty, .inr ⟨_, _, _, rfl⟩⟩
                · cases hx <;> exact ⟨.empty, .inr ⟨_, _, _, rfl⟩⟩
                · obtain ⟨rfl, _⟩ := hx.val_inv; exact ⟨.empty, .inr ⟨_, _, _, rfl⟩⟩
                · obtain ⟨rfl, _⟩ := hx.val_inv; exact ⟨_, .inl rfl⟩
                · cases hlx
              obtain ⟨y, rfl | ⟨a, l, c, rfl⟩⟩ := this
              · simp [Builtin.firstCells]
              · cases a with
                | none => rfl
                | some a => simp [Builtin.firstCells, loadCells, loadCellsFrom]
            subst hcd
            simp only [Builtin.copy_, List.getElem?_toArray, List.getElem?_cons_zero, List.getElem?_cons_succ, Sem.run_bind, hu, hde, Result.andThen_ok, x3 w, hmin, h0, run_sizeOf hj, first, Sem.run_pure]
            cases base <;> rfl
          · rename_i hne
            split at h
            · rename_i opn bt cs q src hm hsrc
              split at h
              · rename_i hfit
                cases h
                obtain ⟨news, hok⟩ := srcA_sound hs hsrc x1
                have hqk : q = min kx len := srcA_len hs hsrc x2
                subst hqk
                have hslen := hok.len
                have hfit2 : off + src.length ≤ cs.length := by
                  rw [hslen]
                  have : min kx len * j.size ≤ len * j.size := Nat.mul_le_mul_right _ (Nat.min_le_right _ _)
                  omega
                have first : (Builtin.firstCells j.size (min kx len) cx).run P w = .ok news w := (x4 _ _).trans (hok.first w (Ext.refl w))
                have hone := news_one hok
                cases hd with
                | snil => simp at hne
                | szero => simp at hne
                | @sl _ _ _ _ cap2 c' o' l q1 q2 q3 q4 =>
                  have ha : c' = l.blk ∧ o' = l.base + off := by
                    rcases q4 with q4 | q4
                    · rcases q2 with q2 | q2 <;> omega
                    · exact q4
                  obtain ⟨rfl, rfl⟩ := ha
                  obtain ⟨w', g1, g2⟩ := store_cells hs hm q1 hfit2 hok.rels hone
                  refine ⟨w', ?_, g2⟩
                  simp only [Builtin.copy_, List.getElem?_toArray, List.getElem?_cons_zero, List.getElem?_cons_succ, Sem.run_bind, hu, hde, Result.andThen_ok, x3 w, hmin, run_sizeOf hj, first, g1, Sem.run_pure]
                  rfl
              · cases h
            · cases h
        · rename_i kx hlx
          cases h
          obtain ⟨rfl, _⟩ := hd.val_inv
          obtain ⟨cx', x1, x2, x3, x4⟩ := trunc_rel (P := P) hx hlx (q := 0) (Nat.zero_le _)
          refine ⟨w, ?_, Step.refl hs⟩
          have hmin : Nat.min kx 0 = 0 := Nat.min_zero _
          have first : ∀ s, ∃ z, (Builtin.firstCells s 0 cx).run P w = .ok z w := fun s => by
            have : ∃ y, cx = .string y ∨ ∃ a l c, cx = .slice a l c := by
              unfold lenS at hlx
              split at hlx
              · cases hx <;> exact ⟨.empty, .inr ⟨_, _, _, rfl⟩⟩
              · cases hx <;> exact ⟨.empty, .inr ⟨_, _, _, rfl⟩⟩
              · obtain ⟨rfl, _⟩ := hx.val_inv; exact ⟨.empty, .inr ⟨_, _, _, rfl⟩⟩
              · obtain ⟨rfl, _⟩ := hx.val_inv; exact ⟨_, .inl rfl⟩
              · cases hlx
            obtain ⟨y, rfl | ⟨a, l, c, rfl⟩⟩ := this
            · exact ⟨_, rfl⟩
            · cases a with
              | none => exact ⟨_, rfl⟩
              | some a => exact ⟨#[], by simp [Builtin.firstCells, loadCells, loadCellsFrom]⟩
          obtain ⟨z, hz⟩ := first j.size
          simp only [Builtin.copy_, List.getElem?_toArray, List.getElem?_cons_zero, List.getElem?_cons_succ, Sem.run_bind, hu, hde, Result.andThen_ok, x3 w, hmin, run_sizeOf hj, hz, Sem.run_pure]
          rfl
        · cases h
      · cases h
    · cases h
  · cases h
theorem capA_sound {κ : K} {m : Mem} {w : World} (hs : Sim P κ m w) {t ty : TypeId} {x r : AV} (h : capA P m t x = some r) {cx : Value} (hx : Rel κ x cx) : ∃ cv, Rel κ r cv ∧ (Builtin.cap_ #[t] ty #[cx]).run P w = .ok cv w := by
  unfold capA at h
  split at h
  · rename_i i hi
    have hu := run_underlying' (w := w) hi
    split at h
    · rename_i e n off len cap hd
      split at h
      · rename_i bt cs hm
        cases h
        have hcx : ∃ a l, cx = .slice a l cap := by
          cases hx with
          | snil => exact ⟨_, _, rfl⟩
          | szero => exact ⟨_, _, rfl⟩
          | @sl _ _ _ _ cap' c' o' l q1 q2 q3 q4 =>
            rcases hs.blk n _ hm with ⟨l', e1, e2, _⟩ | ⟨e1, _⟩
            · rw [q1] at e1; cases e1
              obtain ⟨arr, t', fz, z1, z2, z3, z4, z5, z6, z7⟩ := e2
              have h0 := z5 rfl
              have : cap' = cap := by rcases q2 with q2 | q2 <;> omega
              subst this
              exact ⟨_, _, rfl⟩
            · rw [q1] at e1; cases e1
        obtain ⟨a, l, rfl⟩ := hcx
        refine ⟨_, .val rfl, ?_⟩
        simp only [Builtin.cap_, List.getElem?_toArray, List.getElem?_cons_zero, Sem.run_bind, hu, hd, Result.andThen_ok]
        rfl
      · cases h
    · rename_i e hd
      cases h
      obtain ⟨rfl, _⟩ := hx.val_inv
      refine ⟨_, .val rfl, ?_⟩
      simp only [Builtin.cap_, List.getElem?_toArray, List.getElem?_cons_zero, Sem.run_bind, hu, hd, Result.andThen_ok]
      rfl
    · rename_i e es hd
      cases h
      refine ⟨_, .val rfl, ?_⟩
      have hcx : ∃ a l, cx = .slice a l es.length := by
        cases hx with
        | vnil => exact ⟨_, _, rfl⟩
        | vz => exact ⟨_, _, rfl⟩
        | vs f q1 q2 q3 => exact ⟨_, _, by rw [q3 rfl]⟩
      obtain ⟨a, l, rfl⟩ := hcx
      simp only [Builtin.cap_, List.getElem?_toArray, List.getElem?_cons_zero, Sem.run_bind, hu, hd, Result.andThen_ok]
      rfl
    · cases h
  · cases h
def byteC (b : UInt8) : List AV := [.val (.int .u8 b.toNat)]
def bytesE (b : ByteArray) : List (List AV) := b.data.toList.map byteC
def textB (P : Program) (s d : TypeId) (x : AV) : Option ByteArray :=
  match ti P s, ti P d, x with
  | some i, some j, .val (.string b) => match i.desc, j.desc with
    | .string, .slice e => match ti P e with
      | some q => match q.desc with
        | .int .u8 => some b
        | _ => none
      | none => none
    | _, _ => none
  | _, _, _ => none
theorem textB_sound {κ : K} {m : Mem} {w : World} (hs : Sim P κ m w) {s d : TypeId} {x : AV} {b : ByteArray} (h : textB P s d x = some b) {cv : Value} (hx : Rel κ x cv) :
    ∃ v w' κ', (convert s d cv).run P w = .ok v w' ∧ Step P κ m w κ' m w' ∧ Rel κ' (.vs (bytesE b) false) v := by
  unfold textB at h
  split at h
  · rename_i i j b' hi hj
    split at h
    · rename_i e hid hjd
      split at h
      · rename_i q hq
        split at h
        · rename_i hqd
          cases h
          obtain ⟨rfl, _⟩ := hx.val_inv
          have hrun := run_bytes_of_string w s d e b ((ti_spec hi).1.trans (by rw [hid])) ((ti_spec hj).1.trans (by rw [hjd])) ((ti_spec hq).1.trans (by rw [hqd]))
          generalize hcap : grownCap w b.size 0 e = cap at hrun
          have hle : b.size ≤ cap := by rw [← hcap]; exact grownCap_ge w b.size 0 e
          have hbut : But w (w.drew.alloc (.cells (bytesRow b cap) e ((bytesRow b cap).size, (bytesRow b cap).size + 1))) w.heap.size := (But.drew w _).trans (But.alloc w.drew _ _)
          have hnew : ∀ o v, (bytesRow b cap)[o]? = some v → (w.drew.alloc (.cells (bytesRow b cap) e ((bytesRow b cap).size, (bytesRow b cap).size + 1))).cell? ⟨w.heap.size, o, none⟩ = some v := fun o v h => by
            have := heap_alloc_new' w.drew (.cells (bytesRow b cap) e ((bytesRow b cap).size, (bytesRow b cap).size + 1))
            have hsz : w.drew.heap.size = w.heap.size := rfl
            rw [hsz] at this
            simp only [World.cell?, this]
            simpa using h
          have hst := Step.protect hs (c := w.heap.size) (f := fun o => (bytesRow b cap)[o]?) hbut (Nat.le_refl _) hnew
          refine ⟨_, _, _, hrun, hst, ?_⟩
          have hsize : b.size = b.data.size := rfl
          have hlen : (bytesE b).length = b.size := by unfold bytesE; rw [List.length_map, Array.length_toList, hsize]
          have hat : ∀ k, k < b.size → (bytesRow b cap)[k]? = some (.int .u8 ((b.data[k]?.getD 0).toNat : Int)) := fun k hk => by
            unfold bytesRow
            rw [Array.getElem?_append_left (by simpa using hk), Array.getElem?_map]
            have : k < b.data.size := hk
            rw [Array.getElem?_eq_getElem this]
            rfl
          rw [← hlen]
          refine .vs (s := 1) (fun k _ => .int .u8 ((b.data[k]?.getD 0).toNat : Int)) (fun x hx => ?_) (by omega) (fun h => by cases h) (fun k j hk hj => ?_) (fun k hk j hj => ?_)
          · obtain ⟨y, _, rfl⟩ := List.mem_map.1 hx; rfl
          · rw [hlen] at hk
            have : j = 0 := by omega
            subst this
            simp only [Nat.mul_one, Nat.add_zero, Nat.zero_add]
            exact K.protect_same _ (hat k hk)
          · have hk' : k < b.data.size := by rw [hlen] at hk; exact hk
            have e1 : (bytesE b)[k] = byteC b.data[k] := by
              have h0 : (b.data.toList.map byteC)[k]? = some (byteC b.data[k]) := by rw [List.getElem?_map, Array.getElem?_toList, Array.getElem?_eq_getElem hk']; rfl
              exact (List.getElem?_eq_some_iff.1 h0).2
            have hj0 : j = 0 := by
              have : j < (byteC b.data[k]).length := by rw [← e1]; exact hj
              exact Nat.lt_one_iff.1 this
            subst hj0
            have e2 : (bytesE b)[k][0] = .val (.int .u8 (b.data[k].toNat : Int)) := by
              have : ∀ (l : List AV) (h : 0 < l.length), l = byteC b.data[k] → l[0] = .val (.int .u8 (b.data[k].toNat : Int)) := fun l h e => by subst e; rfl
              exact this _ _ e1
            rw [e2]
            simp only [Array.getElem?_eq_getElem hk', Option.getD_some]
            exact .val rfl
        · cases h
      · cases h
    · cases h
  · cases h
def textT (P : Program) (s d : TypeId) (x : AV) : Option (ByteArray × TypeId) :=
  match ti P s, ti P d, x with
  | some i, some j, .val (.string b) => match i.desc, j.desc with
    | .string, .slice e => match ti P e with
      | some q => match q.desc with
        | .int .u8 => if P.cellsOf e = 1 then some (b, e) else none
        | _ => none
      | none => none
    | _, _ => none
  | _, _, _ => none
theorem textT_sound {κ : K} {m : Mem} {w : World} (hs : Sim P κ m w) {s d : TypeId} {x : AV} {b : ByteArray} {e : TypeId} (h : textT P s d x = some (b, e)) {cv : Value} (hx : Rel κ x cv) {N : Nat} (hN : m N = none) (hrN : κ.rho N = none) :
    ∃ v w' κ', (convert s d cv).run P w = .ok v w' ∧ Step P κ m w κ' (m.set N (.cells true e (bytesE b).flatten)) w' ∧ Rel κ' (.sl N 0 b.size b.size) v := by
  unfold textT at h
  split at h
  · rename_i i j b' hi hj
    split at h
    · rename_i e' hid hjd
      split at h
      · rename_i q hq
        split at h
        · rename_i hqd
          split at h
          · rename_i hce
            cases h
            obtain ⟨rfl, _⟩ := hx.val_inv
            have hue := (ti_spec hq).1.trans (by rw [hqd])
            have hrun := run_bytes_of_string w s d e b ((ti_spec hi).1.trans (by rw [hid])) ((ti_spec hj).1.trans (by rw [hjd])) hue
            generalize hcap : grownCap w b.size 0 e = cap at hrun
            have hle : b.size ≤ cap := by rw [← hcap]; exact grownCap_ge w b.size 0 e
            have hbut : But w (w.drew.alloc (.cells (bytesRow b cap) e ((bytesRow b cap).size, (bytesRow b cap).size + 1))) w.heap.size := (But.drew w _).trans (But.alloc w.drew _ _)
            have hsize : b.size = b.data.size := rfl
            have hfl : ∀ l : List UInt8, (l.map byteC).flatten = l.map fun c => AV.val (.int .u8 (c.toNat : Int)) := fun l => by
              induction l with
              | nil => rfl
              | cons a l ih => rw [List.map_cons, List.flatten_cons, ih]; rfl
            have hbe : (bytesE b).flatten = b.data.toList.map fun c => AV.val (.int .u8 (c.toNat : Int)) := hfl _
            have hrels : Rels κ (bytesE b).flatten (b.data.map fun c => Value.int .u8 (c.toNat : Int)) := by
              rw [hbe]
              refine ⟨by simp, fun i h1 h2 => ?_⟩
              simp only [List.getElem_map, Array.getElem_toList, Array.getElem_map]
              exact .val rfl
            obtain ⟨rest, hrow⟩ : ∃ rest : Array Value, bytesRow b cap = (b.data.map fun c => Value.int .u8 (c.toNat : Int)) ++ rest := ⟨_, rfl⟩
            have hrs : (bytesRow b cap).size = cap := by unfold bytesRow; simp only [Array.size_append, Array.size_map, Array.size_replicate]; omega
            rw [hrow] at hrun hbut hrs
            have hst := new_cells (n := N) (w' := w.drew.alloc (.cells ((b.data.map fun c => Value.int .u8 (c.toNat : Int)) ++ rest) e (((b.data.map fun c => Value.int .u8 (c.toNat : Int)) ++ rest).size, ((b.data.map fun c => Value.int .u8 (c.toNat : Int)) ++ rest).size + 1))) hs hN hrN (opn := true) (t := e) hrels (cap - b.size) rest (fun h => by cases h) (by rw [hce]; simp at hrs; omega)
              (fun i hi => by
                rcases hi with hi | ⟨hi, hb⟩
                · simp only; omega
                · unfold byteT at hb; rw [hue] at hb; cases hb) hbut (heap_alloc_new' w.drew _)
            refine ⟨_, _, _, hrun, hst, ?_⟩
            refine .sl (K.add_same ..) (.inr ⟨?_, ?_⟩) (Nat.le_refl _) (.inr ⟨rfl, rfl⟩)
            · simp only [hbe, List.length_map, Array.length_toList, hsize, hce]; omega
            · simp only; omega
          · cases h
        · cases h
      · cases h
    · cases h
  · cases h
theorem heap_freeze (w : World) (a : Addr) (n c : Nat) (h : c ≠ a.block) : (w.freeze a n).heap[c]? = w.heap[c]? := by
  unfold World.freeze
  split
  · rfl
  · simp only [Array.getElem?_modify]
    rw [if_neg (Ne.symm h)]
theorem size_freeze (w : World) (a : Addr) (n : Nat) : (w.freeze a n).heap.size = w.heap.size := by
  unfold World.freeze
  split
  · rfl
  · simp
theorem cell_freeze (w : World) (a b : Addr) (n : Nat) : (w.freeze a n).cell? b = w.cell? b := by
  by_cases e : b.block = a.block
  · unfold World.freeze
    split
    · rfl
    · simp only [World.cell?, Array.getElem?_modify, e, if_true]
      cases h : w.heap[a.block]? with
      | none => rfl
      | some o => cases o <;> rfl
  · simp only [World.cell?, heap_freeze w a n b.block e]
theorem Step.mark {κ : K} {m : Mem} {w : World} (hs : Sim P κ m w) {n : Nat} {l : Loc} {opn : Bool} {t : TypeId} {cs : List AV} (hm : m n = some (.cells opn t cs)) (hl : κ.rho n = some (some l)) (o k : Nat) :
    ∃ κ', ∃ f : Nat → Value, Step P κ m w κ' (m.del n) (w.freeze ⟨l.blk, o, none⟩ k) ∧ l.top = cs.length ∧ ∀ i (h : i < cs.length), κ'.prot l.blk (l.base + i) = some (f i) ∧ Rel κ' cs[i] (f i) := by
  obtain ⟨κ', f, hst, h1, h2⟩ := Step.freeze hs hm hl
  refine ⟨κ', f, ⟨hst.le, ⟨?_, ?_, ?_, hst.sim.excl, hst.sim.fin⟩, ?_, ?_, hst.origin, ?_, ?_, ?_, hst.porigin, hst.dead⟩, h1, h2⟩
  · intro c p v hp; rw [cell_freeze]; exact hst.sim.prot c p v hp
  · intro q b hq
    rcases hst.sim.blk q b hq with ⟨l', g1, g2, g3⟩ | g
    · refine .inl ⟨l', g1, g2.congr (heap_freeze w _ k _ ?_), g3⟩
      have hqn : q ≠ n := fun e => by subst e; simp at hq
      have hr : κ'.rho n = some (some l) := hst.le.rho _ _ hl
      have hmq : m q = some b := Mem.del_sub m n q b hq
      have hkq : κ.rho q = some (some l') := by
        cases hk : κ.rho q with
        | none => rcases hs.blk q b hmq with ⟨l2, z1, _⟩ | ⟨z1, _⟩ <;> (rw [hk] at z1; cases z1)
        | some x => have := hst.le.rho _ _ hk; rw [g1] at this; exact this.symm
      exact hs.excl q n l' l hqn (by rw [hmq]; simp) (by rw [hm]; simp) hkq hl
    · exact .inr g
  · intro q l' h; rw [size_freeze]; exact hst.sim.lt q l' h
  · rw [size_freeze]; exact Nat.le_refl _
  · intro c hc hb
    exact heap_freeze w _ k c fun e => hb ⟨n, l, hl, by rw [hm]; simp, e.symm⟩
  · unfold World.freeze; split <;> rfl
  · unfold World.freeze; split <;> rfl
  · unfold World.freeze; split <;> rfl
def mapPutA (P : Program) (m : Mem) (t : TypeId) (x k v : AV) : Option Mem :=
  match P.underlying t, x with
  | some (.map kt _), .map n => match m n with
    | some (.map es) => if keyOkA P kt k then (match findA P kt k es 0 with
      | some none => some (m.set n (.map (es ++ [(k, v)])))
      | _ => none) else none
    | _ => none
  | _, _ => none
theorem mapPutA_sound {κ : K} {m : Mem} {w : World} (hs : Sim P κ m w) {t : TypeId} {x k v : AV} {m' : Mem} (h : mapPutA P m t x k v = some m') {cx ck cv : Value} (hx : Rel κ x cx) (hk : Rel κ k ck) (hv : Rel κ v cv) :
    ∃ w', (Instr.mapUpdate t cx ck cv).run P w = .ok () w' ∧ Step P κ m w κ m' w' := by
  unfold mapPutA at h
  split at h
  · rename_i kt et n hu
    split at h
    · rename_i es hm
      split at h
      · rename_i hok
        split at h
        · rename_i hfd
          cases h
          cases hx with
          | @map _ l hr =>
            rcases hs.blk n _ hm with ⟨l', e1, e2, e3⟩ | ⟨e1, _⟩
            · rw [hr] at e1; cases e1
              obtain ⟨ents, clock, z1, z2, z3⟩ := e2
              have hlt := (Array.getElem?_eq_some_iff.1 z1).1
              obtain ⟨c, g1, g2⟩ := findA_sound hk es ents.toList 0 _ hfd (by simpa using z2) (fun j a b => by simpa using z3 j a (by simpa using b))
              cases c with
              | some p => exact g2.elim
              | none =>
                have hck := (checkKey_sound hok hk false w).1
                have hwide := (checkKey_sound hok hk false w).2
                have hf : (Instr.findKey kt ck ents.toList).run P w = .ok none w := by rw [run_findKey_eq w hwide]; exact g1 w
                refine ⟨{ w with heap := w.heap.setIfInBounds l.blk (.map (ents.push { key := ck, val := cv, born := clock }) (clock + 1)) }, ?_, ?_⟩
                · unfold Instr.mapUpdate
                  have hset : (setObj l.blk (.map (ents.push { key := ck, val := cv, born := clock }) (clock + 1))).run P w = .ok () { w with heap := w.heap.setIfInBounds l.blk (.map (ents.push { key := ck, val := cv, born := clock }) (clock + 1)) } := by simp [setObj, Sem.run, z1]
                  simp only [Sem.run_bind, run_underlying hu, Result.andThen_ok, run_getObj_map w l.blk ents clock z1, hck, hf, hset]
                · have hb : But w { w with heap := w.heap.setIfInBounds l.blk (.map (ents.push { key := ck, val := cv, born := clock }) (clock + 1)) } l.blk :=
                    ⟨by simp, fun c hc hg => by simp [Array.getElem?_setIfInBounds, Ne.symm hg], rfl, rfl, rfl⟩
                  refine Step.change hs (by rw [hm]; simp) hr e3 hb _ ?_
                  refine ⟨ents.push { key := ck, val := cv, born := clock }, clock + 1, by simp [Array.getElem?_setIfInBounds, hlt], by simp [z2], fun i a b => ?_⟩
                  by_cases hi : i < es.length
                  · rw [List.getElem_append_left hi, Array.getElem_push_lt (by omega)]
                    exact z3 i hi (by omega)
                  · have hie : i = es.length := by simp at a; omega
                    have q1 : (es ++ [(k, v)])[i] = (k, v) := by subst hie; simp
                    have q2 : (ents.push { key := ck, val := cv, born := clock })[i] = { key := ck, val := cv, born := clock } := by
                      have : i = ents.size := by omega
                      subst this; simp
                    rw [q1, q2]
                    exact ⟨hk, hv⟩
            · rw [hr] at e1; cases e1
        · cases h
      · cases h
    · cases h
  · cases h
def markA (P : Program) (m : Mem) (s d : TypeId) (x : AV) : Option (AV × Mem) :=
  if s = d then (match ti P s, x with
    | some i, .sl n off len cap => match i.desc, m n with
      | .slice e, some (.cells false bt cs) => match ti P e with
        | some q => match q.desc with
          | .int .u8 => if off + len ≤ cs.length ∧ 0 < len ∧ P.cellsOf e = 1 then some (.vs (((cs.drop off).take len).map fun c => [c]) false, m.del n) else none
          | _ => none
        | none => none
      | _, _ => none
    | _, _ => none) else none
theorem markA_sound {κ : K} {m : Mem} {w : World} (hs : Sim P κ m w) {s d : TypeId} {x r : AV} {m' : Mem} (h : markA P m s d x = some (r, m')) {cv : Value} (hx : Rel κ x cv) :
    ∃ v w' κ', (convert s d cv).run P w = .ok v w' ∧ Step P κ m w κ' m' w' ∧ Rel κ' r v := by
  unfold markA at h
  split at h
  · rename_i hsd
    subst hsd
    split at h
    · rename_i i n off len cap hi
      split at h
      · rename_i e bt cs hd hm
        split at h
        · rename_i q hq
          split at h
          · rename_i hqd
            split at h
            · rename_i hc
              obtain ⟨c1, c2, c3⟩ := hc
              cases h
              cases hx with
              | snil => omega
              | szero => omega
              | @sl _ _ _ _ cap' c' o' l q1 q2 q3 q4 =>
                have : c' = l.blk ∧ o' = l.base + off := by rcases q4 with q4 | q4 <;> first | exact q4 | (rcases q2 with q2 | q2 <;> omega)
                obtain ⟨rfl, rfl⟩ := this
                rcases hs.blk n _ hm with ⟨l', e1, e2, e3⟩ | ⟨e1, _, e2⟩
                case inr => cases e2
                rw [q1] at e1; cases e1
                obtain ⟨arr, t', fz, z1, z2, z3, z4, z5, z6, z7⟩ := e2
                have hrun : (convert s s (.slice (some ⟨l.blk, l.base + off, none⟩) len cap')).run P w = .ok (.slice (some ⟨l.blk, l.base + off, none⟩) len cap') (w.freeze ⟨l.blk, arr.size, none⟩ 1) := by
                  have u1 : P.underlying s = some (.slice e) := (ti_spec hi).1.trans (by rw [hd])
                  have u2 : P.underlying e = some (.int .u8) := (ti_spec hq).1.trans (by rw [hqd])
                  have hsh : w.shape? l.blk = some (t', arr.size) := by simp [World.shape?, z1]
                  simp [convert, run_underlying u1, run_underlying u2, markStringish, hsh]
                obtain ⟨κ', f, hst, g1, g2⟩ := Step.mark hs hm q1 arr.size 1
                have hlen : (((cs.drop off).take len).map fun c => [c]).length = len := by simp; omega
                refine ⟨_, _, κ', hrun, hst, ?_⟩
                have hv := Rel.vs (κ := κ') (es := ((cs.drop off).take len).map fun c => [c]) (x := false) (c := l.blk) (o := l.base + off) (s := 1) (cap := cap') (fun k _ => f (off + k)) (fun x hx => by obtain ⟨y, _, rfl⟩ := List.mem_map.1 hx; rfl)
                  (by rw [hlen]; rcases q2 with q2 | q2 <;> omega) (fun h => by cases h) (fun k j hk hj => by
                    rw [hlen] at hk
                    have := (g2 (off + k) (by omega)).1
                    rw [← this]; congr 1; omega) (fun k hk j hj => by
                    rw [hlen] at hk
                    have hj0 : j = 0 := by simp at hj; omega
                    subst hj0
                    have := (g2 (off + k) (by omega)).2
                    simpa using this)
                rw [hlen] at hv
                exact hv
            · cases h
          · cases h
        · cases h
      · cases h
    · cases h
  · cases h
def loudK (P : Program) (op : Op) (ev : Operand → AV) (m : Mem) (K' : AV → Mem → Prop) : Prop :=
  match op with
  | .store t a x => ∃ m', storeA P m t (ev a) (ev x) = some m' ∧ K' (.tup []) m'
  | .alloc t => ∃ cs, zeroA P t = some cs ∧ ∀ n, m n = none → K' (.ptr n 0) (m.set n (.cells false t cs))
  | .box t x => ∃ cs, (ev x).cells = some cs ∧ ∀ n, m n = none → K' (.ptr n 0) (m.set n (.cells false t cs))
  | .buildSlice t len ps => ∃ e s cs, litA P t len (ps.toList.map fun p => (p.1, ev p.2)) = some (e, s, cs) ∧ cs.length = len * s ∧
      (K' (.vs (chunk s len cs) true) m ∨ ∀ n, m n = none → K' (.sl n 0 len len) (m.set n (.cells false e cs)))
  | .makeSlice t l c => ∃ e a b cs, mkSliceA P t (ev l) (ev c) = some (e, a, b, cs) ∧ ∀ n, m n = none → K' (.sl n 0 a b) (m.set n (.cells false e cs))
  | .makeMap t none => ∀ n, m n = none → K' (.map n) (m.set n (.map []))
  | .mapUpdate t x k v => ∃ m', mapPutA P m t (ev x) (ev k) (ev v) = some m' ∧ K' (.tup []) m'
  | .binOp op t x y _ => nilAny P op t (ev x) (ev y) ∧ ∀ b, K' (.val (.bool b)) m
  | .convert s d x => (∃ b, textB P s d (ev x) = some b ∧ K' (.vs (bytesE b) false) m) ∨ (∃ r m', markA P m s d (ev x) = some (r, m') ∧ K' r m') ∨ ∃ b e, textT P s d (ev x) = some (b, e) ∧ ∀ n, m n = none → K' (.sl n 0 b.size b.size) (m.set n (.cells true e (bytesE b).flatten))
  | .call { callee := .value f, args, .. } => CW P (ev f) (args.toList.map ev) m K'
  | .call { callee := .builtin .append, args, argTypes } => match args.toList, argTypes.toList with
    | [s, x], [t, xt] => AppK P t xt (ev s) (ev x) m K'
    | _, _ => False
  | .call { callee := .builtin .copy, args, argTypes } => match args.toList, argTypes.toList with
    | [d, x], [t, xt] => ∃ k m', copyA P m t xt (ev d) (ev x) = some (k, m') ∧ K' (.val (.int .i64 k)) m'
    | _, _ => False
  | .call { callee := .builtin .cap, args, argTypes } => match args.toList, argTypes.toList with
    | [x], [t] => ∃ r, capA P m t (ev x) = some r ∧ K' r m
    | _, _ => False
  | .call { callee := .builtin .clear, args, argTypes } => match args.toList, argTypes.toList with
    | [x], [t] => ∃ m', clearA P m t (ev x) = some m' ∧ K' (.tup []) m'
    | _, _ => False
  | _ => False
def opK (P : Program) (op : Op) (ev : Operand → AV) (m : Mem) (K' : AV → Mem → Prop) : Prop :=
  match quietA P m ev op with
  | some r => K' r m
  | none => loudK P op ev m K'
theorem array_one {α : Type} {a : Array α} {x : α} (h : a.toList = [x]) : a = #[x] := by cases a; simpa using h
theorem array_two {α : Type} {a : Array α} {x y : α} (h : a.toList = [x, y]) : a = #[x, y] := by cases a; simpa using h
theorem opK_sound {κ : K} {m : Mem} {w : World} (hs : Sim P κ m w) {o : Oper} {ev : Operand → AV} {a : Act} (hev : ∀ x, Rel κ (ev x) (a.eval x)) {K' : AV → Mem → Prop} (h : opK P o.op ev m K') (rd : Option Nat)
    {next : Act → World → Prop} {Q : Exit → Act → World → Prop} (hn : ∀ r m' κ' cv w', K' r m' → Step P κ m w κ' m' w' → Rel κ' r cv → next (a.put o.dst cv) w') : o.wpIn (Fr rd) 0 P a w next Q := by
  have hsem : ∀ s : Sem Next, (∀ c, o.op ≠ .defer c) → o.semAt rd a.eval = execOp a.eval o := fun _ hd => Oper.semAt_eq rd a.eval o hd
  refine ⟨fun _ _ => trivial, ?_⟩
  show o.uponIn (Fr rd) 0 P a next Q ((o.semAt rd a.eval).run P w)
  unfold opK at h
  split at h
  · rename_i r hq
    have hnd : ∀ c, o.op ≠ .defer c := fun c e => by rw [e] at hq; simp [quietA] at hq
    obtain ⟨cv, h1, h2⟩ := quietA_sound hs hev hq
    rw [Oper.semAt_eq rd a.eval o hnd, h2 w (Ext.refl w)]
    exact hn r m κ cv w h (Step.refl hs) h1
  · rename_i hqn
    clear hqn
    have hnd : ∀ c, o.op ≠ .defer c := fun c e => by rw [e] at h; simp [loudK] at h
    rw [Oper.semAt_eq rd a.eval o hnd]
    obtain ⟨dst, op, type, pos, after, guard⟩ := o
    simp only at h hn
    clear hsem hnd
    unfold loudK at h
    split at h
    case _ t x y =>
      obtain ⟨m', h1, h2⟩ := h
      obtain ⟨w', g1, g2⟩ := storeA_sound hs h1 (hev x) (hev y)
      simp only [execOp, Sem.run_bind, g1, Result.andThen_ok, Sem.run_pure]
      exact hn _ m' κ undef w' h2 g2 (.tup rfl fun i h => by simp at h)
    case _ t =>
      obtain ⟨cs, h1, h2⟩ := h
      obtain ⟨z, z1, z2, _⟩ := zeroA_sound (κ := κ) h1
      obtain ⟨n, g1, κ', g2, g3⟩ := new_box hs (t := t) z2
      have : (Instr.alloc t true (.tuple #[])).run P w = .ok (.pointer (some ⟨w.heap.size, 0, none⟩)) (w.alloc (.cells z.cells t)) := by
        simp only [Instr.alloc, Sem.run_bind, z1, Result.andThen_ok, newVar, newRow, run_newObj, Sem.run_pure]; rfl
      simp only [execOp, Sem.run_bind, this, Result.andThen_ok, Sem.run_pure]
      exact hn _ _ κ' _ _ (h2 n g1) g2 g3
    case _ t x =>
      obtain ⟨cs, h1, h2⟩ := h
      obtain ⟨z2, _⟩ := (hev x).cells h1
      obtain ⟨n, g1, κ', g2, g3⟩ := new_box hs (t := t) z2
      have : (Instr.box t (a.eval x)).run P w = .ok (.pointer (some ⟨w.heap.size, 0, none⟩)) (w.alloc (.cells (a.eval x).cells t)) := by
        simp only [Instr.box, Sem.run_bind, newVar, newRow, run_newObj, Sem.run_pure, Result.andThen_ok]; rfl
      simp only [execOp, Sem.run_bind, this, Result.andThen_ok, Sem.run_pure]
      exact hn _ _ κ' _ _ (h2 n g1) g2 g3
    case _ t len ps =>
      obtain ⟨e, s, cs, h1, hl, h2⟩ := h
      obtain ⟨ca, g1, g2⟩ := litA_sound (κ := κ) h1 (cparts := ps.map fun (i, x) => (i, a.eval x)) (by simp) (fun i p q => by simpa using hev _)
      simp only [execOp, Sem.run_bind, g2 w, Result.andThen_ok, Sem.run_pure]
      rcases h2 with h2 | h2
      · obtain ⟨c1, c2, c3⟩ := chunk_spec s len cs hl
        obtain ⟨κ', q1, q2⟩ := new_lit hs (t := e) (es := chunk s len cs) (s := s) c3 (ca := ca) (by rw [c1]; exact g1)
        rw [c2] at q2
        exact hn _ _ κ' _ _ h2 q1 q2
      · obtain ⟨n, hr, hm⟩ := hs.fresh
        have hst := new_cells (w' := w.alloc (.cells ca e)) hs hm hr (opn := false) (t := e) g1 0 #[] (fun _ => rfl) (by simp) (fz := (0, 0)) (fun i _ => by simp) (But.alloc w _ _) (by rw [heap_alloc_new']; simp)
        exact hn _ _ _ _ _ (h2 n hm) hst (.sl (K.add_same ..) (.inl rfl) (Nat.le_refl _) (.inr ⟨rfl, rfl⟩))
    case _ t l c =>
      obtain ⟨e, la, lb, cs, h1, h2⟩ := h
      have hl := hev l
      have hc := hev c
      unfold mkSliceA at h1
      split at h1
      · rename_i i k1 va k2 vb hi el ec
        rw [el] at hl
        rw [ec] at hc
        obtain ⟨el', _⟩ := hl.val_inv
        obtain ⟨ec', _⟩ := hc.val_inv
        split at h1
        · rename_i e' hd
          split at h1
          · rename_i j z hj hz
            split at h1
            · rename_i hcond
              cases h1
              obtain ⟨c1, c2, c3, c4, c5, c6⟩ := hcond
              obtain ⟨zv, z1, z2, _⟩ := zeroA_sound (κ := κ) hz
              obtain ⟨_, i3, h31, h32, h33, h34⟩ := ti_spec hj
              have hz2 := rels_zeros z2 (by omega) vb.toNat
              have w1 : IntKind.i64.wrap va = va := IntWalk.i64_in _ (by omega)
              have w2 : IntKind.i64.wrap vb = vb := IntWalk.i64_in _ (by omega)
              have hno : ¬ ((decide (vb < 0) || decide (((i3.bytes : Nat) : Int) * vb > 2 ^ 48) || decide (va < 0) || decide (va > vb)) = true) := by
                rw [h33]
                simp only [Bool.or_eq_true, decide_eq_true_eq, not_or]
                refine ⟨⟨⟨by omega, ?_⟩, by omega⟩, by omega⟩
                have : ((2 : Int) ^ 48) = 281474976710656 := by decide
                omega
              have run : (Instr.makeSlice t (a.eval l) (a.eval c)).run P w = .ok (.slice (some ⟨w.heap.size, 0, none⟩) va.toNat vb.toNat) (w.alloc (.cells ((Array.range (vb.toNat * j.size)).map (zv.cells[· % zv.cells.size]!)) e)) := by
                simp only [Instr.makeSlice, Sem.run_bind, run_underlying' hi, hd, Result.andThen_ok, el', ec', asInt, asIntOf, Sem.run_pure, typeInfo, run_program, h31, w1, w2]
                rw [if_neg hno]
                simp only [Sem.run_bind, run_askRoom, Result.andThen_ok, run_sizeOf hj, Sem.run_pure]
                by_cases h0 : vb.toNat * j.size = 0
                · simp only [h0, if_true, Sem.run_pure, Result.andThen_ok, Array.range_zero', List.map_toArray, List.map_nil, newRow, run_newObj]; rfl
                · simp only [if_neg h0, Sem.run_bind, z1, Sem.run_pure, Result.andThen_ok, newRow, run_newObj]; rfl
              simp only [execOp, Sem.run_bind, run, Result.andThen_ok, Sem.run_pure]
              obtain ⟨n, hr, hm⟩ := hs.fresh
              rw [c5] at hz2
              have hst := new_cells (w' := w.alloc (.cells ((Array.range (vb.toNat * j.size)).map (zv.cells[· % zv.cells.size]!)) e)) hs hm hr (opn := false) (t := e) hz2 0 #[] (fun _ => rfl) (by simp) (fz := (0, 0)) (fun i _ => by simp) (But.alloc w _ _) (by rw [heap_alloc_new']; simp)
              exact hn _ _ _ _ _ (h2 n hm) hst (.sl (K.add_same ..) (.inl rfl) (by omega) (.inr ⟨rfl, rfl⟩))
            · cases h1
          · cases h1
        · cases h1
      · cases h1
    case _ t =>
      obtain ⟨n, hr, hm⟩ := hs.fresh
      have hst := Step.alloc (w' := w.alloc (.map #[] 0)) hs hm hr (l := ⟨w.heap.size, 0, 0, 0, 0⟩) (Nat.le_refl _) (by simp) (But.alloc w _ _) (.map []) ⟨#[], 0, heap_alloc_new' w _, rfl, fun i h => by simp at h⟩
      have : (Instr.makeMap t (Option.map a.eval none)).run P w = .ok (.map (some w.heap.size)) (w.alloc (.map #[] 0)) := by
        simp only [Instr.makeMap, Option.map_none, Sem.run_bind, Sem.run_pure, Result.andThen_ok, run_newObj]; rfl
      simp only [execOp, Sem.run_bind, this, Result.andThen_ok, Sem.run_pure]
      exact hn _ _ _ _ _ (h n hm) hst (.map (K.add_same ..))
    case _ t x k v =>
      obtain ⟨m', h1, h2⟩ := h
      obtain ⟨w', g1, g2⟩ := mapPutA_sound hs h1 (hev x) (hev k) (hev v)
      simp only [execOp, Sem.run_bind, g1, Result.andThen_ok, Sem.run_pure]
      exact hn _ m' κ undef w' h2 g2 (.tup rfl fun i h => by simp at h)
    case _ op' t x y u =>
      obtain ⟨h1, h2⟩ := h
      obtain ⟨b, hb⟩ := nilAny_sound h1 (hev x) (hev y) x y
      have hrun : (execOp a.eval { dst := dst, op := .binOp op' t x y u, type := type, pos := pos, after := after, guard := guard }).run P w = .ok (.value (.bool b)) w := by
        have := hb w
        simp only [Sem.run_bind] at this
        simp only [execOp, Sem.run_bind, this, Result.andThen_ok, Sem.run_pure]
      rw [hrun]
      exact hn _ m κ _ w (h2 b) (Step.refl hs) (.val rfl)
    case _ s d x =>
      have hrun : ∀ v w', (convert s d (a.eval x)).run P w = .ok v w' → (execOp a.eval { dst := dst, op := .convert s d x, type := type, pos := pos, after := after, guard := guard }).run P w = .ok (.value v) w' := fun v w' g1 => by
        simp only [execOp, Sem.run_bind, g1, Result.andThen_ok, Sem.run_pure]
      rcases h with ⟨b, h1, h2⟩ | ⟨r, m', h1, h2⟩ | ⟨b, e, h1, h2⟩
      · obtain ⟨v, w', κ', g1, g2, g3⟩ := textB_sound hs h1 (hev x)
        rw [hrun v w' g1]
        exact hn _ m κ' v w' h2 g2 g3
      · obtain ⟨v, w', κ', g1, g2, g3⟩ := markA_sound hs h1 (hev x)
        rw [hrun v w' g1]
        exact hn _ m' κ' v w' h2 g2 g3
      · obtain ⟨N, hrN, hN⟩ := hs.fresh
        obtain ⟨v, w', κ', g1, g2, g3⟩ := textT_sound hs h1 (hev x) hN hrN
        rw [hrun v w' g1]
        exact hn _ _ κ' v w' (h2 N hN) g2 g3
    case _ f args ats =>
      have hf := hev f
      unfold CW at h
      split at h
      · rename_i g first caps ef
        rw [ef] at hf
        generalize hcf : a.eval f = cf at hf
        cases hf with
        | @fn _ _ _ fa ca g0 g1 g2 g3 g4 =>
          obtain ⟨a1, a2⟩ := relsMap hev args
          have hrels : Rels κ (first ++ args.toList.map ev ++ caps) ((fa ++ args.map a.eval) ++ ca) := rels_append (rels_append ⟨g1, g2⟩ ⟨a1, a2⟩) ⟨g3, g4⟩
          rcases h with h | h
          case inr =>
            obtain ⟨fn, e, x1, x2, x3, x4, x5, h⟩ := h
            obtain ⟨cv, w', r, m', κ', y1, y2, y3, y4⟩ := h κ w _ hs hrels
            have hrun : (execOp a.eval { dst := dst, op := .call { callee := .value f, args := args, argTypes := ats }, type := type, pos := pos, after := after, guard := guard }).run P w = .ok (.value cv) w' := by
              simp only [execOp, resolve, hcf, Deferred.ofValue, Sem.run_bind, Sem.run_pure, Result.andThen_ok, invoke, run_callFunc_extern x1 x2 x3 x4 x5, y1]
            rw [hrun]
            exact hn r m' κ' cv w' y2 y3 y4
          obtain ⟨⟨fn, hfn, hb, hname⟩, hC⟩ := h
          have hcall := hC κ w _ hs hrels
          have hrun : (execOp a.eval { dst := dst, op := .call { callee := .value f, args := args, argTypes := ats }, type := type, pos := pos, after := after, guard := guard }).run P w = .ok (.enter g ((fa ++ args.map a.eval) ++ ca)) w := by
            simp only [execOp, resolve, hcf, Deferred.ofValue, Sem.run_bind, Sem.run_pure, Result.andThen_ok, invoke, callFunc, run_program, hfn, hname, hb, Bool.false_eq_true, if_false]
          rw [hrun]
          refine ⟨Fr_depth rd, ?_⟩
          have hcall' : CallsIn (Fr rd) (0 - 1) P g ((fa ++ args.map a.eval) ++ ca) w _ := hcall
          refine hcall'.mono ?_
          rintro e w' ⟨cv, r, m', κ', rfl, hk, hst, hrel⟩
          exact hn r m' κ' cv w' hk hst hrel
      · rename_i n ef
        rw [ef] at hf
        generalize hcf : a.eval f = cf at hf
        cases hf with
        | @yld _ l hl =>
          obtain ⟨f', tmps, asg, body, h1, h2⟩ := h κ w l (args.map a.eval) hs hl (relsMap hev args)
          have hrun : (execOp a.eval { dst := dst, op := .call { callee := .value f, args := args, argTypes := ats }, type := type, pos := pos, after := after, guard := guard }).run P w = .ok (.round l.blk f' tmps asg body) w := by
            simp only [execOp, resolve, hcf, Deferred.ofValue, Sem.run_bind, Sem.run_pure, Result.andThen_ok, invoke, Array.empty_append, h1]
          rw [hrun]
          refine ⟨Fr_depth rd, ?_⟩
          have h2' : RoundIn (Fr rd) (0 - 1) P l.blk f' tmps asg body w _ := h2
          refine h2'.mono ?_
          rintro e w' ⟨cv, r, m', κ', rfl, hk, hst, hrel⟩
          exact hn r m' κ' cv w' hk hst hrel
      · exact h.elim
    case _ args ats =>
      split at h
      · rename_i s x t xt e1 e2
        obtain rfl := array_two e1
        obtain rfl := array_two e2
        obtain ⟨cv, r, m', κ', w', g1, g2, g3, g4⟩ := appK_sound (ty := type) hs h (hev s) (hev x)
        have hrun : (execOp a.eval { dst := dst, op := .call { callee := .builtin .append, args := #[s, x], argTypes := #[t, xt] }, type := type, pos := pos, after := after, guard := guard }).run P w = .ok (.value cv) w' := by
          simp only [execOp, resolve, invoke, builtin, Sem.run_bind, Sem.run_pure, Result.andThen_ok, List.map_toArray, List.map_cons, List.map_nil, g1]
        rw [hrun]
        exact hn r m' κ' cv w' g2 g3 g4
      · exact h.elim
    case _ args ats =>
      split at h
      · rename_i d x t xt e1 e2
        obtain rfl := array_two e1
        obtain rfl := array_two e2
        obtain ⟨k, m', h1, h2⟩ := h
        obtain ⟨w', g1, g2⟩ := copyA_sound (ty := type) hs h1 (hev d) (hev x)
        have hrun : (execOp a.eval { dst := dst, op := .call { callee := .builtin .copy, args := #[d, x], argTypes := #[t, xt] }, type := type, pos := pos, after := after, guard := guard }).run P w = .ok (.value (.int .i64 k)) w' := by
          simp only [execOp, resolve, invoke, builtin, Sem.run_bind, Sem.run_pure, Result.andThen_ok, List.map_toArray, List.map_cons, List.map_nil, g1]
        rw [hrun]
        exact hn _ m' κ _ w' h2 g2 (.val rfl)
      · exact h.elim
    case _ args ats =>
      split at h
      · rename_i x t e1 e2
        obtain rfl := array_one e1
        obtain rfl := array_one e2
        obtain ⟨r, h1, h2⟩ := h
        obtain ⟨cv, g1, g2⟩ := capA_sound (ty := type) hs h1 (hev x)
        have hrun : (execOp a.eval { dst := dst, op := .call { callee := .builtin .cap, args := #[x], argTypes := #[t] }, type := type, pos := pos, after := after, guard := guard }).run P w = .ok (.value cv) w := by
          simp only [execOp, resolve, invoke, builtin, Sem.run_bind, Sem.run_pure, Result.andThen_ok, List.map_toArray, List.map_cons, List.map_nil, g2]
        rw [hrun]
        exact hn _ m κ _ w h2 (Step.refl hs) g1
      · exact h.elim
    case _ args ats =>
      split at h
      · rename_i x t e1 e2
        obtain rfl := array_one e1
        obtain rfl := array_one e2
        obtain ⟨m', h1, h2⟩ := h
        obtain ⟨w', g1, g2⟩ := clearA_sound (ty := type) hs h1 (hev x)
        have hrun : (execOp a.eval { dst := dst, op := .call { callee := .builtin .clear, args := #[x], argTypes := #[t] }, type := type, pos := pos, after := after, guard := guard }).run P w = .ok (.value (.tuple #[])) w' := by
          simp only [execOp, resolve, invoke, builtin, Sem.run_bind, Sem.run_pure, Result.andThen_ok, List.map_toArray, List.map_cons, List.map_nil, g1]
        rw [hrun]
        exact hn _ m' κ _ w' h2 g2 (.tup rfl fun i h => by simp at h)
      · exact h.elim
    case _ => exact h.elim
end Go.Abs

set_option linter.unusedVariables false
set_option linter.unusedSimpArgs false
namespace Go.Abs
variable {P : Program}
def wantedA (ops : Array Oper) (env : List AV) (o : Oper) : Option Bool :=
  match o.guard with
  | none => some true
  | some (j, want) => match (ops[j]?).bind (·.dst) with
    | none => some false
    | some t => match nth env t with
      | .val (.bool b) => some (b == want)
      | .tup [] => some false
      | _ => none
theorem wantedA_sound {κ : K} {env : List AV} {a : Act} (hr : Rels κ env a.tmps) {ops : Array Oper} {o : Oper} {b : Bool} (h : wantedA ops env o = some b) : Region.wanted o (yielded ops a.tmps) = b := by
  unfold wantedA at h
  unfold Region.wanted
  split at h
  · rename_i e; rw [e]; cases h; rfl
  · rename_i j want e
    rw [e]
    simp only
    unfold yielded
    split at h
    · rename_i e2; rw [e2]; cases h; rfl
    · rename_i t e2
      rw [e2]
      simp only [Option.bind_some]
      have hv := hr.nth t
      split at h
      · rename_i b' e3
        cases h
        rw [e3] at hv
        obtain ⟨g, _⟩ := hv.val_inv
        have : a.tmps[t]? = some (.bool b') := by
          unfold Array.getD at g
          split at g
          · rename_i hlt; rw [Array.getElem?_eq_getElem hlt, ← g]; rfl
          · cases g
        rw [this]
        cases b' <;> cases want <;> rfl
      · rename_i e3
        cases h
        rw [e3] at hv
        have g : a.tmps.getD t undef = .tuple #[] := by
          generalize a.tmps.getD t undef = v at hv
          cases hv with
          | @tup _ ca hl _ => cases ca with | mk l => cases l with | nil => rfl | cons _ _ => simp at hl
        cases hh : a.tmps[t]? with
        | none => rfl
        | some v =>
          have : v = .tuple #[] := by
            unfold Array.getD at g
            obtain ⟨hlt, e4⟩ := Array.getElem?_eq_some_iff.1 hh
            rw [dif_pos hlt] at g
            rw [← e4]; exact g
          subst this; rfl
      · cases h
def opsK (P : Program) (ops : Array Oper) (Q : List AV → Mem → Prop) : List Oper → List AV → Mem → Prop
  | [], env, m => Q env m
  | o :: rest, env, m => match wantedA ops env o with
    | some true => opK P o.op (evA env) m fun v m' => opsK P ops Q rest (put env o.dst v) m'
    | some false => opsK P ops Q rest (put env o.dst (.tup [])) m
    | none => False
def opsQ (P : Program) (ops : Array Oper) (Q : List AV → Mem → Prop) : List Oper → List AV → Mem → Prop
  | [], env, m => Q env m
  | o :: rest, env, m => match wantedA ops env o with
    | some true => match quietA P m (evA env) o.op with
      | some r => opsQ P ops Q rest (put env o.dst r) m
      | none => False
    | some false => opsQ P ops Q rest (put env o.dst (.tup [])) m
    | none => False
theorem opsK_sound {ops : Array Oper} {Q : List AV → Mem → Prop} (rd : Option Nat) : ∀ (l : List Oper) (k : Nat), (∀ j, l[j]? = ops[k + j]?) → ∀ (env : List AV) (m : Mem), opsK P ops Q l env m →
    ∀ (κ : K) (w : World) (a : Act), Sim P κ m w → Rels κ env a.tmps → ∀ {Q' : Exit → Act → World → Prop},
      (∀ env' m' κ' w' a', Q env' m' → Step P κ m w κ' m' w' → Rels κ' env' a'.tmps → a'.defers = a.defers → Q' .normal a' w') → wpOpsIn (Fr rd) 0 P ops Q' (List.range' k l.length) a w
  | [], k, hl, env, m, h => by
    intro κ w a hs hr Q' hq
    exact hq env m κ w a h (Step.refl hs) hr rfl
  | o :: l, k, hl, env, m, h => by
    intro κ w a hs hr Q' hq
    have h0 : ops[k]? = some o := by simpa using (hl 0).symm
    have hl' : ∀ j, l[j]? = ops[k + 1 + j]? := fun j => by have := hl (j + 1); simpa [Nat.add_assoc, Nat.add_comm 1 j] using this
    have ih := opsK_sound (ops := ops) (Q := Q) rd l (k + 1) hl'
    simp only [List.length_cons, List.range'_succ, wpOpsIn, h0]
    simp only [opsK] at h
    have fin : ∀ env' m' κ' w' a', opsK P ops Q l env' m' → Step P κ m w κ' m' w' → Rels κ' env' a'.tmps → a'.defers = a.defers → wpOpsIn (Fr rd) 0 P ops Q' (List.range' (k + 1) l.length) a' w' := by
      intro env' m' κ' w' a' h1 h2 h3 h4
      exact ih env' m' h1 κ' w' a' h2.sim h3 fun env'' m'' κ'' w'' a'' g1 g2 g3 g4 => hq env'' m'' κ'' w'' a'' g1 (h2.trans g2) g3 (g4.trans h4)
    split at h
    · rename_i hw
      have hw' := wantedA_sound hr hw
      rw [if_pos hw']
      refine opK_sound hs (evA_rel hr) h rd fun r m' κ' cv w' h1 h2 h3 => ?_
      refine fin _ m' κ' w' _ h1 h2 ((hr.mono h2.le).put o.dst h3) ?_
      cases o.dst <;> rfl
    · rename_i hw
      have hw' := wantedA_sound hr hw
      rw [if_neg (by rw [hw']; simp)]
      refine ⟨fun _ _ => trivial, fin _ m κ w _ h (Step.refl hs) (hr.put o.dst (.tup rfl fun i h => by simp at h)) ?_⟩
      cases o.dst <;> rfl
    · exact h.elim
theorem wpOpIn_of_qOp {rd : Option Nat} {ops : Array Oper} {C' : World → Prop} {i : Nat} {a : Act} {K' : Act → Prop} {K'' : Act → World → Prop} {Q' : Exit → Act → World → Prop} {w : World}
    (hd : ∀ (i : Nat) (o : Oper) c, ops[i]? = some o → o.op ≠ .defer c) (hC : C' w) (h : ∀ a w', C' w' → K' a → K'' a w') (hh : qOp P ops C' i K' a) : wpOpIn (Fr rd) 0 P ops Q' i K'' a w := by
  unfold qOp at hh
  unfold wpOpIn
  split
  · rename_i ho; simp only [ho] at hh; exact h _ _ hC hh
  · rename_i o ho
    simp only [ho] at hh
    split
    · rename_i hw
      simp only [hw, if_true] at hh
      obtain ⟨v, h1, h2⟩ := hh
      have h3 := h1 w hC
      refine ⟨fun _ _ => trivial, ?_⟩
      show o.uponIn (Fr rd) 0 P a K'' Q' ((o.semAt rd a.eval).run P w)
      rw [Oper.semAt_eq rd a.eval o (fun c => hd i o c ho)]
      unfold Oper.quietAt at h3
      generalize (execOp a.eval o).run P w = r at *
      cases r with
      | ok n w' =>
        cases n <;> simp only [Oper.quietUpon] at h3 <;> simp only [Oper.uponIn]
        case value u => obtain ⟨rfl, rfl⟩ := h3; exact h _ _ hC h2
        case skip => obtain ⟨rfl, rfl⟩ := h3; exact h _ _ hC h2
        case enter f args =>
          obtain ⟨rfl, hc⟩ := h3
          refine ⟨Fr_depth rd, ?_⟩
          have hc' : CallsIn (Fr rd) (0 - 1) P f args w' _ := (callsIn_wide (n := 0)).2 hc
          exact hc'.mono fun e w'' ⟨he, hw''⟩ => by subst he; exact h _ _ hw'' h2
      | halt x w' => simp only [Oper.quietUpon] at h3
    · rename_i hw
      simp only [hw] at hh
      exact ⟨fun _ _ => trivial, h _ _ hC hh⟩
theorem wpAnyIn_of_quiet {rd : Option Nat} {ops : Array Oper} {C' : World → Prop} {md : Region.Mode} {Q : Act → Prop} {Q' : Exit → Act → World → Prop} (hd : ∀ (i : Nat) (o : Oper) c, ops[i]? = some o → o.op ≠ .defer c)
    (hQ : ∀ a w, C' w → Q a → Q' .normal a w) : ∀ (fuel : Nat) (listed : Array Bool) (a : Act) (w : World), C' w → wpAnyQ P md ops C' Q fuel listed a → wpAnyIn (Fr rd) 0 P md ops Q' fuel listed a w
  | 0, _, _, _, hw, h => ⟨h.1, hQ _ _ hw h.2⟩
  | fuel + 1, _, _, _, hw, h => ⟨fun h0 => hQ _ _ hw (h.1 h0), fun i hi => wpOpIn_of_qOp hd hw (fun a' w' hw' => wpAnyIn_of_quiet hd hQ fuel _ a' w' hw') (h.2 i hi)⟩
theorem wpIn_region_any' {rd : Option Nat} {ops : Array Oper} {Q : Exit → Act → World → Prop} {id : Nat} {a : Act} {w : World} (hm : P.follows .mixedOrders = true)
    (h : wpAnyIn (Fr rd) 0 P .any ops Q ops.size (Array.replicate ops.size false) a w.drew) : (Code.region id ops true).wpIn (Fr rd) 0 P Q a w :=
  wpIn_region_draw fun t => by
    simp only [Region.schedule, hm, Bool.true_or, if_true]
    exact wpAnyIn_sound ops.size t _ a _ h
theorem opsQ_sound {ops : Array Oper} {Q : List AV → Mem → Prop} : ∀ (l : List Oper) (env : List AV) (m : Mem), opsQ P ops Q l env m →
    ∀ (κ : K) (w : World) (a : Act), Sim P κ m w → Rels κ env a.tmps → ∀ {Q' : Act → Prop},
      (∀ env' a', Q env' m → Rels κ env' a'.tmps → a'.defers = a.defers → Q' a') → wpQuiet P ops (fun w' => w' = w) Q' l a
  | [], env, m, h => by
    intro κ w a hs hr Q' hq
    exact hq env a h hr rfl
  | o :: l, env, m, h => by
    intro κ w a hs hr Q' hq
    simp only [opsQ] at h
    simp only [wpQuiet]
    split at h
    · rename_i hw
      rw [if_pos (wantedA_sound hr hw)]
      split at h
      · rename_i r hqr
        obtain ⟨cv, h1, h2⟩ := quietA_sound hs (evA_rel hr) hqr
        refine ⟨cv, fun w' hw' => ?_, ?_⟩
        · subst hw'
          unfold Oper.quietAt
          rw [h2 w' (Ext.refl w')]
          exact ⟨rfl, rfl⟩
        · refine opsQ_sound l _ m h κ w _ hs (hr.put o.dst h1) fun env' a' g1 g2 g3 => hq env' a' g1 g2 (g3.trans ?_)
          cases o.dst <;> rfl
      · exact h.elim
    · rename_i hw
      rw [if_neg (by rw [wantedA_sound hr hw]; simp)]
      refine opsQ_sound l _ m h κ w _ hs (hr.put o.dst (.tup rfl fun i h => by simp at h)) fun env' a' g1 g2 g3 => hq env' a' g1 g2 (g3.trans ?_)
      cases o.dst <;> rfl
    · exact h.elim
def markOf (r : Nat) : Deferred := { target := .collected r, args := #[] }
def Marks (w w' : World) (ds ds' : List Deferred) : Prop :=
  ∃ rs : List Nat, ds' = rs.map markOf ++ ds ∧ rs.Nodup ∧ ∀ r ∈ rs, w.heap.size ≤ r ∧ w'.heap[r]? = some (.deferred (some []))
theorem Marks.refl (w w' : World) (ds : List Deferred) : Marks w w' ds ds := ⟨[], rfl, List.nodup_nil, fun r h => by simp at h⟩
theorem Sim.notBacks {κ : K} {m : Mem} {w : World} (hs : Sim P κ m w) {r : Nat} {d : Option (List Deferred)} (h : w.heap[r]? = some (.deferred d)) : ¬ Backs κ m r := by
  rintro ⟨n, l, h1, h2, rfl⟩
  cases hm : m n with
  | none => exact h2 hm
  | some b =>
    rcases hs.blk n b hm with ⟨l', e1, e2, _⟩ | ⟨e1, _⟩
    · rw [h1] at e1; cases e1
      cases b with
      | cells opn t cs => obtain ⟨arr, t', fz, z1, _⟩ := e2; rw [h] at z1; cases z1
      | map es => obtain ⟨ents, clock, z1, _⟩ := e2; rw [h] at z1; cases z1
      | loop st pend env ps asg body => obtain ⟨r, z1, _⟩ := e2; rw [h] at z1; cases z1
    · rw [h1] at e1; cases e1
theorem Marks.trans {κ κ' : K} {m m' : Mem} {w w1 w2 : World} {d d1 d2 : List Deferred} (h : Marks w w1 d d1) (hs : Step P κ m w1 κ' m' w2) (hsim : Sim P κ m w1) (hsz : w.heap.size ≤ w1.heap.size) (h' : Marks w1 w2 d1 d2) : Marks w w2 d d2 := by
  obtain ⟨rs, e1, n1, f1⟩ := h
  obtain ⟨rs', e2, n2, f2⟩ := h'
  refine ⟨rs' ++ rs, by rw [e2, e1]; simp, ?_, fun r hr => ?_⟩
  · rw [List.nodup_append]
    refine ⟨n2, n1, fun a ha b hb => ?_⟩
    have h1 := (f2 a ha).1
    have h2 := (Array.getElem?_eq_some_iff.1 (f1 b hb).2).1
    omega
  · rcases List.mem_append.1 hr with hr | hr
    · exact ⟨Nat.le_trans hsz (f2 r hr).1, (f2 r hr).2⟩
    · obtain ⟨g1, g2⟩ := f1 r hr
      exact ⟨g1, (hs.frame r (Array.getElem?_eq_some_iff.1 g2).1 (hsim.notBacks g2)).trans g2⟩
def calm : Exit → Prop
  | .panic _ | .outgrown => False
  | _ => True
def RdRel (κ : K) : Option Nat → Option Nat → Prop
  | none, none => True
  | some n, some c => ∃ l, κ.rho n = some (some l) ∧ l.blk = c
  | _, _ => False
theorem RdRel.mono {κ κ' : K} (h : κ.le κ') {a b : Option Nat} (hr : RdRel κ a b) : RdRel κ' a b := by
  cases a <;> cases b <;> try exact hr
  obtain ⟨l, h1, h2⟩ := hr
  exact ⟨l, h.rho _ _ h1, h2⟩
def W (P : Program) (rd : Option Nat) (c : Code) (Q : Exit → List AV → Mem → Prop) (env : List AV) (m : Mem) : Prop :=
  ∀ κ w (a : Act) (crd : Option Nat), Sim P κ m w → Rels κ env a.tmps → RdRel κ rd crd →
    c.wpIn (Fr crd) 0 P (fun e a' w' => ∃ env' m' κ', calm e ∧ Q e env' m' ∧ Step P κ m w κ' m' w' ∧ Rels κ' env' a'.tmps ∧ Marks w w' a.defers a'.defers) a w
section
variable {rd : Option Nat} {Q : Exit → List AV → Mem → Prop} {env : List AV} {m : Mem}
theorem W.mono {c : Code} {Q' : Exit → List AV → Mem → Prop} (h : W P rd c Q env m) (hq : ∀ e env m, Q e env m → Q' e env m) : W P rd c Q' env m :=
  fun κ w a crd hs hr hd => wpIn_mono (h κ w a crd hs hr hd) fun e a' w' ⟨env', m', κ', h0, h1, h2⟩ => ⟨env', m', κ', h0, hq _ _ _ h1, h2⟩
theorem W.skip (h : Q .normal env m) : W P rd .skip Q env m := fun κ w a crd hs hr hd => wpIn_skip ⟨env, m, κ, trivial, h, Step.refl hs, hr, Marks.refl ..⟩
theorem W.label {l : Nat} (h : Q .normal env m) : W P rd (.label l) Q env m := fun κ w a crd hs hr hd => wpIn_label ⟨env, m, κ, trivial, h, Step.refl hs, hr, Marks.refl ..⟩
theorem W.exit {id : Nat} (h : Q (.exit id) env m) : W P rd (.exit id) Q env m := fun κ w a crd hs hr hd => wpIn_exit ⟨env, m, κ, trivial, h, Step.refl hs, hr, Marks.refl ..⟩
theorem W.ret (h : Q .ret env m) : W P rd .ret Q env m := fun κ w a crd hs hr hd => wpIn_ret ⟨env, m, κ, trivial, h, Step.refl hs, hr, Marks.refl ..⟩
def andThen (K' : List AV → Mem → Prop) (Q : Exit → List AV → Mem → Prop) : Exit → List AV → Mem → Prop
  | .normal => K'
  | e => Q e
theorem W.seq {x y : Code} (h : W P rd x (andThen (W P rd y Q) Q) env m) : W P rd (.seq x y) Q env m := by
  intro κ w a crd hs hr hd
  refine wpIn_seq (wpIn_mono (h κ w a crd hs hr hd) ?_)
  rintro e a1 w1 ⟨env1, m1, κ1, h0, h1, h2, h3, h4⟩
  cases e with
  | normal =>
    refine wpIn_mono (h1 κ1 w1 a1 crd h2.sim h3 (hd.mono h2.le)) ?_
    rintro e a2 w2 ⟨env2, m2, κ2, g0, g1, g2, g3, g4⟩
    exact ⟨env2, m2, κ2, g0, g1, h2.trans g2, g3, h4.trans g2 h2.sim h2.size g4⟩
  | _ => exact ⟨env1, m1, κ1, h0, h1, h2, h3, h4⟩
theorem W.cond {c : Operand} {x y : Code} {t : Bool} (hc : evA env c = .val (.bool t)) (h : W P rd (if t then x else y) Q env m) : W P rd (.cond c x y) Q env m := by
  intro κ w a crd hs hr hd
  have hv := evA_rel hr c
  rw [hc] at hv
  exact wpIn_cond hv.val_inv.1 (h κ w a crd hs hr hd)
def inBlk (id : Nat) (Q : Exit → List AV → Mem → Prop) : Exit → List AV → Mem → Prop
  | .exit id' => if id' = id then Q .normal else Q (.exit id')
  | e => Q e
theorem W.block {id : Nat} {c : Code} (h : W P rd c (inBlk id Q) env m) : W P rd (.block id c) Q env m := by
  intro κ w a crd hs hr hd
  refine wpIn_block (wpIn_mono (h κ w a crd hs hr hd) ?_)
  rintro e a1 w1 ⟨env1, m1, κ1, h0, h1, h2, h3, h4⟩
  cases e with
  | exit id' =>
    simp only [Exit.inBlock]
    simp only [inBlk] at h1
    split
    · rename_i e; rw [if_pos e] at h1; exact ⟨env1, m1, κ1, trivial, h1, h2, h3, h4⟩
    · rename_i e; rw [if_neg e] at h1; exact ⟨env1, m1, κ1, h0, h1, h2, h3, h4⟩
  | panic c => exact h0.elim
  | outgrown => exact h0.elim
  | _ => exact ⟨env1, m1, κ1, h0, h1, h2, h3, h4⟩
def noGo {α β : Type} (Q : Exit → α → β → Prop) : Exit → α → β → Prop
  | .goto _ => fun _ _ => False
  | e => Q e
theorem stepR_scope {b : Frame} {a : Act} {k : List Item} {cs : List Frame} {w : World} {c : Code} : step P (lone (b.atR a (.code (.scope c) :: k)) cs w) = .next (lone (b.atR a (.code c :: .inScope c :: k)) cs w) :=
  step_lone_go (by simp [stepG, stepG.exec, Frame.atR])
theorem stepR_inScope {b : Frame} {a : Act} {k : List Item} {cs : List Frame} {w : World} {c : Code} : step P (lone (b.atR a (.inScope c :: k)) cs w) = .next (lone (b.atR a k) cs w) :=
  step_lone_go (by simp [stepG, stepG.exec, Frame.atR])
theorem wpIn_scope {F : Fence} {n : Nat} {c : Code} {Q : Exit → Act → World → Prop} {a : Act} {w : World} (h : c.wpIn F n P (noGo Q) a w) : (Code.scope c).wpIn F n P Q a w := by
  intro b k cs hro hb hr
  have h0 : (lone (b.atR a (.code (.scope c) :: k)) cs w).fenced P F := fenced_calm hb hr rfl
  obtain ⟨e, a₁, w₁, hq, harr⟩ := h b (.inScope c :: k) cs hro hb hr
  cases e with
  | normal => exact ⟨.normal, a₁, w₁, hq, .head h0 stepR_scope (StepsIn.trans harr (.one (fenced_calm hb hr rfl) stepR_inScope))⟩
  | exit id' =>
    have hx : exitTo id' (.inScope c :: k) = exitTo id' k := by simp [exitTo]
    exact ⟨.exit id', a₁, w₁, hq, fun k' hk => .head h0 stepR_scope (harr.1 k' (by rw [hx]; exact hk)),
      fun hr' hk => let ⟨k₁, h1, h2⟩ := harr.2 hr' (by rw [hx]; exact hk); ⟨k₁, h1, .head h0 stepR_scope h2⟩⟩
  | goto l => exact hq.elim
  | ret => exact ⟨_, a₁, w₁, hq, .of_steps (.one h0 stepR_scope) harr⟩
  | panic ch => exact ⟨_, a₁, w₁, hq, .of_steps (.one h0 stepR_scope) harr⟩
  | outgrown => exact ⟨_, a₁, w₁, hq, .of_steps (.one h0 stepR_scope) harr⟩
theorem W.scope {c : Code} (h : W P rd c (noGo Q) env m) : W P rd (.scope c) Q env m := by
  intro κ w a crd hs hr hd
  refine wpIn_scope (wpIn_mono (h κ w a crd hs hr hd) ?_)
  rintro e a1 w1 ⟨env1, m1, κ1, h0, h1, h2, h3, h4⟩
  cases e with
  | goto l => exact h1.elim
  | panic c => exact h0.elim
  | outgrown => exact h0.elim
  | _ => exact ⟨env1, m1, κ1, h0, h1, h2, h3, h4⟩
theorem wpIn_loop' {F : Fence} {n : Nat} {c : Code} {Q : Exit → Act → World → Prop} {a : Act} {w : World} (I : Nat → Act → World → Prop) {j0 : Nat} (h₀ : I j0 a w)
    (round : ∀ j a w, I j a w → c.wpIn F n P (Exit.then (fun a' w' => ∃ j', j' < j ∧ I j' a' w') Q) a w) : (Code.loop c).wpIn F n P Q a w := by
  intro b k cs hro hb hr
  have key : ∀ j a w, I j a w → ∃ e a' w', Q e a' w' ∧ ArrivesIn (Machine.fenced P F) P (lone (b.atR a (.code c :: .inLoop c :: k)) cs w) b k cs e a' w' := by
    intro j
    induction j using Nat.strongRecOn with
    | _ j ih =>
      intro a w hI
      obtain ⟨e, a₁, w₁, hq, harr⟩ := round j a w hI b (.inLoop c :: k) cs hro hb hr
      cases e with
      | normal =>
        obtain ⟨j', hlt, hI₁⟩ := hq
        obtain ⟨e₂, a₂, w₂, hq₂, harr₂⟩ := ih j' hlt a₁ w₁ hI₁
        exact ⟨e₂, a₂, w₂, hq₂, .of_steps (StepsIn.trans harr (.one (fenced_calm hb hr rfl) stepR_inLoop)) harr₂⟩
      | exit id => exact ⟨_, a₁, w₁, hq, .pass (x := .inLoop c) rfl (fun _ _ => .inl (by simp)) harr⟩
      | goto l => exact ⟨_, a₁, w₁, hq, .pass (x := .inLoop c) rfl (fun _ _ => .inl (by simp)) harr⟩
      | ret => exact ⟨_, a₁, w₁, hq, .pass (x := .inLoop c) rfl (fun _ _ => .inl (by simp)) harr⟩
      | panic ch => exact ⟨_, a₁, w₁, hq, .pass (x := .inLoop c) rfl (fun _ _ => .inl (by simp)) harr⟩
      | outgrown => exact ⟨_, a₁, w₁, hq, .pass (x := .inLoop c) rfl (fun _ _ => .inl (by simp)) harr⟩
  obtain ⟨e, a', w', hq, harr⟩ := key _ a w h₀
  exact ⟨e, a', w', hq, .of_steps (.one (fenced_calm hb hr rfl) stepR_loop) harr⟩
theorem W.loop {c : Code} (I : Nat → List AV → Mem → Prop) {j0 : Nat} (h₀ : I j0 env m) (round : ∀ j env m, I j env m → W P rd c (andThen (fun env' m' => ∃ j', j' < j ∧ I j' env' m') Q) env m) : W P rd (.loop c) Q env m := by
  intro κ w a crd hs hr hd
  refine wpIn_loop' (fun j a1 w1 => ∃ env1 m1 κ1, I j env1 m1 ∧ Step P κ m w κ1 m1 w1 ∧ Rels κ1 env1 a1.tmps ∧ Marks w w1 a.defers a1.defers) (j0 := j0) ⟨env, m, κ, h₀, Step.refl hs, hr, Marks.refl ..⟩ ?_
  rintro j a1 w1 ⟨env1, m1, κ1, hI, h2, h3, h4⟩
  refine wpIn_mono (round j env1 m1 hI κ1 w1 a1 crd h2.sim h3 (hd.mono h2.le)) ?_
  rintro e a2 w2 ⟨env2, m2, κ2, g0, g1, g2, g3, g4⟩
  cases e with
  | normal =>
    obtain ⟨j', q1, q2⟩ := g1
    exact ⟨j', q1, env2, m2, κ2, q2, h2.trans g2, g3, h4.trans g2 h2.sim h2.size g4⟩
  | panic c => exact g0.elim
  | outgrown => exact g0.elim
  | _ => exact ⟨env2, m2, κ2, g0, g1, h2.trans g2, g3, h4.trans g2 h2.sim h2.size g4⟩
theorem W.region {id : Nat} {ops : Array Oper} (h : opsK P ops (Q .normal) ops.toList env m) : W P rd (.region id ops false) Q env m := by
  intro κ w a crd hs hr hd
  refine wpIn_region ?_
  have := opsK_sound crd ops.toList 0 (by simp) env m h κ w a hs hr (Q' := fun e a' w' => ∃ env' m' κ', calm e ∧ Q e env' m' ∧ Step P κ m w κ' m' w' ∧ Rels κ' env' a'.tmps ∧ Marks w w' a.defers a'.defers)
    (fun env' m' κ' w' a' g1 g2 g3 g4 => ⟨env', m', κ', trivial, g1, g2, g3, by rw [g4]; exact Marks.refl ..⟩)
  rw [List.range_eq_range']
  simpa using this
theorem noDefer_of {ops : Array Oper} (h : ops.all (fun o => match o.op with | .defer _ => false | _ => true) = true) : ∀ (i : Nat) (o : Oper) c, ops[i]? = some o → o.op ≠ .defer c := by
  intro i o c ho e
  have hm := Array.all_eq_true_iff_forall_mem.1 h o (Array.mem_of_getElem? ho)
  rw [e] at hm
  cases hm
theorem W.draws {id : Nat} {ops : Array Oper} (hm : P.follows .mixedOrders = true) (hB : Region.lexB .any ops = true) (hd : ops.all (fun o => match o.op with | .defer _ => false | _ => true) = true)
    (h : opsQ P ops (Q .normal) ops.toList env m) : W P rd (.region id ops true) Q env m := by
  intro κ w a crd hs hr hrd
  simp only [Region.lexB, Bool.and_eq_true] at hB
  have hst := Step.drew hs
  refine wpIn_region_any' hm (wpAnyIn_of_quiet (C' := fun w' => w' = w.drew) (Q := fun a' => ∃ env', Q .normal env' m ∧ Rels κ env' a'.tmps ∧ a'.defers = a.defers) (noDefer_of hd) ?_ _ _ _ _ rfl ?_)
  · rintro a' w' rfl ⟨env', g1, g2, g3⟩
    exact ⟨env', m, κ, trivial, g1, hst, g2, by rw [g3]; exact Marks.refl ..⟩
  · have hq := opsQ_sound ops.toList env m h κ w.drew a hst.sim hr (Q' := fun a' => ∃ env', Q .normal env' m ∧ Rels κ env' a'.tmps ∧ a'.defers = a.defers) (fun env' a' g1 g2 g3 => ⟨env', g1, g2, g3⟩)
    have := wpAnyQ_lex (C := fun w' => w' = w.drew) (md := .any) hB.1 ops.toList 0 (Array.replicate ops.size false) a (by simp) (by simpa using hB.2) hq
    simpa using this
def EnvLe (env env' : List AV) : Prop := env.length = env'.length ∧ ∀ (i : Nat) (h : i < env.length) (h' : i < env'.length), env'[i] = env[i] ∨ env'[i] = .junk
theorem Rels.le {κ : K} {env env' : List AV} (h : EnvLe env env') {ca : Array Value} (hr : Rels κ env ca) : Rels κ env' ca :=
  ⟨h.1 ▸ hr.1, fun i h1 h2 => by
    rcases h.2 i (h.1 ▸ h1) h1 with e | e
    · rw [e]; exact hr.2 i _ h2
    · rw [e]; exact .junk⟩
theorem Step.less {κ κ' : K} {m m' m'' : Mem} {w w' : World} (hsub : m'.sub m) (hs : Sim P κ m w) (h : Step P κ m' w κ' m'' w') : Step P κ m w κ' m'' w' :=
  ⟨h.le, h.sim, h.size, fun c hc hb => h.frame c hc fun hb' => hb (hb'.sub hsub), fun c hc hb => (h.origin c hc hb).sub hsub, h.os, h.tape, h.output,
    fun c o hc hp => (h.porigin c o hc hp).imp_right fun hb => hb.sub hsub, fun n hr hm => h.dead n hr (by
      cases hk : m' n with
      | none => rfl
      | some b => have := hsub n b hk; rw [hm] at this; cases this)⟩
def Ghosts (P : Program) (env : List AV) (m : Mem) (K' : List AV → Mem → Prop) : Prop :=
  ∀ κ w ca, Sim P κ m w → Rels κ env ca → ∃ env' m' κ', K' env' m' ∧ Step P κ m w κ' m' w ∧ Rels κ' env' ca
theorem Ghosts.mk {K' : List AV → Mem → Prop} (h : K' env m) : Ghosts P env m K' := fun κ w ca hs hr => ⟨env, m, κ, h, Step.refl hs, hr⟩
theorem Ghosts.mono {K' K'' : List AV → Mem → Prop} (h : Ghosts P env m K') (hk : ∀ e m, K' e m → K'' e m) : Ghosts P env m K'' := fun κ w ca hs hr =>
  let ⟨env', m', κ', a, b, c⟩ := h κ w ca hs hr; ⟨env', m', κ', hk _ _ a, b, c⟩
theorem Ghosts.sub {K' : List AV → Mem → Prop} {m' : Mem} (hm : m'.sub m) (h : Ghosts P env m' K') : Ghosts P env m K' := fun κ w ca hs hr =>
  let ⟨env', m2, κ', a, b, c⟩ := h κ w ca (hs.sub hm) hr; ⟨env', m2, κ', a, b.less hm hs, c⟩
theorem Ghosts.le {K' : List AV → Mem → Prop} {env' : List AV} (he : EnvLe env env') (h : Ghosts P env' m K') : Ghosts P env m K' := fun κ w ca hs hr => h κ w ca hs (hr.le he)
theorem W.ghost {c : Code} (h : Ghosts P env m (fun env' m' => W P rd c Q env' m')) : W P rd c Q env m := by
  intro κ w a crd hs hr hd
  obtain ⟨env1, m1, κ1, h1, h2, h3⟩ := h κ w a.tmps hs hr
  refine wpIn_mono (h1 κ1 w a crd h2.sim h3 (hd.mono h2.le)) ?_
  rintro e a1 w1 ⟨env2, m2, κ2, g0, g1, g2, g3, g4⟩
  exact ⟨env2, m2, κ2, g0, g1, h2.trans g2, g3, g4⟩
theorem W.loopG {c : Code} (I : Nat → List AV → Mem → Prop) {j0 : Nat} (h₀ : Ghosts P env m (I j0)) (round : ∀ j env m, I j env m → W P rd c (andThen (fun env' m' => Ghosts P env' m' (fun env' m' => ∃ j', j' < j ∧ I j' env' m')) Q) env m) : W P rd (.loop c) Q env m := by
  intro κ w a crd hs hr hd
  refine wpIn_loop' (fun j a1 w1 => ∃ env1 m1 κ1, I j env1 m1 ∧ Step P κ m w κ1 m1 w1 ∧ Rels κ1 env1 a1.tmps ∧ Marks w w1 a.defers a1.defers) (j0 := j0) ?_ ?_
  · obtain ⟨env1, m1, κ1, h1, h2, h3⟩ := h₀ κ w a.tmps hs hr
    exact ⟨env1, m1, κ1, h1, h2, h3, Marks.refl ..⟩
  · rintro j a1 w1 ⟨env1, m1, κ1, hI, h2, h3, h4⟩
    refine wpIn_mono (round j env1 m1 hI κ1 w1 a1 crd h2.sim h3 (hd.mono h2.le)) ?_
    rintro e a2 w2 ⟨env2, m2, κ2, g0, g1, g2, g3, g4⟩
    cases e with
    | normal =>
      obtain ⟨env3, m3, κ3, ⟨j', q1, q2⟩, q3, q4⟩ := g1 κ2 w2 a2.tmps g2.sim g3
      exact ⟨j', q1, env3, m3, κ3, q2, (h2.trans g2).trans q3, q4, h4.trans g2 h2.sim h2.size g4⟩
    | panic c => exact g0.elim
    | outgrown => exact g0.elim
    | _ => exact ⟨env2, m2, κ2, g0, g1, h2.trans g2, g3, h4.trans g2 h2.sim h2.size g4⟩
end
end Go.Abs
