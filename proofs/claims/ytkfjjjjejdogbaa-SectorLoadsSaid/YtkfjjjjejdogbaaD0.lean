/- Package 05: the data: sectors, what is written, a device. -/
import Derived.Test.YtkfjjjjejdogbaaTy
import Derived.Test.YtkfjjjjejdogbaaKode
import Derived.Test.YtkfjjjjejdogbaaA21
set_option maxRecDepth 100000
set_option maxHeartbeats 1000000
set_option linter.unusedSimpArgs false
set_option linter.unusedVariables false
namespace Go.Proofs.Ytkfjjjjejdogbaa
open Go.Abs
attribute [local irreducible] C X CC Y CV CW binK litK AppK PureC PureCV againK loopV rangeV allK ifK got onB condK V stepsK planK opK firstK seeE keepsK

theorem laidOut : laidOutB Try.prog = true := by kernel_rfl
/-- What no rewriting is to see. -/
def Kept (p : Prop) : Prop := p
/-! ### A sector -/
structure Sec where
  l : List UInt8
  h : l.length = 64
def Sec.zero : Sec := ⟨List.replicate 64 0, List.length_replicate⟩
instance : Inhabited Sec := ⟨Sec.zero⟩
def Sec.cells (s : Sec) : List AV := (s.l.map byteC).flatten
theorem Sec.len (s : Sec) : s.cells.length = 64 := (flatten_one s.l).trans s.h
theorem Sec.zr : zr_68 = Sec.zero.cells := rfl
theorem Sec.zr' : zr_67 = Sec.zero.cells := rfl
theorem bytes_all : ∀ (l : List UInt8), (l.map byteC).flatten.all AV.one = true
  | [] => rfl
  | b :: l => by
    have : ((b :: l).map byteC).flatten = .val (.int .u8 b.toNat) :: (l.map byteC).flatten := rfl
    rw [this, List.all_cons, bytes_all l]; rfl
theorem Sec.all (s : Sec) : s.cells.all AV.one = true := bytes_all s.l
theorem Sec.take (s : Sec) : s.cells.take 64 = s.cells := List.take_of_length_le (by rw [s.len]; exact Nat.le_refl _)
theorem Sec.drop (s : Sec) : s.cells.drop 64 = [] := List.drop_eq_nil_of_le (by rw [s.len]; exact Nat.le_refl _)
theorem Sec.put (s z : Sec) : setRange z.cells 0 s.cells = s.cells := by
  unfold setRange
  rw [List.take_zero, List.nil_append, Nat.zero_add, s.len, Sec.drop, List.append_nil]
theorem Sec.vals (s : Sec) : ∀ c ∈ s.cells, ∃ v, c = .val v := vals_row byteC byteC_vals s.l
theorem Sec.inj {s t : Sec} (h : s.l = t.l) : s = t := by cases s; cases t; cases h; rfl
theorem flats_all : ∀ {l : List AV}, (∀ c ∈ l, ∃ v, c = .val v) → AV.flat.flats l = true
  | [], _ => rfl
  | c :: l, h => by
    obtain ⟨v, rfl⟩ := h c (by simp)
    show (AV.flat (.val v) && AV.flat.flats l) = true
    rw [flats_all fun c hc => h c (by simp [hc])]; rfl
theorem Sec.flats (s : Sec) : AV.flat.flats s.cells = true := flats_all s.vals
/-- A row's first 64 bytes. -/
def secOf (l : List UInt8) (h : 64 ≤ l.length) : Sec := ⟨l.take 64, by simp; omega⟩
/-! ### What is written -/
structure Wr where
  at_ : Nat
  s : Sec
instance : Inhabited Wr := ⟨⟨0, default⟩⟩
def Wr.cells (w : Wr) : List AV := .val (.int .i64 w.at_) :: w.s.cells
theorem Wr.len (w : Wr) : w.cells.length = 65 := by unfold Wr.cells; rw [List.length_cons, w.s.len]
theorem Wr.zr : zr_70 = (default : Wr).cells := rfl
theorem Wr.all (w : Wr) : w.cells.all AV.one = true := by unfold Wr.cells; rw [List.all_cons, w.s.all]; rfl
theorem Wr.take (s : Wr) : s.cells.take 65 = s.cells := List.take_of_length_le (by rw [s.len]; exact Nat.le_refl _)
theorem Wr.drop (s : Wr) : s.cells.drop 65 = [] := List.drop_eq_nil_of_le (by rw [s.len]; exact Nat.le_refl _)
theorem Wr.g0 (w : Wr) : w.cells[0]? = some (.val (.int .i64 w.at_)) := rfl
theorem Wr.part1 (w : Wr) : List.take 64 (List.drop 1 w.cells) = w.s.cells := w.s.take
theorem Wr.put (s z : Wr) : setRange z.cells 0 s.cells = s.cells := by
  unfold setRange
  rw [List.take_zero, List.nil_append, Nat.zero_add, s.len, Wr.drop, List.append_nil]
theorem Wr.vals (w : Wr) : ∀ c ∈ w.cells, ∃ v, c = .val v := fun c hc => by
  rcases List.mem_cons.1 hc with rfl | hc
  · exact ⟨_, rfl⟩
  · exact w.s.vals c hc
theorem Wr.flats (w : Wr) : AV.flat.flats w.cells = true := flats_all w.vals
theorem Wr.build (a : Nat) (s : Sec) : buildA Try.prog 70 [(0, .val (.int .i64 a)), (1, .agg s.cells)] = some (.agg (Wr.cells ⟨a, s⟩)) := by
  have h1 : setRange zr_70 0 [.val (.int .i64 a)] = Wr.cells ⟨a, Sec.zero⟩ := rfl
  have h2 : setRange (Wr.cells ⟨a, Sec.zero⟩) 1 s.cells = Wr.cells ⟨a, s⟩ := by
    unfold setRange Wr.cells
    rw [s.len]
    simp only [List.take_succ_cons, List.take_zero, List.cons_append, List.nil_append, Nat.reduceAdd, List.drop_succ_cons, Sec.drop, List.append_nil]
  simp only [buildA, ti_70, z_70, placesA, ti_3, ti_68, fillA, AV.cells, s.all, if_true, h1, List.getElem?_cons_zero, List.getElem?_cons_succ, List.length_cons, List.length_nil]
  rw [if_pos ⟨trivial, by rw [Wr.zr, Wr.len]; decide⟩]
  simp only [h2]
  rw [if_pos ⟨s.len, by rw [Wr.len]; decide⟩]
/-! ### Rows of them -/
section
variable (l : List Sec)
theorem Sec.rlen : (l.map Sec.cells).flatten.length = l.length * 64 := row_len Sec.cells Sec.len l
theorem Sec.rpart (k : Nat) (hk : k < l.length) : ((l.map Sec.cells).flatten.drop (k * 64)).take 64 = (l.getD k default).cells := row_part Sec.cells Sec.len l hk
theorem Sec.rin (k : Nat) (hk : k < l.length) : (k * 64 + 64 ≤ (l.map Sec.cells).flatten.length) = True := eq_true (row_in Sec.cells (s := 64) Sec.len l hk (Nat.le_refl _))
theorem Sec.rset (k : Nat) (hk : k < l.length) (d : Sec) : setRange (l.map Sec.cells).flatten (k * 64) d.cells = ((l.set k d).map Sec.cells).flatten := row_set Sec.cells Sec.len l hk d
end
section
variable (l : List Wr)
theorem Wr.rlen : (l.map Wr.cells).flatten.length = l.length * 65 := row_len Wr.cells Wr.len l
theorem Wr.rpart (k : Nat) (hk : k < l.length) : ((l.map Wr.cells).flatten.drop (k * 65)).take 65 = (l.getD k default).cells := row_part Wr.cells Wr.len l hk
theorem Wr.rin (k : Nat) (hk : k < l.length) : (k * 65 + 65 ≤ (l.map Wr.cells).flatten.length) = True := eq_true (row_in Wr.cells (s := 65) Wr.len l hk (Nat.le_refl _))
theorem Wr.rat0 (k : Nat) (hk : k < l.length) : (l.map Wr.cells).flatten[k * 65]? = some (.val (.int .i64 (l.getD k default).at_)) := by
  have h := row_at Wr.cells (s := 65) Wr.len l (k := k) (j := 0) hk (Nat.zero_lt_succ _)
  rw [Nat.add_zero] at h
  rw [h, Wr.g0]
theorem Wr.rset (k : Nat) (hk : k < l.length) (d : Wr) : setRange (l.map Wr.cells).flatten (k * 65) d.cells = ((l.set k d).map Wr.cells).flatten := row_set Wr.cells Wr.len l hk d
end
theorem Wr.rin1 (l : List Wr) (k : Nat) (hk : k < l.length) : (k * 65 + 1 + 64 ≤ (l.map Wr.cells).flatten.length) = True := by
  rw [Nat.add_assoc]; exact Wr.rin l k hk
theorem Wr.rset1 (l : List Wr) (k : Nat) (hk : k < l.length) (s : Sec) : setRange (l.map Wr.cells).flatten (k * 65 + 1) s.cells = ((l.set k ⟨(l.getD k default).at_, s⟩).map Wr.cells).flatten :=
  row_sub Wr.cells Wr.len l hk s.cells (by rw [s.len]; decide) _ (by
    show Wr.cells ⟨(l.getD k default).at_, s⟩ = setRange (Wr.cells ⟨(l.getD k default).at_, (l.getD k default).s⟩) 1 s.cells
    unfold setRange Wr.cells
    rw [s.len]
    simp only [List.take_succ_cons, List.take_zero, List.cons_append, List.nil_append, Nat.reduceAdd, List.drop_succ_cons, Sec.drop, List.append_nil])
/-! ### A device -/
structure Dev where
  list : List Wr
  set : Bool
  left : Int
  pick : Int
  laid : List Sec
  dead : Bool
  w : Nat
  f : Nat
/-- As it is read. -/
def Dev.rc (d : Dev) (x y : Bool) : List AV := [.vs (d.list.map Wr.cells) x, .val (.bool d.set), .val (.int .i64 d.left), .val (.int .u64 d.pick), .vs (d.laid.map Sec.cells) y, .val (.bool d.dead), .val (.int .i64 d.w), .val (.int .i64 d.f)]
theorem Dev.r0 (d : Dev) (x y : Bool) : (d.rc x y)[0]? = some (.vs (d.list.map Wr.cells) x) := rfl
theorem Dev.r1 (d : Dev) (x y : Bool) : (d.rc x y)[1]? = some (.val (.bool d.set)) := rfl
theorem Dev.r2 (d : Dev) (x y : Bool) : (d.rc x y)[2]? = some (.val (.int .i64 d.left)) := rfl
theorem Dev.r3 (d : Dev) (x y : Bool) : (d.rc x y)[3]? = some (.val (.int .u64 d.pick)) := rfl
theorem Dev.r4 (d : Dev) (x y : Bool) : (d.rc x y)[4]? = some (.vs (d.laid.map Sec.cells) y) := rfl
theorem Dev.r5 (d : Dev) (x y : Bool) : (d.rc x y)[5]? = some (.val (.bool d.dead)) := rfl
theorem Dev.r6 (d : Dev) (x y : Bool) : (d.rc x y)[6]? = some (.val (.int .i64 d.w)) := rfl
theorem Dev.r7 (d : Dev) (x y : Bool) : (d.rc x y)[7]? = some (.val (.int .i64 d.f)) := rfl
/-- As it is the run's own: c is the row of what is written, nL is where the sectors lie. -/
def Dev.own (d : Dev) (c : AV) (nL : Nat) : List AV := [c, .val (.bool d.set), .val (.int .i64 d.left), .val (.int .u64 d.pick), .sl nL 0 d.laid.length d.laid.length, .val (.bool d.dead), .val (.int .i64 d.w), .val (.int .i64 d.f)]
theorem Dev.o0 (d : Dev) (c : AV) (nL : Nat) : (d.own c nL)[0]? = some c := rfl
theorem Dev.o1 (d : Dev) (c : AV) (nL : Nat) : (d.own c nL)[1]? = some (.val (.bool d.set)) := rfl
theorem Dev.o2 (d : Dev) (c : AV) (nL : Nat) : (d.own c nL)[2]? = some (.val (.int .i64 d.left)) := rfl
theorem Dev.o3 (d : Dev) (c : AV) (nL : Nat) : (d.own c nL)[3]? = some (.val (.int .u64 d.pick)) := rfl
theorem Dev.o4 (d : Dev) (c : AV) (nL : Nat) : (d.own c nL)[4]? = some (.sl nL 0 d.laid.length d.laid.length) := rfl
theorem Dev.o5 (d : Dev) (c : AV) (nL : Nat) : (d.own c nL)[5]? = some (.val (.bool d.dead)) := rfl
theorem Dev.o6 (d : Dev) (c : AV) (nL : Nat) : (d.own c nL)[6]? = some (.val (.int .i64 d.w)) := rfl
theorem Dev.o7 (d : Dev) (c : AV) (nL : Nat) : (d.own c nL)[7]? = some (.val (.int .i64 d.f)) := rfl
theorem Dev.olen (d : Dev) (c : AV) (nL : Nat) : (d.own c nL).length = 8 := rfl
theorem Dev.s0 (d : Dev) (c c' : AV) (nL : Nat) : setRange (d.own c nL) 0 [c'] = d.own c' nL := rfl
theorem Dev.s1 (d : Dev) (c : AV) (nL : Nat) (a : Bool) (b p : Int) : setRange (d.own c nL) 1 [.val (.bool a), .val (.int .i64 b), .val (.int .u64 p)] = ({ d with set := a, left := b, pick := p } : Dev).own c nL := rfl
theorem Dev.s2 (d : Dev) (c : AV) (nL : Nat) (b : Int) : setRange (d.own c nL) 2 [.val (.int .i64 b)] = ({ d with left := b } : Dev).own c nL := rfl
theorem Dev.s5 (d : Dev) (c : AV) (nL : Nat) (a : Bool) : setRange (d.own c nL) 5 [.val (.bool a)] = ({ d with dead := a } : Dev).own c nL := rfl
theorem Dev.s6 (d : Dev) (c : AV) (nL : Nat) : setRange (d.own c nL) 6 [.val (.int .i64 ((d.w : Int) + 1))] = ({ d with w := d.w + 1 } : Dev).own c nL := rfl
theorem Dev.s7 (d : Dev) (c : AV) (nL : Nat) : setRange (d.own c nL) 7 [.val (.int .i64 ((d.f : Int) + 1))] = ({ d with f := d.f + 1 } : Dev).own c nL := rfl
theorem Dev.oall (d : Dev) (c : AV) (nL : Nat) (h : c.one = true) : (d.own c nL).all AV.one = true := by
  unfold Dev.own; rw [List.all_cons, h]; rfl
def Dev.row (d : Dev) (nl : Nat) : AV := .sl nl 0 d.list.length d.list.length
def Dev.mem (d : Dev) (N nl nL : Nat) : Mem := ((nomem.set nL (.cells false 68 (d.laid.map Sec.cells).flatten)).set nl (.cells true 70 (d.list.map Wr.cells).flatten)).set N (.cells false 59 (d.own (d.row nl) nL))
/-- The device d lies at N, in the memory m. -/
def Dev.At (d : Dev) (N : Nat) (m : Mem) : Prop := ∃ nl nL, N ≠ nl ∧ N ≠ nL ∧ nl ≠ nL ∧ m = d.mem N nl nL
structure Dev.Ok (d : Dev) : Prop where
  some : 1 ≤ d.laid.length
  most : d.laid.length ≤ 4096
  at_ : ∀ w ∈ d.list, w.at_ < d.laid.length
  once : (d.list.map (·.at_)).Nodup
  cut : d.set = true → 0 ≤ d.left ∧ d.left ≤ 9223372036854775807
theorem pigeon : ∀ (n : Nat) (l : List Nat), l.Nodup → (∀ x ∈ l, x < n) → l.length ≤ n
  | 0, [], _, _ => Nat.le_refl _
  | 0, x :: l, _, h => absurd (h x (by simp)) (Nat.not_lt_zero _)
  | n + 1, l, hn, h => by
    have := pigeon n (l.erase n) (hn.erase n) fun x hx => by
      rw [hn.mem_erase_iff] at hx
      have := h x hx.2; omega
    have h2 : l.length ≤ (l.erase n).length + 1 := by rw [List.length_erase]; split <;> omega
    omega
theorem Dev.Ok.list {d : Dev} (h : d.Ok) : d.list.length ≤ 4096 := by
  have := pigeon d.laid.length (d.list.map (·.at_)) h.once fun x hx => by
    obtain ⟨w, hw, rfl⟩ := List.mem_map.1 hx
    exact h.at_ w hw
  have := h.most
  simp at *; omega
theorem Dev.seenIn (d : Dev) {N nl nL : Nat} {m : Mem} (hN : m N = Option.some (.cells false 59 (d.own (d.row nl) nL))) (hl : m nl = Option.some (.cells true 70 (d.list.map Wr.cells).flatten)) (hL : m nL = Option.some (.cells false 68 (d.laid.map Sec.cells).flatten)) (off : Nat) :
    Seen m (.ptr N off) (.vp (d.rc false false) off) := by
  refine .ptr hN (Nat.zero_lt_succ _) rfl fun i h h' => ?_
  have hi : i < 8 := h
  have hl' : Seen m (.sl nl 0 d.list.length d.list.length) (.vs (d.list.map Wr.cells) false) := Seen.row Wr.cells Wr.len d.list hl
  have hL' : Seen m (.sl nL 0 d.laid.length d.laid.length) (.vs (d.laid.map Sec.cells) false) := Seen.row Sec.cells Sec.len d.laid hL
  match i, hi with
  | 0, _ => exact hl'
  | 1, _ => exact .same
  | 2, _ => exact .same
  | 3, _ => exact .same
  | 4, _ => exact hL'
  | 5, _ => exact .same
  | 6, _ => exact .same
  | 7, _ => exact .same
theorem Dev.At.seen {d : Dev} {N : Nat} {m M : Mem} (h : d.At N m) (hs : m.sub M) (off : Nat) : Seen M (.ptr N off) (.vp (d.rc false false) off) := by
  obtain ⟨nl, nL, h1, h2, h3, rfl⟩ := h
  refine (d.seenIn (nl := nl) (nL := nL) (Mem.set_same _ _ _) ?_ ?_ off).mono hs
  · show Dev.mem d N nl nL _ = _
    unfold Dev.mem
    rw [Mem.set_ne _ _ (Ne.symm h1), Mem.set_same]
  · show Dev.mem d N nl nL _ = _
    unfold Dev.mem
    rw [Mem.set_ne _ _ (Ne.symm h2), Mem.set_ne _ _ (Ne.symm h3), Mem.set_same]
end Go.Proofs.Ytkfjjjjejdogbaa

