/- The texts D0 D1 D2 D3 D4 D5 D6 D7 D8 D11 D14 D15 D16 D17 D18 D21: what is proved on the way to the law. No conditions but those each theorem states. -/
import Derived.Test.YtlkeailgccbmbaaM3
set_option maxRecDepth 100000
set_option maxHeartbeats 1000000
set_option linter.unusedSimpArgs false
set_option linter.unusedVariables false
namespace Go.Proofs.Ytlkeailgccbmbaa
open Go.Abs
attribute [local irreducible] C X CC Y CV CW binK litK AppK PureC PureCV againK loopV rangeV allK ifK got onB condK V stepsK planK opK firstK seeE keepsK
theorem laidOut : laidOutB Try.prog = true := by kernel_rfl
def Kept (p : Prop) : Prop := p
structure Sec where
  l : List UInt8
  h : l.length = 64
def Sec.zero : Sec := ⟨List.replicate 64 0, List.length_replicate⟩
instance : Inhabited Sec := ⟨Sec.zero⟩
def Sec.cells (s : Sec) : List AV := (s.l.map byteC).flatten
theorem Sec.len (s : Sec) : s.cells.length = 64 := (flatten_one s.l).trans s.h
theorem Sec.zr : zr_76 = Sec.zero.cells := rfl
theorem bytes_all : ∀ (l : List UInt8), (l.map byteC).flatten.all AV.one = true
  | [] => rfl
  | b :: l => by
    have : ((b :: l).map byteC).flatten = .val (.int .u8 b.toNat) :: (l.map byteC).flatten := rfl
    rw [this, List.all_cons, bytes_all l]; rfl
theorem Sec.all (s : Sec) : s.cells.all AV.one = true := bytes_all s.l
theorem Sec.take (s : Sec) : s.cells.take 64 = s.cells := List.take_of_length_le (by rw [s.len]; exact Nat.le_refl _)
theorem Sec.drop (s : Sec) : s.cells.drop 64 = [] := List.drop_eq_nil_of_le (by rw [s.len]; exact Nat.le_refl _)
theorem Sec.put (s z : Sec) : setRange z.cells 0 s.cells = s.cells := by
  unfold setRange
  rw [List.take_zero, List.nil_append, Nat.zero_add, s.len, Sec.drop, List.append_nil]
theorem Sec.vals (s : Sec) : ∀ c ∈ s.cells, ∃ v, c = .val v := vals_row byteC byteC_vals s.l
theorem Sec.inj {s t : Sec} (h : s.l = t.l) : s = t := by cases s; cases t; cases h; rfl
theorem flats_all : ∀ {l : List AV}, (∀ c ∈ l, ∃ v, c = .val v) → AV.flat.flats l = true
  | [], _ => rfl
  | c :: l, h => by
    obtain ⟨v, rfl⟩ := h c (by simp)
    show (AV.flat (.val v) && AV.flat.flats l) = true
    rw [flats_all fun c hc => h c (by simp [hc])]; rfl
theorem Sec.flats (s : Sec) : AV.flat.flats s.cells = true := flats_all s.vals
structure Wr where
  at_ : Nat
  s : Sec
instance : Inhabited Wr := ⟨⟨0, default⟩⟩
def Wr.cells (w : Wr) : List AV := .val (.int .i64 w.at_) :: w.s.cells
theorem Wr.len (w : Wr) : w.cells.length = 65 := by unfold Wr.cells; rw [List.length_cons, w.s.len]
theorem Wr.zr : zr_97 = (default : Wr).cells := rfl
theorem Wr.all (w : Wr) : w.cells.all AV.one = true := by unfold Wr.cells; rw [List.all_cons, w.s.all]; rfl
theorem Wr.take (s : Wr) : s.cells.take 65 = s.cells := List.take_of_length_le (by rw [s.len]; exact Nat.le_refl _)
theorem Wr.drop (s : Wr) : s.cells.drop 65 = [] := List.drop_eq_nil_of_le (by rw [s.len]; exact Nat.le_refl _)
theorem Wr.g0 (w : Wr) : w.cells[0]? = some (.val (.int .i64 w.at_)) := rfl
theorem Wr.part1 (w : Wr) : List.take 64 (List.drop 1 w.cells) = w.s.cells := w.s.take
theorem Wr.put (s z : Wr) : setRange z.cells 0 s.cells = s.cells := by
  unfold setRange
  rw [List.take_zero, List.nil_append, Nat.zero_add, s.len, Wr.drop, List.append_nil]
theorem Wr.vals (w : Wr) : ∀ c ∈ w.cells, ∃ v, c = .val v := fun c hc => by
  rcases List.mem_cons.1 hc with rfl | hc
  · exact ⟨_, rfl⟩
  · exact w.s.vals c hc
theorem Wr.flats (w : Wr) : AV.flat.flats w.cells = true := flats_all w.vals
theorem Wr.build (a : Nat) (s : Sec) : buildA Try.prog 97 [(0, .val (.int .i64 a)), (1, .agg s.cells)] = some (.agg (Wr.cells ⟨a, s⟩)) := by
  have h1 : setRange zr_97 0 [.val (.int .i64 a)] = Wr.cells ⟨a, Sec.zero⟩ := rfl
  have h2 : setRange (Wr.cells ⟨a, Sec.zero⟩) 1 s.cells = Wr.cells ⟨a, s⟩ := by
    unfold setRange Wr.cells
    rw [s.len]
    simp only [List.take_succ_cons, List.take_zero, List.cons_append, List.nil_append, Nat.reduceAdd, List.drop_succ_cons, Sec.drop, List.append_nil]
  simp only [buildA, ti_97, z_97, placesA, ti_3, ti_76, fillA, AV.cells, s.all, if_true, h1, List.getElem?_cons_zero, List.getElem?_cons_succ, List.length_cons, List.length_nil]
  rw [if_pos ⟨trivial, by rw [Wr.zr, Wr.len]; decide⟩]
  simp only [h2]
  rw [if_pos ⟨s.len, by rw [Wr.len]; decide⟩]
section
variable (l : List Sec)
theorem Sec.rlen : (l.map Sec.cells).flatten.length = l.length * 64 := row_len Sec.cells Sec.len l
theorem Sec.rpart (k : Nat) (hk : k < l.length) : ((l.map Sec.cells).flatten.drop (k * 64)).take 64 = (l.getD k default).cells := row_part Sec.cells Sec.len l hk
theorem Sec.rin (k : Nat) (hk : k < l.length) : (k * 64 + 64 ≤ (l.map Sec.cells).flatten.length) = True := eq_true (row_in Sec.cells (s := 64) Sec.len l hk (Nat.le_refl _))
theorem Sec.rset (k : Nat) (hk : k < l.length) (d : Sec) : setRange (l.map Sec.cells).flatten (k * 64) d.cells = ((l.set k d).map Sec.cells).flatten := row_set Sec.cells Sec.len l hk d
end
section
variable (l : List Wr)
theorem Wr.rlen : (l.map Wr.cells).flatten.length = l.length * 65 := row_len Wr.cells Wr.len l
theorem Wr.rpart (k : Nat) (hk : k < l.length) : ((l.map Wr.cells).flatten.drop (k * 65)).take 65 = (l.getD k default).cells := row_part Wr.cells Wr.len l hk
theorem Wr.rin (k : Nat) (hk : k < l.length) : (k * 65 + 65 ≤ (l.map Wr.cells).flatten.length) = True := eq_true (row_in Wr.cells (s := 65) Wr.len l hk (Nat.le_refl _))
theorem Wr.rat0 (k : Nat) (hk : k < l.length) : (l.map Wr.cells).flatten[k * 65]? = some (.val (.int .i64 (l.getD k default).at_)) := by
  have h := row_at Wr.cells (s := 65) Wr.len l (k := k) (j := 0) hk (Nat.zero_lt_succ _)
  rw [Nat.add_zero] at h
  rw [h, Wr.g0]
theorem Wr.rset (k : Nat) (hk : k < l.length) (d : Wr) : setRange (l.map Wr.cells).flatten (k * 65) d.cells = ((l.set k d).map Wr.cells).flatten := row_set Wr.cells Wr.len l hk d
end
theorem Wr.rin1 (l : List Wr) (k : Nat) (hk : k < l.length) : (k * 65 + 1 + 64 ≤ (l.map Wr.cells).flatten.length) = True := by
  rw [Nat.add_assoc]; exact Wr.rin l k hk
theorem Wr.rset1 (l : List Wr) (k : Nat) (hk : k < l.length) (s : Sec) : setRange (l.map Wr.cells).flatten (k * 65 + 1) s.cells = ((l.set k ⟨(l.getD k default).at_, s⟩).map Wr.cells).flatten :=
  row_sub Wr.cells Wr.len l hk s.cells (by rw [s.len]; decide) _ (by
    show Wr.cells ⟨(l.getD k default).at_, s⟩ = setRange (Wr.cells ⟨(l.getD k default).at_, (l.getD k default).s⟩) 1 s.cells
    unfold setRange Wr.cells
    rw [s.len]
    simp only [List.take_succ_cons, List.take_zero, List.cons_append, List.nil_append, Nat.reduceAdd, List.drop_succ_cons, Sec.drop, List.append_nil])
structure Dev where
  list : List Wr
  set : Bool
  left : Int
  pick : Int
  laid : List Sec
  dead : Bool
  w : Nat
  f : Nat
def Dev.rc (d : Dev) (x y : Bool) : List AV := [.vs (d.list.map Wr.cells) x, .val (.bool d.set), .val (.int .i64 d.left), .val (.int .u64 d.pick), .vs (d.laid.map Sec.cells) y, .val (.bool d.dead), .val (.int .i64 d.w), .val (.int .i64 d.f)]
theorem Dev.r0 (d : Dev) (x y : Bool) : (d.rc x y)[0]? = some (.vs (d.list.map Wr.cells) x) := rfl
theorem Dev.r1 (d : Dev) (x y : Bool) : (d.rc x y)[1]? = some (.val (.bool d.set)) := rfl
theorem Dev.r2 (d : Dev) (x y : Bool) : (d.rc x y)[2]? = some (.val (.int .i64 d.left)) := rfl
theorem Dev.r3 (d : Dev) (x y : Bool) : (d.rc x y)[3]? = some (.val (.int .u64 d.pick)) := rfl
theorem Dev.r4 (d : Dev) (x y : Bool) : (d.rc x y)[4]? = some (.vs (d.laid.map Sec.cells) y) := rfl
theorem Dev.r5 (d : Dev) (x y : Bool) : (d.rc x y)[5]? = some (.val (.bool d.dead)) := rfl
theorem Dev.r6 (d : Dev) (x y : Bool) : (d.rc x y)[6]? = some (.val (.int .i64 d.w)) := rfl
theorem Dev.r7 (d : Dev) (x y : Bool) : (d.rc x y)[7]? = some (.val (.int .i64 d.f)) := rfl
def Dev.own (d : Dev) (c : AV) (nL : Nat) : List AV := [c, .val (.bool d.set), .val (.int .i64 d.left), .val (.int .u64 d.pick), .sl nL 0 d.laid.length d.laid.length, .val (.bool d.dead), .val (.int .i64 d.w), .val (.int .i64 d.f)]
theorem Dev.o0 (d : Dev) (c : AV) (nL : Nat) : (d.own c nL)[0]? = some c := rfl
theorem Dev.o1 (d : Dev) (c : AV) (nL : Nat) : (d.own c nL)[1]? = some (.val (.bool d.set)) := rfl
theorem Dev.o2 (d : Dev) (c : AV) (nL : Nat) : (d.own c nL)[2]? = some (.val (.int .i64 d.left)) := rfl
theorem Dev.o3 (d : Dev) (c : AV) (nL : Nat) : (d.own c nL)[3]? = some (.val (.int .u64 d.pick)) := rfl
theorem Dev.o4 (d : Dev) (c : AV) (nL : Nat) : (d.own c nL)[4]? = some (.sl nL 0 d.laid.length d.laid.length) := rfl
theorem Dev.o5 (d : Dev) (c : AV) (nL : Nat) : (d.own c nL)[5]? = some (.val (.bool d.dead)) := rfl
theorem Dev.o6 (d : Dev) (c : AV) (nL : Nat) : (d.own c nL)[6]? = some (.val (.int .i64 d.w)) := rfl
theorem Dev.o7 (d : Dev) (c : AV) (nL : Nat) : (d.own c nL)[7]? = some (.val (.int .i64 d.f)) := rfl
theorem Dev.olen (d : Dev) (c : AV) (nL : Nat) : (d.own c nL).length = 8 := rfl
theorem Dev.s0 (d : Dev) (c c' : AV) (nL : Nat) : setRange (d.own c nL) 0 [c'] = d.own c' nL := rfl
theorem Dev.s1 (d : Dev) (c : AV) (nL : Nat) (a : Bool) (b p : Int) : setRange (d.own c nL) 1 [.val (.bool a), .val (.int .i64 b), .val (.int .u64 p)] = ({ d with set := a, left := b, pick := p } : Dev).own c nL := rfl
theorem Dev.s2 (d : Dev) (c : AV) (nL : Nat) (b : Int) : setRange (d.own c nL) 2 [.val (.int .i64 b)] = ({ d with left := b } : Dev).own c nL := rfl
theorem Dev.s5 (d : Dev) (c : AV) (nL : Nat) (a : Bool) : setRange (d.own c nL) 5 [.val (.bool a)] = ({ d with dead := a } : Dev).own c nL := rfl
theorem Dev.s6 (d : Dev) (c : AV) (nL : Nat) : setRange (d.own c nL) 6 [.val (.int .i64 ((d.w : Int) + 1))] = ({ d with w := d.w + 1 } : Dev).own c nL := rfl
theorem Dev.s7 (d : Dev) (c : AV) (nL : Nat) : setRange (d.own c nL) 7 [.val (.int .i64 ((d.f : Int) + 1))] = ({ d with f := d.f + 1 } : Dev).own c nL := rfl
def Dev.row (d : Dev) (nl : Nat) : AV := .sl nl 0 d.list.length d.list.length
def Dev.mem (d : Dev) (N nl nL : Nat) : Mem := ((nomem.set nL (.cells false 76 (d.laid.map Sec.cells).flatten)).set nl (.cells true 97 (d.list.map Wr.cells).flatten)).set N (.cells false 65 (d.own (d.row nl) nL))
def Dev.At (d : Dev) (N : Nat) (m : Mem) : Prop := ∃ nl nL, N ≠ nl ∧ N ≠ nL ∧ nl ≠ nL ∧ m = d.mem N nl nL
structure Dev.Ok (d : Dev) : Prop where
  some : 1 ≤ d.laid.length
  most : d.laid.length ≤ 4096
  at_ : ∀ w ∈ d.list, w.at_ < d.laid.length
  once : (d.list.map (·.at_)).Nodup
  cut : d.set = true → 0 ≤ d.left ∧ d.left ≤ 9223372036854775807
theorem pigeon : ∀ (n : Nat) (l : List Nat), l.Nodup → (∀ x ∈ l, x < n) → l.length ≤ n
  | 0, [], _, _ => Nat.le_refl _
  | 0, x :: l, _, h => absurd (h x (by simp)) (Nat.not_lt_zero _)
  | n + 1, l, hn, h => by
    have := pigeon n (l.erase n) (hn.erase n) fun x hx => by
      rw [hn.mem_erase_iff] at hx
      have := h x hx.2; omega
    have h2 : l.length ≤ (l.erase n).length + 1 := by rw [List.length_erase]; split <;> omega
    omega
theorem Dev.Ok.list {d : Dev} (h : d.Ok) : d.list.length ≤ 4096 := by
  have := pigeon d.laid.length (d.list.map (·.at_)) h.once fun x hx => by
    obtain ⟨w, hw, rfl⟩ := List.mem_map.1 hx
    exact h.at_ w hw
  have := h.most
  simp at *; omega
theorem Dev.seenIn (d : Dev) {N nl nL : Nat} {m : Mem} (hN : m N = Option.some (.cells false 65 (d.own (d.row nl) nL))) (hl : m nl = Option.some (.cells true 97 (d.list.map Wr.cells).flatten)) (hL : m nL = Option.some (.cells false 76 (d.laid.map Sec.cells).flatten)) (off : Nat) :
    Seen m (.ptr N off) (.vp (d.rc false false) off) := by
  refine .ptr hN (Nat.zero_lt_succ _) rfl fun i h h' => ?_
  have hi : i < 8 := h
  have hl' : Seen m (.sl nl 0 d.list.length d.list.length) (.vs (d.list.map Wr.cells) false) := Seen.row Wr.cells Wr.len d.list hl
  have hL' : Seen m (.sl nL 0 d.laid.length d.laid.length) (.vs (d.laid.map Sec.cells) false) := Seen.row Sec.cells Sec.len d.laid hL
  match i, hi with
  | 0, _ => exact hl'
  | 1, _ => exact .same
  | 2, _ => exact .same
  | 3, _ => exact .same
  | 4, _ => exact hL'
  | 5, _ => exact .same
  | 6, _ => exact .same
  | 7, _ => exact .same
theorem Dev.At.seen {d : Dev} {N : Nat} {m M : Mem} (h : d.At N m) (hs : m.sub M) (off : Nat) : Seen M (.ptr N off) (.vp (d.rc false false) off) := by
  obtain ⟨nl, nL, h1, h2, h3, rfl⟩ := h
  refine (d.seenIn (nl := nl) (nL := nL) (Mem.set_same _ _ _) ?_ ?_ off).mono hs
  · show Dev.mem d N nl nL _ = _
    unfold Dev.mem
    rw [Mem.set_ne _ _ (Ne.symm h1), Mem.set_same]
  · show Dev.mem d N nl nL _ = _
    unfold Dev.mem
    rw [Mem.set_ne _ _ (Ne.symm h2), Mem.set_ne _ _ (Ne.symm h3), Mem.set_same]
end Go.Proofs.Ytlkeailgccbmbaa

set_option maxRecDepth 100000
set_option maxHeartbeats 1000000
set_option linter.unusedSimpArgs false
set_option linter.unusedVariables false
namespace Go.Proofs.Ytlkeailgccbmbaa
open Go.Abs
attribute [local irreducible] C X CC Y CV CW binK litK AppK PureC PureCV againK loopV rangeV allK ifK got onB condK V stepsK planK opK firstK seeE keepsK
theorem ix_59 (l : List Wr) (x : Bool) (kk : IntKind) (k : Int) (h0 : 0 ≤ k) (h1 : k < l.length) : indexAddrA Try.prog 59 (.vs (l.map Wr.cells) x) (.val (.int kk k)) = some (.vp (Wr.cells (l.getD k.toNat default)) 0) := index_vs Wr.cells ti_59 rfl ti_97 Wr.len l x kk k h0 h1
theorem ix_58 (l : List Sec) (x : Bool) (kk : IntKind) (k : Int) (h0 : 0 ≤ k) (h1 : k < l.length) : indexAddrA Try.prog 58 (.vs (l.map Sec.cells) x) (.val (.int kk k)) = some (.vp (Sec.cells (l.getD k.toNat default)) 0) := index_vs Sec.cells ti_58 rfl ti_76 Sec.len l x kk k h0 h1
theorem F40 (d : Dev) (x y : Bool) (h : 1 ≤ d.laid.length) : F Try.prog 40 [.vp (d.rc x y) 0] (.val (.bool false)) := by
  refine F40_of ?_
  unfold k40
  repeat' first
    | simp -dsimp (disch := omega) only [↓rulesA, rulesB, rulesC, Int.reduceLT, nth, upd, put, storeN, AV.one, Nat.reduceBEq, Nat.reduceBNe, Int.reduceBEq, Int.reduceBNe, Int.reduceLE, Int.reduceEq, Int.reduceMod, Int.reduceNeg, boolBin, strBin, intBin, unA, fillA, ne_eq, reduceCtorEq, Nat.reduceAdd, Nat.reduceSub, Nat.reduceLeDiff, Nat.reduceLT, Nat.reduceEqDiff, Int.reduceToNat, eq_self, rulesT, rulesD, Dev.r0, Dev.r1, Dev.r2, Dev.r3, Dev.r4, Dev.r5, Dev.r6, Dev.r7, *]
    | (refine allK_intro fun n hn => ?_; try simp only [fresh_set] at hn)
    | (refine ifK_intro (fun h => ?_) (fun h => ?_) <;> (try simp only [rulesE] at h) <;> try (exfalso; (try simp only [rulesF] at h); omega))
    | (refine keeps_sub (Mem.sub_set ?_) ?_; focus (simp [Mem.set_at, nomem, *]; done))
  all_goals exact .val
theorem F32 (d : Dev) (x y : Bool) (h : 1 ≤ d.laid.length) : F Try.prog 32 [.vp (d.rc x y) 0] (.val (.bool d.dead)) := by
  refine F32_of ?_
  unfold k32
  repeat' first
    | simp -dsimp (disch := omega) only [↓rulesA, rulesB, rulesC, Int.reduceLT, nth, upd, put, storeN, AV.one, Nat.reduceBEq, Nat.reduceBNe, Int.reduceBEq, Int.reduceBNe, Int.reduceLE, Int.reduceEq, Int.reduceMod, Int.reduceNeg, boolBin, strBin, intBin, unA, fillA, ne_eq, reduceCtorEq, Nat.reduceAdd, Nat.reduceSub, Nat.reduceLeDiff, Nat.reduceLT, Nat.reduceEqDiff, Int.reduceToNat, eq_self, rulesT, rulesD, *]
    | (refine allK_intro fun n hn => ?_; try simp only [fresh_set] at hn)
    | (refine ifK_intro (fun h => ?_) (fun h => ?_) <;> (try simp only [rulesE] at h) <;> try (exfalso; (try simp only [rulesF] at h); omega))
    | (refine keeps_sub (Mem.sub_set ?_) ?_; focus (simp [Mem.set_at, nomem, *]; done))
  refine call_F (F40 d x y h) (Seens.refl _ _) ?_
  repeat' first
    | simp -dsimp (disch := omega) only [↓rulesA, rulesB, rulesC, Int.reduceLT, nth, upd, put, storeN, AV.one, Nat.reduceBEq, Nat.reduceBNe, Int.reduceBEq, Int.reduceBNe, Int.reduceLE, Int.reduceEq, Int.reduceMod, Int.reduceNeg, boolBin, strBin, intBin, unA, fillA, ne_eq, reduceCtorEq, Nat.reduceAdd, Nat.reduceSub, Nat.reduceLeDiff, Nat.reduceLT, Nat.reduceEqDiff, Int.reduceToNat, eq_self, rulesT, rulesD, Dev.r0, Dev.r1, Dev.r2, Dev.r3, Dev.r4, Dev.r5, Dev.r6, Dev.r7, *]
    | (refine allK_intro fun n hn => ?_; try simp only [fresh_set] at hn)
    | (refine ifK_intro (fun h => ?_) (fun h => ?_) <;> (try simp only [rulesE] at h) <;> try (exfalso; (try simp only [rulesF] at h); omega))
    | (refine keeps_sub (Mem.sub_set ?_) ?_; focus (simp [Mem.set_at, nomem, *]; done))
  all_goals exact .val
theorem F31 (d : Dev) (x y : Bool) (h : 1 ≤ d.laid.length) : F Try.prog 31 [.vp (d.rc x y) 0] (.val (.int .i64 d.laid.length)) := by
  refine F31_of ?_
  unfold k31
  repeat' first
    | simp -dsimp (disch := omega) only [↓rulesA, rulesB, rulesC, Int.reduceLT, nth, upd, put, storeN, AV.one, Nat.reduceBEq, Nat.reduceBNe, Int.reduceBEq, Int.reduceBNe, Int.reduceLE, Int.reduceEq, Int.reduceMod, Int.reduceNeg, boolBin, strBin, intBin, unA, fillA, ne_eq, reduceCtorEq, Nat.reduceAdd, Nat.reduceSub, Nat.reduceLeDiff, Nat.reduceLT, Nat.reduceEqDiff, Int.reduceToNat, eq_self, rulesT, rulesD, *]
    | (refine allK_intro fun n hn => ?_; try simp only [fresh_set] at hn)
    | (refine ifK_intro (fun h => ?_) (fun h => ?_) <;> (try simp only [rulesE] at h) <;> try (exfalso; (try simp only [rulesF] at h); omega))
    | (refine keeps_sub (Mem.sub_set ?_) ?_; focus (simp [Mem.set_at, nomem, *]; done))
  refine call_F (F40 d x y h) (Seens.refl _ _) ?_
  repeat' first
    | simp -dsimp (disch := omega) only [↓rulesA, rulesB, rulesC, Int.reduceLT, nth, upd, put, storeN, AV.one, Nat.reduceBEq, Nat.reduceBNe, Int.reduceBEq, Int.reduceBNe, Int.reduceLE, Int.reduceEq, Int.reduceMod, Int.reduceNeg, boolBin, strBin, intBin, unA, fillA, ne_eq, reduceCtorEq, Nat.reduceAdd, Nat.reduceSub, Nat.reduceLeDiff, Nat.reduceLT, Nat.reduceEqDiff, Int.reduceToNat, eq_self, rulesT, rulesD, Dev.r0, Dev.r1, Dev.r2, Dev.r3, Dev.r4, Dev.r5, Dev.r6, Dev.r7, *]
    | (refine allK_intro fun n hn => ?_; try simp only [fresh_set] at hn)
    | (refine ifK_intro (fun h => ?_) (fun h => ?_) <;> (try simp only [rulesE] at h) <;> try (exfalso; (try simp only [rulesF] at h); omega))
    | (refine keeps_sub (Mem.sub_set ?_) ?_; focus (simp [Mem.set_at, nomem, *]; done))
  all_goals exact .val
end Go.Proofs.Ytlkeailgccbmbaa

set_option maxRecDepth 100000
set_option maxHeartbeats 1000000
set_option linter.unusedSimpArgs false
set_option linter.unusedVariables false
namespace Go.Proofs.Ytlkeailgccbmbaa
open Go.Abs
attribute [local irreducible] C X CC Y CV CW binK litK AppK PureC PureCV againK loopV rangeV allK ifK got onB condK V stepsK planK opK firstK seeE keepsK
def findN (l : List Wr) (k : Nat) : Nat := l.findIdx fun w : Wr => w.at_ == k
def findI (l : List Wr) (k : Nat) : Int := if findN l k < l.length then (findN l k : Int) else -1
theorem findN_le (l : List Wr) (k : Nat) : findN l k ≤ l.length := List.findIdx_le_length
theorem findN_not {l : List Wr} {k i : Nat} (h : i < findN l k) : (l.getD i default).at_ ≠ k := by
  have hi : i < l.length := Nat.lt_of_lt_of_le h (findN_le l k)
  have := List.not_of_lt_findIdx h
  rw [List.getD_eq_getElem?_getD, List.getElem?_eq_getElem hi]
  simpa using this
theorem findN_is {l : List Wr} {k : Nat} (h : findN l k < l.length) : (l.getD (findN l k) default).at_ = k := by
  have := List.findIdx_getElem (xs := l) (p := fun w : Wr => w.at_ == k) (w := h)
  rw [List.getD_eq_getElem?_getD, List.getElem?_eq_getElem h]
  exact eq_of_beq this
theorem findN_end {l : List Wr} {k i : Nat} (hi : i ≤ findN l k) (h : i < l.length) (he : (l.getD i default).at_ = k) : findN l k = i := by
  rcases Nat.lt_or_ge i (findN l k) with h' | h'
  · exact absurd he (findN_not h')
  · omega
theorem F63 (w : Wr) (k : Nat) : F Try.prog 63 [.agg w.cells, .vp [.val (.int .i64 k)] 0] (.val (.bool (decide ((w.at_ : Int) = k)))) := by
  refine F63_of ?_
  unfold k63
  repeat' first
    | simp -dsimp (disch := omega) only [↓rulesA, rulesB, rulesC, Int.reduceLT, nth, upd, put, storeN, AV.one, Nat.reduceBEq, Nat.reduceBNe, Int.reduceBEq, Int.reduceBNe, Int.reduceLE, Int.reduceEq, Int.reduceMod, Int.reduceNeg, boolBin, strBin, intBin, unA, fillA, ne_eq, reduceCtorEq, Nat.reduceAdd, Nat.reduceSub, Nat.reduceLeDiff, Nat.reduceLT, Nat.reduceEqDiff, Int.reduceToNat, eq_self, rulesT, rulesD, Wr.build, Wr.len, Wr.zr, Wr.all, Wr.take, Wr.drop, Wr.g0, Wr.part1, Wr.put, Wr.rlen, Wr.rpart, Wr.rin, Wr.rat0, Wr.rset, Wr.rset1, Wr.rin1, *]
    | (refine allK_intro fun n hn => ?_; try simp only [fresh_set] at hn)
    | (refine ifK_intro (fun h => ?_) (fun h => ?_) <;> (try simp only [rulesE] at h) <;> try (exfalso; (try simp only [rulesF] at h); omega))
    | (refine keeps_sub (Mem.sub_set ?_) ?_; focus (simp [Mem.set_at, nomem, *]; done))
  exact New.eq rfl rfl
theorem F62 (l : List Wr) (x : Bool) (k : Nat) (hl : l.length ≤ 140737488355328) : F Try.prog 62 [.vs (l.map Wr.cells) x, .fn (.func 63) [] [.vp [.val (.int .i64 k)] 0]] (.val (.int .i64 (findI l k))) := by
  refine F62_of ?_
  unfold k62
  repeat' first
    | simp -dsimp (disch := omega) only [↓rulesA, rulesB, rulesC, Int.reduceLT, nth, upd, put, storeN, AV.one, Nat.reduceBEq, Nat.reduceBNe, Int.reduceBEq, Int.reduceBNe, Int.reduceLE, Int.reduceEq, Int.reduceMod, Int.reduceNeg, boolBin, strBin, intBin, unA, fillA, ne_eq, reduceCtorEq, Nat.reduceAdd, Nat.reduceSub, Nat.reduceLeDiff, Nat.reduceLT, Nat.reduceEqDiff, Int.reduceToNat, eq_self, rulesT, rulesD, *]
    | (refine allK_intro fun n hn => ?_; try simp only [fresh_set] at hn)
    | (refine ifK_intro (fun h => ?_) (fun h => ?_) <;> (try simp only [rulesE] at h) <;> try (exfalso; (try simp only [rulesF] at h); omega))
    | (refine keeps_sub (Mem.sub_set ?_) ?_; focus (simp [Mem.set_at, nomem, *]; done))
  refine loop_intro (fun j env m => ∃ i : Nat, i ≤ findN l k ∧ j = l.length - i ∧ m = nomem ∧ env.length = 19 ∧ nth env 0 = .vs (l.map Wr.cells) x ∧ nth env 1 = .fn (.func 63) [] [.vp [.val (.int .i64 k)] 0] ∧ nth env 7 = .val (.int .i64 l.length) ∧ nth env 8 = .val (.int .i64 i)) l.length _ (fun _ _ h => h) ⟨0, by omega, by omega, rfl, rfl, rfl, rfl, rfl, rfl⟩ ?_
  rintro j env m ⟨i, hi, rfl, rfl, hlen, e0, e1, e7, e8⟩
  have hle := findN_le l k
  repeat' first
    | simp -dsimp (disch := omega) only [↓rulesA, rulesB, rulesC, Int.reduceLT, nth, upd, put, storeN, AV.one, Nat.reduceBEq, Nat.reduceBNe, Int.reduceBEq, Int.reduceBNe, Int.reduceLE, Int.reduceEq, Int.reduceMod, Int.reduceNeg, boolBin, strBin, intBin, unA, fillA, ne_eq, reduceCtorEq, Nat.reduceAdd, Nat.reduceSub, Nat.reduceLeDiff, Nat.reduceLT, Nat.reduceEqDiff, Int.reduceToNat, eq_self, rulesT, rulesD, ix_59, Wr.build, Wr.len, Wr.zr, Wr.all, Wr.take, Wr.drop, Wr.g0, Wr.part1, Wr.put, Wr.rlen, Wr.rpart, Wr.rin, Wr.rat0, Wr.rset, Wr.rset1, Wr.rin1, *]
    | (refine allK_intro fun n hn => ?_; try simp only [fresh_set] at hn)
    | (refine ifK_intro (fun h => ?_) (fun h => ?_) <;> (try simp only [rulesE] at h) <;> try (exfalso; (try simp only [rulesF] at h); omega))
    | (refine keeps_sub (Mem.sub_set ?_) ?_; focus (simp [Mem.set_at, nomem, *]; done))
    | (refine call_F (F63 _ _) (Seens.refl _ _) ?_)
    | (refine pure_F (F63 _ _) (Seens.refl _ _) ?_)
  · have e : findN l k = i := findN_end hi (by omega) (by omega)
    refine New.eq ?_ rfl
    unfold findI; rw [if_pos (by omega), e]
  · have hne : findN l k ≠ i := fun e => by
      have := findN_is (l := l) (k := k) (by omega)
      rw [e] at this
      omega
    refine again_intro (l.length - (i + 1)) (by omega) nomem (fun _ _ h => h) ⟨i + 1, by omega, rfl, rfl, ?_, ?_, ?_, ?_, ?_⟩
    all_goals try (simp (disch := omega) only [nth_upd, pickB_true, pickB_false, inB_lt, upd_len, cast_succ, Int.cast_ofNat_Int, Nat.reduceBEq, beq_self_eq_true, reduceCtorEq, *]; done)
  · refine New.eq ?_ rfl
    unfold findI; rw [if_neg (by omega)]
theorem F60 (d : Dev) (x y : Bool) (k : Nat) (hl : d.list.length ≤ 140737488355328) : F Try.prog 60 [.vp (d.rc x y) 0, .val (.int .i64 k)] (.val (.int .i64 (findI d.list k))) := by
  refine F60_of ?_
  unfold k60
  repeat' first
    | simp -dsimp (disch := omega) only [↓rulesA, rulesB, rulesC, Int.reduceLT, nth, upd, put, storeN, AV.one, Nat.reduceBEq, Nat.reduceBNe, Int.reduceBEq, Int.reduceBNe, Int.reduceLE, Int.reduceEq, Int.reduceMod, Int.reduceNeg, boolBin, strBin, intBin, unA, fillA, ne_eq, reduceCtorEq, Nat.reduceAdd, Nat.reduceSub, Nat.reduceLeDiff, Nat.reduceLT, Nat.reduceEqDiff, Int.reduceToNat, eq_self, rulesT, rulesD, Dev.r0, Dev.r1, Dev.r2, Dev.r3, Dev.r4, Dev.r5, Dev.r6, Dev.r7, mkFnA, staticFn, *]
    | (refine allK_intro fun n hn => ?_; try simp only [fresh_set] at hn)
    | (refine ifK_intro (fun h => ?_) (fun h => ?_) <;> (try simp only [rulesE] at h) <;> try (exfalso; (try simp only [rulesF] at h); omega))
    | (refine keeps_sub (Mem.sub_set ?_) ?_; focus (simp [Mem.set_at, nomem, *]; done))
  refine call_F (F62 d.list x k hl) (Seens.two .same (.fnOf (Seens.refl _ _) (.one (.var (Mem.set_same _ _ _))))) ?_
  repeat' first
    | simp -dsimp (disch := omega) only [↓rulesA, rulesB, rulesC, Int.reduceLT, nth, upd, put, storeN, AV.one, Nat.reduceBEq, Nat.reduceBNe, Int.reduceBEq, Int.reduceBNe, Int.reduceLE, Int.reduceEq, Int.reduceMod, Int.reduceNeg, boolBin, strBin, intBin, unA, fillA, ne_eq, reduceCtorEq, Nat.reduceAdd, Nat.reduceSub, Nat.reduceLeDiff, Nat.reduceLT, Nat.reduceEqDiff, Int.reduceToNat, eq_self, rulesT, rulesD, *]
    | (refine allK_intro fun n hn => ?_; try simp only [fresh_set] at hn)
    | (refine ifK_intro (fun h => ?_) (fun h => ?_) <;> (try simp only [rulesE] at h) <;> try (exfalso; (try simp only [rulesF] at h); omega))
    | (refine keeps_sub (Mem.sub_set ?_) ?_; focus (simp [Mem.set_at, nomem, *]; done))
  exact .val
end Go.Proofs.Ytlkeailgccbmbaa

set_option maxRecDepth 100000
set_option maxHeartbeats 1000000
set_option linter.unusedSimpArgs false
set_option linter.unusedVariables false
namespace Go.Proofs.Ytlkeailgccbmbaa
open Go.Abs
attribute [local irreducible] C X CC Y CV CW binK litK AppK PureC PureCV againK loopV rangeV allK ifK got onB condK V stepsK planK opK firstK seeE keepsK
theorem getD_map {α β : Type} [Inhabited α] [Inhabited β] (f : α → β) (l : List α) (i : Nat) (h : i < l.length) : (l.map f).getD i default = f (l.getD i default) := by
  simp [List.getD_eq_getElem?_getD, h]
theorem take_snoc {α : Type} [Inhabited α] (l : List α) (i : Nat) (h : i < l.length) : l.take i ++ [l.getD i default] = l.take (i + 1) := by
  rw [List.take_add_one, List.getElem?_eq_getElem h, List.getD_eq_getElem?_getD, List.getElem?_eq_getElem h]; rfl
def imgL (l : List Sec) : List UInt8 := (l.map (·.l)).flatten
theorem imgL_len : ∀ (l : List Sec), (imgL l).length = l.length * 64
  | [] => rfl
  | s :: l => by
    have : imgL (s :: l) = s.l ++ imgL l := by simp [imgL]
    rw [this, List.length_append, s.h, imgL_len l, List.length_cons]; omega
theorem imgL_snoc (l : List Sec) (i : Nat) (h : i < l.length) : imgL (l.take (i + 1)) = imgL (l.take i) ++ (l.getD i default).l := by
  rw [← take_snoc l i h]; simp [imgL]
theorem img_cells (l : List UInt8) (s : Sec) : (l.map byteC).flatten ++ s.cells = ((l ++ s.l).map byteC).flatten := by simp [Sec.cells]
theorem src_sec {m : Mem} {n : Nat} {opn : Bool} {t : TypeId} {s : Sec} (hm : m n = some (.cells opn t s.cells)) : srcA Try.prog m 44 1 (.sl n 0 64 64) = some (64, s.cells) := by
  simp only [srcA, ti_44, hm, List.drop_zero, Nat.zero_add, Nat.mul_one, Sec.take, s.len, s.all]
  rfl
theorem F25 (d : Dev) (x y : Bool) (h : 1 ≤ d.laid.length) (hm : d.laid.length ≤ 4096) : F Try.prog 25 [.vp (d.rc x y) 0] (.vs ((imgL d.laid).map byteC) false) := by
  refine F25_of ?_
  unfold k25
  repeat' first
    | simp -dsimp (disch := omega) only [↓rulesA, rulesB, rulesC, Int.reduceLT, nth, upd, put, storeN, AV.one, Nat.reduceBEq, Nat.reduceBNe, Int.reduceBEq, Int.reduceBNe, Int.reduceLE, Int.reduceEq, Int.reduceMod, Int.reduceNeg, boolBin, strBin, intBin, unA, fillA, ne_eq, reduceCtorEq, Nat.reduceAdd, Nat.reduceSub, Nat.reduceLeDiff, Nat.reduceLT, Nat.reduceEqDiff, Int.reduceToNat, eq_self, rulesT, rulesD, *]
    | (refine allK_intro fun n hn => ?_; try simp only [fresh_set] at hn)
    | (refine ifK_intro (fun h => ?_) (fun h => ?_) <;> (try simp only [rulesE] at h) <;> try (exfalso; (try simp only [rulesF] at h); omega))
    | (refine keeps_sub (Mem.sub_set ?_) ?_; focus (simp [Mem.set_at, nomem, *]; done))
  refine call_F (F40 d x y h) (Seens.refl _ _) ?_
  repeat' first
    | simp -dsimp (disch := omega) only [↓rulesA, rulesB, rulesC, Int.reduceLT, nth, upd, put, storeN, AV.one, Nat.reduceBEq, Nat.reduceBNe, Int.reduceBEq, Int.reduceBNe, Int.reduceLE, Int.reduceEq, Int.reduceMod, Int.reduceNeg, boolBin, strBin, intBin, unA, fillA, ne_eq, reduceCtorEq, Nat.reduceAdd, Nat.reduceSub, Nat.reduceLeDiff, Nat.reduceLT, Nat.reduceEqDiff, Int.reduceToNat, eq_self, rulesT, rulesD, Dev.r0, Dev.r1, Dev.r2, Dev.r3, Dev.r4, Dev.r5, Dev.r6, Dev.r7, *]
    | (refine allK_intro fun n hn => ?_; try simp only [fresh_set] at hn)
    | (refine ifK_intro (fun h => ?_) (fun h => ?_) <;> (try simp only [rulesE] at h) <;> try (exfalso; (try simp only [rulesF] at h); omega))
    | (refine keeps_sub (Mem.sub_set ?_) ?_; focus (simp [Mem.set_at, nomem, *]; done))
  refine loop_introG (fun j env m => ∃ (i n1 : Nat), i ≤ d.laid.length ∧ j = d.laid.length - i ∧ m = nomem.set n1 (.cells true 5 ((imgL (d.laid.take i)).map byteC).flatten) ∧ env.length = 22 ∧ nth env 3 = .sl n1 0 (imgL (d.laid.take i)).length (imgL (d.laid.take i)).length ∧ nth env 11 = .vs (d.laid.map Sec.cells) y ∧ nth env 12 = .val (.int .i64 d.laid.length) ∧ nth env 13 = .val (.int .i64 i)) d.laid.length ?_ ?_
  · refine Ghosts.nil 3 5 (Nat.le_of_ble_eq_true rfl) rfl fun n1 hn1 => .mk ?_
    exact ⟨0, n1, by omega, by omega, rfl, rfl, rfl, rfl, rfl, rfl⟩
  rintro j env m ⟨i, n1, hi, rfl, rfl, hlen, e3, e11, e12, e13⟩
  repeat' first
    | simp -dsimp (disch := omega) only [↓rulesA, rulesB, rulesC, Int.reduceLT, nth, upd, put, storeN, AV.one, Nat.reduceBEq, Nat.reduceBNe, Int.reduceBEq, Int.reduceBNe, Int.reduceLE, Int.reduceEq, Int.reduceMod, Int.reduceNeg, boolBin, strBin, intBin, unA, fillA, ne_eq, reduceCtorEq, Nat.reduceAdd, Nat.reduceSub, Nat.reduceLeDiff, Nat.reduceLT, Nat.reduceEqDiff, Int.reduceToNat, eq_self, rulesT, rulesD, ix_58, Sec.len, Sec.zr, Sec.all, Sec.take, Sec.drop, Sec.put, Sec.rlen, Sec.rpart, Sec.rin, Sec.rset, *]
    | (refine allK_intro fun n hn => ?_; try simp only [fresh_set] at hn)
    | (refine ifK_intro (fun h => ?_) (fun h => ?_) <;> (try simp only [rulesE] at h) <;> try (exfalso; (try simp only [rulesF] at h); omega))
    | (refine keeps_sub (Mem.sub_set ?_) ?_; focus (simp [Mem.set_at, nomem, *]; done))
  · have e := imgL_snoc d.laid i (by omega)
    have el := imgL_len (d.laid.take i)
    have elt : (d.laid.take i).length = i := by simp; omega
    refine append_open app_44 (k := 64) (src := (d.laid.getD i default).cells) (src_sec (Mem.set_same _ _ _)) ((Mem.set_ne _ _ hn.2.1).trans (Mem.set_same _ _ _)) cs_5 (by rw [flatten_one]; simp) (by show ((imgL (d.laid.take i)).length + 64) * 1 ≤ _; omega) fun n2 hn2 => ?_
    repeat' first
      | simp -dsimp (disch := omega) only [↓rulesA, rulesB, rulesC, Int.reduceLT, nth, upd, put, storeN, AV.one, Nat.reduceBEq, Nat.reduceBNe, Int.reduceBEq, Int.reduceBNe, Int.reduceLE, Int.reduceEq, Int.reduceMod, Int.reduceNeg, boolBin, strBin, intBin, unA, fillA, ne_eq, reduceCtorEq, Nat.reduceAdd, Nat.reduceSub, Nat.reduceLeDiff, Nat.reduceLT, Nat.reduceEqDiff, Int.reduceToNat, eq_self, rulesT, rulesD, *]
      | (refine allK_intro fun n hn => ?_; try simp only [fresh_set] at hn)
      | (refine ifK_intro (fun h => ?_) (fun h => ?_) <;> (try simp only [rulesE] at h) <;> try (exfalso; (try simp only [rulesF] at h); omega))
      | (refine keeps_sub (Mem.sub_set ?_) ?_; focus (simp [Mem.set_at, nomem, *]; done))
    rw [img_cells, ← e]
    have e2 := imgL_len (d.laid.take (i + 1))
    have elt2 : (d.laid.take (i + 1)).length = i + 1 := by simp; omega
    refine again_intro (d.laid.length - (i + 1)) (by omega) (nomem.set n2 (.cells true 5 ((imgL (d.laid.take (i + 1))).map byteC).flatten)) ?_ ⟨i + 1, n2, by omega, rfl, rfl, ?_, ?_, ?_, ?_, ?_⟩
    · refine nomem_set_sub ?_; simp [Mem.set_at, *]
    · simp only [upd_len]; exact hlen
    · have : i * 64 + 64 = (imgL (d.laid.take (i + 1))).length := by omega
      simp (disch := omega) only [nth_upd, pickB_true, pickB_false, inB_lt, upd_len, Nat.reduceBEq, beq_self_eq_true, this, hlen]
    all_goals try (simp (disch := omega) only [nth_upd, pickB_true, pickB_false, inB_lt, upd_len, cast_succ, Int.cast_ofNat_Int, Nat.reduceBEq, beq_self_eq_true, reduceCtorEq, *]; done)
  · have : i = d.laid.length := by omega
    subst this
    rw [List.take_length]
    exact New.row byteC (s := 1) (opn := true) (t := 5) byteC_len byteC_flat (imgL d.laid) (Mem.set_same _ _ _)
theorem new_sec {m : Mem} {n : Nat} {opn : Bool} {t : TypeId} (s : Sec) (hm : m n = some (.cells opn t s.cells)) : New m (.sl n 0 64 64) (.vs (s.l.map byteC) false) := by
  have := New.row byteC (s := 1) (cap := 64) byteC_len byteC_flat s.l hm
  rwa [s.h] at this
def readS (d : Dev) (k : Nat) : Sec := if findN d.list k < d.list.length then (d.list.getD (findN d.list k) default).s else d.laid.getD k default
def readE (d : Dev) (k : Int) : Int := if d.dead then 22 else if k < 0 ∨ d.laid.length ≤ k then 20 else 0
theorem F50 (d : Dev) (x y : Bool) (h : 1 ≤ d.laid.length) (hm : d.laid.length ≤ 4096) (hl : d.list.length ≤ 4096) (k : Int) : F Try.prog 50 [.vp (d.rc x y) 0, .val (.int .i64 k)] (.tup [.vs (if readE d k = 0 then (readS d k.toNat).l.map byteC else []) false, .val (.int .i64 (readE d k))]) := by
  refine F50_of ?_
  unfold k50
  repeat' first
    | simp -dsimp (disch := omega) only [↓rulesA, rulesB, rulesC, Int.reduceLT, nth, upd, put, storeN, AV.one, Nat.reduceBEq, Nat.reduceBNe, Int.reduceBEq, Int.reduceBNe, Int.reduceLE, Int.reduceEq, Int.reduceMod, Int.reduceNeg, boolBin, strBin, intBin, unA, fillA, ne_eq, reduceCtorEq, Nat.reduceAdd, Nat.reduceSub, Nat.reduceLeDiff, Nat.reduceLT, Nat.reduceEqDiff, Int.reduceToNat, eq_self, rulesT, rulesD, *]
    | (refine allK_intro fun n hn => ?_; try simp only [fresh_set] at hn)
    | (refine ifK_intro (fun h => ?_) (fun h => ?_) <;> (try simp only [rulesE] at h) <;> try (exfalso; (try simp only [rulesF] at h); omega))
    | (refine keeps_sub (Mem.sub_set ?_) ?_; focus (simp [Mem.set_at, nomem, *]; done))
  refine call_F (F32 d x y h) (Seens.refl _ _) ?_
  rcases hd : d.dead
  all_goals repeat' first
    | simp -dsimp (disch := omega) only [↓rulesA, rulesB, rulesC, Int.reduceLT, nth, upd, put, storeN, AV.one, Nat.reduceBEq, Nat.reduceBNe, Int.reduceBEq, Int.reduceBNe, Int.reduceLE, Int.reduceEq, Int.reduceMod, Int.reduceNeg, boolBin, strBin, intBin, unA, fillA, ne_eq, reduceCtorEq, Nat.reduceAdd, Nat.reduceSub, Nat.reduceLeDiff, Nat.reduceLT, Nat.reduceEqDiff, Int.reduceToNat, eq_self, rulesT, rulesD, Dev.r0, Dev.r1, Dev.r2, Dev.r3, Dev.r4, Dev.r5, Dev.r6, Dev.r7, *]
    | (refine allK_intro fun n hn => ?_; try simp only [fresh_set] at hn)
    | (refine ifK_intro (fun h => ?_) (fun h => ?_) <;> (try simp only [rulesE] at h) <;> try (exfalso; (try simp only [rulesF] at h); omega))
    | (refine keeps_sub (Mem.sub_set ?_) ?_; focus (simp [Mem.set_at, nomem, *]; done))
  rotate_left 3
  · have e : readE d k = 22 := by unfold readE; rw [if_pos hd]
    rw [e, if_neg (by decide)]
    exact .two .nil .val
  · have e : readE d k = 20 := by unfold readE; rw [if_neg (by rw [hd]; decide), if_pos (by omega)]
    rw [e, if_neg (by decide)]
    exact .two .nil .val
  · have e : readE d k = 0 := by unfold readE; rw [if_neg (by rw [hd]; decide), if_neg (by omega)]
    rw [e, if_pos rfl]
    obtain ⟨q, rfl⟩ : ∃ q : Nat, k = q := ⟨k.toNat, by omega⟩
    have hq : q < d.laid.length := by omega
    have h41 := F60 d x y q (by omega)
    have hfn := findN_le d.list q
    repeat' first
      | simp -dsimp (disch := omega) only [↓rulesA, rulesB, rulesC, Int.reduceLT, nth, upd, put, storeN, AV.one, Nat.reduceBEq, Nat.reduceBNe, Int.reduceBEq, Int.reduceBNe, Int.reduceLE, Int.reduceEq, Int.reduceMod, Int.reduceNeg, boolBin, strBin, intBin, unA, fillA, ne_eq, reduceCtorEq, Nat.reduceAdd, Nat.reduceSub, Nat.reduceLeDiff, Nat.reduceLT, Nat.reduceEqDiff, Int.reduceToNat, eq_self, rulesT, rulesD, ix_58, ix_59, Sec.len, Sec.zr, Sec.all, Sec.take, Sec.drop, Sec.put, Sec.rlen, Sec.rpart, Sec.rin, Sec.rset, Wr.build, Wr.len, Wr.zr, Wr.all, Wr.take, Wr.drop, Wr.g0, Wr.part1, Wr.put, Wr.rlen, Wr.rpart, Wr.rin, Wr.rat0, Wr.rset, Wr.rset1, Wr.rin1, *]
      | (refine allK_intro fun n hn => ?_; try simp only [fresh_set] at hn)
      | (refine ifK_intro (fun h => ?_) (fun h => ?_) <;> (try simp only [rulesE] at h) <;> try (exfalso; (try simp only [rulesF] at h); omega))
      | (refine keeps_sub (Mem.sub_set ?_) ?_; focus (simp [Mem.set_at, nomem, *]; done))
      | (refine call_F (h41) (Seens.refl _ _) ?_)
      | (refine pure_F (h41) (Seens.refl _ _) ?_)
    · have hf : findN d.list q < d.list.length := by
        by_cases hf : findN d.list q < d.list.length
        · exact hf
        · unfold findI at *; rw [if_neg hf] at *; omega
      have e2 : findI d.list q = findN d.list q := by unfold findI; rw [if_pos hf]
      have e3 : readS d (q : Int).toNat = (d.list.getD (findN d.list q) default).s := by unfold readS; rw [Int.toNat_natCast, if_pos hf]
      rw [e3]
      repeat' first
        | simp -dsimp (disch := omega) only [↓rulesA, rulesB, rulesC, Int.reduceLT, nth, upd, put, storeN, AV.one, Nat.reduceBEq, Nat.reduceBNe, Int.reduceBEq, Int.reduceBNe, Int.reduceLE, Int.reduceEq, Int.reduceMod, Int.reduceNeg, boolBin, strBin, intBin, unA, fillA, ne_eq, reduceCtorEq, Nat.reduceAdd, Nat.reduceSub, Nat.reduceLeDiff, Nat.reduceLT, Nat.reduceEqDiff, Int.reduceToNat, eq_self, rulesT, rulesD, ix_58, ix_59, Sec.len, Sec.zr, Sec.all, Sec.take, Sec.drop, Sec.put, Sec.rlen, Sec.rpart, Sec.rin, Sec.rset, Wr.build, Wr.len, Wr.zr, Wr.all, Wr.take, Wr.drop, Wr.g0, Wr.part1, Wr.put, Wr.rlen, Wr.rpart, Wr.rin, Wr.rat0, Wr.rset, Wr.rset1, Wr.rin1, Dev.r0, Dev.r1, Dev.r2, Dev.r3, Dev.r4, Dev.r5, Dev.r6, Dev.r7, *]
        | (refine allK_intro fun n hn => ?_; try simp only [fresh_set] at hn)
        | (refine ifK_intro (fun h => ?_) (fun h => ?_) <;> (try simp only [rulesE] at h) <;> try (exfalso; (try simp only [rulesF] at h); omega))
        | (refine keeps_sub (Mem.sub_set ?_) ?_; focus (simp [Mem.set_at, nomem, *]; done))
      exact .two (new_sec _ (Mem.set_same _ _ _)) .val
    · have hf : ¬ findN d.list q < d.list.length := fun hf => by
        unfold findI at *; rw [if_pos hf] at *; omega
      have e3 : readS d q = d.laid.getD q default := by unfold readS; rw [if_neg hf]
      rw [e3]
      exact .two (new_sec _ (Mem.set_same _ _ _)) .val
  · have e : readE d k = 20 := by unfold readE; rw [if_neg (by rw [hd]; decide), if_pos (by omega)]
    rw [e, if_neg (by decide)]
    exact .two .nil .val
end Go.Proofs.Ytlkeailgccbmbaa

set_option maxRecDepth 100000
set_option maxHeartbeats 1000000
set_option linter.unusedSimpArgs false
set_option linter.unusedVariables false
namespace Go.Proofs.Ytlkeailgccbmbaa
open Go.Abs
attribute [local irreducible] C X CC Y CV CW binK litK AppK PureC PureCV againK loopV rangeV allK ifK got onB condK V stepsK planK opK firstK seeE keepsK
theorem flat_bytes : ∀ (l : List UInt8), (l.map byteC).flatten = l.map fun b => AV.val (.int .u8 b.toNat)
  | [] => rfl
  | b :: l => by
    have : ((b :: l).map byteC).flatten = .val (.int .u8 b.toNat) :: (l.map byteC).flatten := rfl
    rw [this, flat_bytes l]; rfl
def fillS (l : List UInt8) : Sec := ⟨l.take 64 ++ List.replicate (64 - l.length) 0, by simp; omega⟩
theorem src_44 (m : Mem) (l : List UInt8) (x : Bool) : srcA Try.prog m 44 1 (.vs (l.map byteC) x) = some (l.length, (l.map byteC).flatten) := src_vs byteC ti_44 rfl (fun _ => ⟨rfl, rfl⟩) m l x
def newDev (n : Nat) : Dev := ⟨[], false, 0, 0, List.replicate n Sec.zero, false, 0, 0⟩
theorem newDev_ok {n : Nat} (h : 1 ≤ n) (h' : n ≤ 4096) : (newDev n).Ok := ⟨by simpa [newDev] using h, by simpa [newDev] using h', fun w hw => by simp [newDev] at hw, by simp [newDev], fun h => by cases h⟩
theorem map_rep {α β : Type} (f : α → β) (n : Nat) (a : α) : List.replicate n (f a) = (List.replicate n a).map f := by simp
theorem mk_58 (n : Nat) (h : n ≤ 4096) : mkSliceA Try.prog 58 (.val (.int .i64 n)) (.val (.int .i64 n)) = some (76, n, n, ((List.replicate n Sec.zero).map Sec.cells).flatten) := by
  simp only [mkSliceA, ti_58, ti_76, z_76, Sec.zr]
  rw [if_pos ⟨by omega, by omega, by omega, by omega, Sec.len _, by decide⟩]
  simp only [Int.toNat_natCast, map_rep]
theorem C8 (q : Nat) (h1 : 1 ≤ q) (h2 : q ≤ 4096) : C Try.prog 8 [.val (.int .i64 q)] nomem (fun r m' => ∃ N, r = .ptr N 0 ∧ (newDev q).At N m') := by
  have mk := mk_58 q h2
  refine C.turn (C8_of ?_)
  unfold k8
  repeat' first
    | simp -dsimp (disch := omega) only [↓rulesA, rulesB, rulesC, Int.reduceLT, nth, upd, put, storeN, AV.one, Nat.reduceBEq, Nat.reduceBNe, Int.reduceBEq, Int.reduceBNe, Int.reduceLE, Int.reduceEq, Int.reduceMod, Int.reduceNeg, boolBin, strBin, intBin, unA, fillA, ne_eq, reduceCtorEq, Nat.reduceAdd, Nat.reduceSub, Nat.reduceLeDiff, Nat.reduceLT, Nat.reduceEqDiff, Int.reduceToNat, eq_self, rulesT, rulesD, *]
    | (refine allK_intro fun n hn => ?_; try simp only [fresh_set] at hn)
    | (refine ifK_intro (fun h => ?_) (fun h => ?_) <;> (try simp only [rulesE] at h) <;> try (exfalso; (try simp only [rulesF] at h); omega))
    | (refine keeps_sub (Mem.sub_set ?_) ?_; focus (simp [Mem.set_at, nomem, *]; done))
  obtain ⟨hne, hne', -⟩ := hn
  refine Turns.cellNil 97 0 (Mem.set_same _ _ _) rfl fun n3 hn3 => ?_
  simp only [fresh_set] at hn3
  obtain ⟨a1, a2, a3, a4, -⟩ := hn3
  have e : (newDev q).laid.length = q := by simp [newDev]
  refine .sub (m' := (newDev q).mem n n3 _) ?_ ⟨_, rfl, n3, _, a2, hne, a3, rfl⟩
  unfold Dev.mem
  refine Mem.set_sub (Mem.set_sub (Mem.set_sub (nomem_sub _) ?_) ?_) ?_
  · simp [Mem.set_at, *, newDev]
  · simp [Mem.set_at, *, newDev]
  · simp [Mem.set_at, *, newDev, Dev.own, Dev.row]
theorem C8_no (k : Int) (h : ¬ (1 ≤ k ∧ k ≤ 4096)) : C Try.prog 8 [.val (.int .i64 k)] nomem (fun r m' => r = .val (.pointer none) ∧ m' = nomem) := by
  refine C8_of ?_
  unfold k8
  repeat' first
    | simp -dsimp (disch := omega) only [↓rulesA, rulesB, rulesC, Int.reduceLT, nth, upd, put, storeN, AV.one, Nat.reduceBEq, Nat.reduceBNe, Int.reduceBEq, Int.reduceBNe, Int.reduceLE, Int.reduceEq, Int.reduceMod, Int.reduceNeg, boolBin, strBin, intBin, unA, fillA, ne_eq, reduceCtorEq, Nat.reduceAdd, Nat.reduceSub, Nat.reduceLeDiff, Nat.reduceLT, Nat.reduceEqDiff, Int.reduceToNat, eq_self, rulesT, rulesD, *]
    | (refine allK_intro fun n hn => ?_; try simp only [fresh_set] at hn)
    | (refine ifK_intro (fun h => ?_) (fun h => ?_) <;> (try simp only [rulesE] at h) <;> try (exfalso; (try simp only [rulesF] at h); omega))
    | (refine keeps_sub (Mem.sub_set ?_) ?_; focus (simp [Mem.set_at, nomem, *]; done))
  all_goals first | exact ⟨rfl, rfl⟩ | (exfalso; omega)
end Go.Proofs.Ytlkeailgccbmbaa

set_option maxRecDepth 100000
set_option maxHeartbeats 1000000
set_option linter.unusedSimpArgs false
set_option linter.unusedVariables false
namespace Go.Proofs.Ytlkeailgccbmbaa
open Go.Abs
attribute [local irreducible] C X CC Y CV CW binK litK AppK PureC PureCV againK loopV rangeV allK ifK got onB condK V stepsK planK opK firstK seeE keepsK
def cutD (d : Dev) (c p : Int) : Dev := if d.dead then d else if 0 ≤ c then { d with set := true, left := c, pick := p } else { d with set := false, left := 0, pick := 0 }
theorem Dev.At.eq {d d' : Dev} {N : Nat} {m : Mem} (h : d.At N m) (e : d = d') : d'.At N m := e ▸ h
theorem C16 (d : Dev) (hd : 1 ≤ d.laid.length) {N : Nat} {m : Mem} (hat : d.At N m) (c p : Int) : C Try.prog 16 [.ptr N 0, .val (.int .i64 c), .val (.int .u64 p)] m (fun r m' => r = .tup [] ∧ (cutD d c p).At N m') := by
  have hs := hat.seen (Mem.sub.refl m) 0
  obtain ⟨nl, nL, h1, h2, h3, rfl⟩ := hat
  refine C.turn (C16_of ?_)
  unfold k16
  repeat' first
    | simp -dsimp (disch := omega) only [↓rulesA, rulesB, rulesC, Int.reduceLT, nth, upd, put, storeN, AV.one, Nat.reduceBEq, Nat.reduceBNe, Int.reduceBEq, Int.reduceBNe, Int.reduceLE, Int.reduceEq, Int.reduceMod, Int.reduceNeg, boolBin, strBin, intBin, unA, fillA, ne_eq, reduceCtorEq, Nat.reduceAdd, Nat.reduceSub, Nat.reduceLeDiff, Nat.reduceLT, Nat.reduceEqDiff, Int.reduceToNat, eq_self, rulesT, rulesD, *]
    | (refine allK_intro fun n hn => ?_; try simp only [fresh_set] at hn)
    | (refine ifK_intro (fun h => ?_) (fun h => ?_) <;> (try simp only [rulesE] at h) <;> try (exfalso; (try simp only [rulesF] at h); omega))
    | (refine keeps_sub (Mem.sub_set ?_) ?_; focus (simp [Mem.set_at, nomem, *]; done))
  refine call_F (F32 d false false hd) (.one hs) ?_
  unfold Dev.mem
  repeat' first
    | simp -dsimp (disch := omega) only [↓rulesA, rulesB, rulesC, Int.reduceLT, nth, upd, put, storeN, AV.one, Nat.reduceBEq, Nat.reduceBNe, Int.reduceBEq, Int.reduceBNe, Int.reduceLE, Int.reduceEq, Int.reduceMod, Int.reduceNeg, boolBin, strBin, intBin, unA, fillA, ne_eq, reduceCtorEq, Nat.reduceAdd, Nat.reduceSub, Nat.reduceLeDiff, Nat.reduceLT, Nat.reduceEqDiff, Int.reduceToNat, eq_self, rulesT, rulesD, Dev.row, Dev.o0, Dev.o1, Dev.o2, Dev.o3, Dev.o4, Dev.o5, Dev.o6, Dev.o7, Dev.olen, Dev.s0, Dev.s1, Dev.s2, Dev.s5, Dev.s6, Dev.s7, *]
    | (refine allK_intro fun n hn => ?_; try simp only [fresh_set] at hn)
    | (refine ifK_intro (fun h => ?_) (fun h => ?_) <;> (try simp only [rulesE] at h) <;> try (exfalso; (try simp only [rulesF] at h); omega))
    | (refine keeps_sub (Mem.sub_set ?_) ?_; focus (simp [Mem.set_at, nomem, *]; done))
  · refine Turns.id ⟨rfl, nl, nL, h1, h2, h3, ?_⟩
    unfold cutD; rw [if_pos h]; rfl
  · refine Turns.id ⟨rfl, nl, nL, h1, h2, h3, ?_⟩
    have hdd : d.dead = false := by assumption
    unfold cutD Dev.mem; rw [if_neg (by rw [hdd]; decide), if_pos (by omega)]; simp only [hdd]; rfl
  · refine Turns.id ⟨rfl, nl, nL, h1, h2, h3, ?_⟩
    have hdd : d.dead = false := by assumption
    unfold cutD Dev.mem; rw [if_neg (by rw [hdd]; decide), if_neg (by omega)]; simp only [hdd]; rfl
def onD (d : Dev) : Dev := { d with dead := false }
theorem C17 (d : Dev) (hd : 1 ≤ d.laid.length) {N : Nat} {m : Mem} (hat : d.At N m) : C Try.prog 17 [.ptr N 0] m (fun r m' => r = .tup [] ∧ (onD d).At N m') := by
  have hs := hat.seen (Mem.sub.refl m) 0
  obtain ⟨nl, nL, h1, h2, h3, rfl⟩ := hat
  refine C.turn (C17_of ?_)
  unfold k17
  repeat' first
    | simp -dsimp (disch := omega) only [↓rulesA, rulesB, rulesC, Int.reduceLT, nth, upd, put, storeN, AV.one, Nat.reduceBEq, Nat.reduceBNe, Int.reduceBEq, Int.reduceBNe, Int.reduceLE, Int.reduceEq, Int.reduceMod, Int.reduceNeg, boolBin, strBin, intBin, unA, fillA, ne_eq, reduceCtorEq, Nat.reduceAdd, Nat.reduceSub, Nat.reduceLeDiff, Nat.reduceLT, Nat.reduceEqDiff, Int.reduceToNat, eq_self, rulesT, rulesD, *]
    | (refine allK_intro fun n hn => ?_; try simp only [fresh_set] at hn)
    | (refine ifK_intro (fun h => ?_) (fun h => ?_) <;> (try simp only [rulesE] at h) <;> try (exfalso; (try simp only [rulesF] at h); omega))
    | (refine keeps_sub (Mem.sub_set ?_) ?_; focus (simp [Mem.set_at, nomem, *]; done))
  refine call_F (F40 d false false hd) (.one hs) ?_
  unfold Dev.mem
  repeat' first
    | simp -dsimp (disch := omega) only [↓rulesA, rulesB, rulesC, Int.reduceLT, nth, upd, put, storeN, AV.one, Nat.reduceBEq, Nat.reduceBNe, Int.reduceBEq, Int.reduceBNe, Int.reduceLE, Int.reduceEq, Int.reduceMod, Int.reduceNeg, boolBin, strBin, intBin, unA, fillA, ne_eq, reduceCtorEq, Nat.reduceAdd, Nat.reduceSub, Nat.reduceLeDiff, Nat.reduceLT, Nat.reduceEqDiff, Int.reduceToNat, eq_self, rulesT, rulesD, Dev.row, Dev.o0, Dev.o1, Dev.o2, Dev.o3, Dev.o4, Dev.o5, Dev.o6, Dev.o7, Dev.olen, Dev.s0, Dev.s1, Dev.s2, Dev.s5, Dev.s6, Dev.s7, *]
    | (refine allK_intro fun n hn => ?_; try simp only [fresh_set] at hn)
    | (refine ifK_intro (fun h => ?_) (fun h => ?_) <;> (try simp only [rulesE] at h) <;> try (exfalso; (try simp only [rulesF] at h); omega))
    | (refine keeps_sub (Mem.sub_set ?_) ?_; focus (simp [Mem.set_at, nomem, *]; done))
  exact Turns.id ⟨rfl, nl, nL, h1, h2, h3, rfl⟩
def layL (l : List Wr) (k : Nat) (s : Sec) : List Wr := if findN l k < l.length then l.set (findN l k) ⟨k, s⟩ else l ++ [⟨k, s⟩]
def layD (d : Dev) (k : Nat) (s : Sec) : Dev := { d with list := layL d.list k s }
theorem lit1_59 (w : Wr) : litA Try.prog 59 1 [(0, .agg w.cells)] = some (97, 65, w.cells) := by
  have h : setRange (List.replicate 1 (default : Wr).cells).flatten 0 w.cells = w.cells := by
    simp only [List.replicate_succ, List.replicate_zero, List.flatten_cons, List.flatten_nil, List.append_nil, Wr.put]
  simp only [litA, ti_59, ti_97, z_97, fillA, cells_agg, Wr.all, Wr.zr, Wr.len, if_true, Nat.zero_mul, h]
  rfl
theorem src_59 (m : Mem) (l : List Wr) (x : Bool) : srcA Try.prog m 59 65 (.vs (l.map Wr.cells) x) = some (l.length, (l.map Wr.cells).flatten) := src_vs Wr.cells ti_59 rfl (fun w => ⟨Wr.len w, Wr.all w⟩) m l x
theorem C54 (d : Dev) (hd : 1 ≤ d.laid.length) (hl : d.list.length ≤ 4096) {N : Nat} {m : Mem} (hat : d.At N m) (k : Nat) (s : Sec) : C Try.prog 54 [.ptr N 0, .val (.int .i64 k), .agg s.cells] m (fun r m' => r = .tup [] ∧ (layD d k s).At N m') := by
  obtain ⟨nl, nL, h1, h2, h3, rfl⟩ := hat
  have hs : ∀ M, (d.mem N nl nL).sub M → Seen M (.ptr N 0) (.vp (d.rc false false) 0) := fun M h => Dev.At.seen ⟨nl, nL, h1, h2, h3, rfl⟩ h 0
  refine C.turn (C54_of ?_)
  have hfn := findN_le d.list k
  have h1' := Ne.symm h1
  have h2' := Ne.symm h2
  have h3' := Ne.symm h3
  unfold k54
  unfold Dev.mem at hs ⊢
  repeat' first
    | simp -dsimp (disch := omega) only [↓rulesA, rulesB, rulesC, Int.reduceLT, nth, upd, put, storeN, AV.one, Nat.reduceBEq, Nat.reduceBNe, Int.reduceBEq, Int.reduceBNe, Int.reduceLE, Int.reduceEq, Int.reduceMod, Int.reduceNeg, boolBin, strBin, intBin, unA, fillA, ne_eq, reduceCtorEq, Nat.reduceAdd, Nat.reduceSub, Nat.reduceLeDiff, Nat.reduceLT, Nat.reduceEqDiff, Int.reduceToNat, eq_self, rulesT, rulesD, Sec.len, Sec.zr, Sec.all, Sec.take, Sec.drop, Sec.put, Sec.rlen, Sec.rpart, Sec.rin, Sec.rset, *]
    | (refine allK_intro fun n hn => ?_; try simp only [fresh_set] at hn)
    | (refine ifK_intro (fun h => ?_) (fun h => ?_) <;> (try simp only [rulesE] at h) <;> try (exfalso; (try simp only [rulesF] at h); omega))
    | (refine keeps_sub (Mem.sub_set ?_) ?_; focus (simp [Mem.set_at, nomem, *]; done))
  refine call_F (F60 d false false k (by omega)) (.two (hs _ (Mem.sub_set (by simp [Mem.set_at, *]))) .same) ?_
  clear hs
  repeat' first
    | simp -dsimp (disch := omega) only [↓rulesA, rulesB, rulesC, Int.reduceLT, nth, upd, put, storeN, AV.one, Nat.reduceBEq, Nat.reduceBNe, Int.reduceBEq, Int.reduceBNe, Int.reduceLE, Int.reduceEq, Int.reduceMod, Int.reduceNeg, boolBin, strBin, intBin, unA, fillA, ne_eq, reduceCtorEq, Nat.reduceAdd, Nat.reduceSub, Nat.reduceLeDiff, Nat.reduceLT, Nat.reduceEqDiff, Int.reduceToNat, eq_self, rulesT, rulesD, Dev.row, Dev.o0, Dev.o1, Dev.o2, Dev.o3, Dev.o4, Dev.o5, Dev.o6, Dev.o7, Dev.olen, Dev.s0, Dev.s1, Dev.s2, Dev.s5, Dev.s6, Dev.s7, Sec.len, Sec.zr, Sec.all, Sec.take, Sec.drop, Sec.put, Sec.rlen, Sec.rpart, Sec.rin, Sec.rset, Wr.build, Wr.len, Wr.zr, Wr.all, Wr.take, Wr.drop, Wr.g0, Wr.part1, Wr.put, Wr.rlen, Wr.rpart, Wr.rin, Wr.rat0, Wr.rset, Wr.rset1, Wr.rin1, *]
    | (refine allK_intro fun n hn => ?_; try simp only [fresh_set] at hn)
    | (refine ifK_intro (fun h => ?_) (fun h => ?_) <;> (try simp only [rulesE] at h) <;> try (exfalso; (try simp only [rulesF] at h); omega))
    | (refine keeps_sub (Mem.sub_set ?_) ?_; focus (simp [Mem.set_at, nomem, *]; done))
  · have hf : findN d.list k < d.list.length := by
      by_cases hf : findN d.list k < d.list.length
      · exact hf
      · unfold findI at *; rw [if_neg hf] at *; omega
    have e2 : findI d.list k = findN d.list k := by unfold findI; rw [if_pos hf]
    have e3 : (d.list.getD (findN d.list k) default).at_ = k := findN_is hf
    rw [e2]
    repeat' first
      | simp -dsimp (disch := omega) only [↓rulesA, rulesB, rulesC, Int.reduceLT, nth, upd, put, storeN, AV.one, Nat.reduceBEq, Nat.reduceBNe, Int.reduceBEq, Int.reduceBNe, Int.reduceLE, Int.reduceEq, Int.reduceMod, Int.reduceNeg, boolBin, strBin, intBin, unA, fillA, ne_eq, reduceCtorEq, Nat.reduceAdd, Nat.reduceSub, Nat.reduceLeDiff, Nat.reduceLT, Nat.reduceEqDiff, Int.reduceToNat, eq_self, rulesT, rulesD, Dev.row, Dev.o0, Dev.o1, Dev.o2, Dev.o3, Dev.o4, Dev.o5, Dev.o6, Dev.o7, Dev.olen, Dev.s0, Dev.s1, Dev.s2, Dev.s5, Dev.s6, Dev.s7, Sec.len, Sec.zr, Sec.all, Sec.take, Sec.drop, Sec.put, Sec.rlen, Sec.rpart, Sec.rin, Sec.rset, Wr.build, Wr.len, Wr.zr, Wr.all, Wr.take, Wr.drop, Wr.g0, Wr.part1, Wr.put, Wr.rlen, Wr.rpart, Wr.rin, Wr.rat0, Wr.rset, Wr.rset1, Wr.rin1, *]
      | (refine allK_intro fun n hn => ?_; try simp only [fresh_set] at hn)
      | (refine ifK_intro (fun h => ?_) (fun h => ?_) <;> (try simp only [rulesE] at h) <;> try (exfalso; (try simp only [rulesF] at h); omega))
      | (refine keeps_sub (Mem.sub_set ?_) ?_; focus (simp [Mem.set_at, nomem, *]; done))
    have e4 : layL d.list k s = d.list.set (findN d.list k) ⟨k, s⟩ := by unfold layL; rw [if_pos hf]
    have e5 : (layL d.list k s).length = d.list.length := by rw [e4, List.length_set]
    refine .sub (m' := (layD d k s).mem N nl nL) ?_ ⟨rfl, nl, nL, h1, h2, h3, rfl⟩
    unfold Dev.mem
    refine Mem.set_sub (Mem.set_sub (Mem.set_sub (nomem_sub _) ?_) ?_) ?_
    · simp [Mem.set_at, *, layD]
    · simp [Mem.set_at, *, layD]
    · simp [Mem.set_at, *, layD, Dev.own, Dev.row]
  · have hf : ¬ findN d.list k < d.list.length := fun hf => by
      unfold findI at *; rw [if_pos hf] at *; omega
    refine lit_vs (lit1_59 _) (Wr.len _) ?_
    repeat' first
      | simp -dsimp (disch := omega) only [↓rulesA, rulesB, rulesC, Int.reduceLT, nth, upd, put, storeN, AV.one, Nat.reduceBEq, Nat.reduceBNe, Int.reduceBEq, Int.reduceBNe, Int.reduceLE, Int.reduceEq, Int.reduceMod, Int.reduceNeg, boolBin, strBin, intBin, unA, fillA, ne_eq, reduceCtorEq, Nat.reduceAdd, Nat.reduceSub, Nat.reduceLeDiff, Nat.reduceLT, Nat.reduceEqDiff, Int.reduceToNat, eq_self, rulesT, rulesD, Dev.row, Dev.o0, Dev.o1, Dev.o2, Dev.o3, Dev.o4, Dev.o5, Dev.o6, Dev.o7, Dev.olen, Dev.s0, Dev.s1, Dev.s2, Dev.s5, Dev.s6, Dev.s7, Sec.len, Sec.zr, Sec.all, Sec.take, Sec.drop, Sec.put, Sec.rlen, Sec.rpart, Sec.rin, Sec.rset, Wr.build, Wr.len, Wr.zr, Wr.all, Wr.take, Wr.drop, Wr.g0, Wr.part1, Wr.put, Wr.rlen, Wr.rpart, Wr.rin, Wr.rat0, Wr.rset, Wr.rset1, Wr.rin1, *]
      | (refine allK_intro fun n hn => ?_; try simp only [fresh_set] at hn)
      | (refine ifK_intro (fun h => ?_) (fun h => ?_) <;> (try simp only [rulesE] at h) <;> try (exfalso; (try simp only [rulesF] at h); omega))
      | (refine keeps_sub (Mem.sub_set ?_) ?_; focus (simp [Mem.set_at, nomem, *]; done))
    refine append_open app_59 (src_59 _ [⟨k, s⟩] _) (bt := 97) (cs := (d.list.map Wr.cells).flatten) (by simp [Mem.set_at, *]) cs_97 (by rw [Wr.rlen]; simp) (show (d.list.length + 1) * 72 ≤ _ by omega) fun n4 hn4 => ?_
    simp only [fresh_set] at hn4
    repeat' first
      | simp -dsimp (disch := omega) only [↓rulesA, rulesB, rulesC, Int.reduceLT, nth, upd, put, storeN, AV.one, Nat.reduceBEq, Nat.reduceBNe, Int.reduceBEq, Int.reduceBNe, Int.reduceLE, Int.reduceEq, Int.reduceMod, Int.reduceNeg, boolBin, strBin, intBin, unA, fillA, ne_eq, reduceCtorEq, Nat.reduceAdd, Nat.reduceSub, Nat.reduceLeDiff, Nat.reduceLT, Nat.reduceEqDiff, Int.reduceToNat, eq_self, rulesT, rulesD, Dev.row, Dev.o0, Dev.o1, Dev.o2, Dev.o3, Dev.o4, Dev.o5, Dev.o6, Dev.o7, Dev.olen, Dev.s0, Dev.s1, Dev.s2, Dev.s5, Dev.s6, Dev.s7, Sec.len, Sec.zr, Sec.all, Sec.take, Sec.drop, Sec.put, Sec.rlen, Sec.rpart, Sec.rin, Sec.rset, Wr.build, Wr.len, Wr.zr, Wr.all, Wr.take, Wr.drop, Wr.g0, Wr.part1, Wr.put, Wr.rlen, Wr.rpart, Wr.rin, Wr.rat0, Wr.rset, Wr.rset1, Wr.rin1, *]
      | (refine allK_intro fun n hn => ?_; try simp only [fresh_set] at hn)
      | (refine ifK_intro (fun h => ?_) (fun h => ?_) <;> (try simp only [rulesE] at h) <;> try (exfalso; (try simp only [rulesF] at h); omega))
      | (refine keeps_sub (Mem.sub_set ?_) ?_; focus (simp [Mem.set_at, nomem, *]; done))
      | (refine keeps_stab ?_ ?_; focus ((repeat' first | exact stabK_nil _ _ | refine stabK_cons ?_ ?_ | (simp (disch := omega) only [quietA, Option.isSome_some, ↓rulesA, rulesB, rulesC, Int.reduceLT, nth, upd, put, storeN, AV.one, Nat.reduceBEq, Nat.reduceBNe, Int.reduceBEq, Int.reduceBNe, Int.reduceLE, Int.reduceEq, Int.reduceMod, Int.reduceNeg, boolBin, strBin, intBin, unA, fillA, ne_eq, reduceCtorEq, Nat.reduceAdd, Nat.reduceSub, Nat.reduceLeDiff, Nat.reduceLT, Nat.reduceEqDiff, Int.reduceToNat, eq_self, rulesT, rulesD, Dev.row, Dev.o0, Dev.o1, Dev.o2, Dev.o3, Dev.o4, Dev.o5, Dev.o6, Dev.o7, Dev.olen, Dev.s0, Dev.s1, Dev.s2, Dev.s5, Dev.s6, Dev.s7, Sec.len, Sec.zr, Sec.all, Sec.take, Sec.drop, Sec.put, Sec.rlen, Sec.rpart, Sec.rin, Sec.rset, Wr.build, Wr.len, Wr.zr, Wr.all, Wr.take, Wr.drop, Wr.g0, Wr.part1, Wr.put, Wr.rlen, Wr.rpart, Wr.rin, Wr.rat0, Wr.rset, Wr.rset1, Wr.rin1, *]; done)); done))
    have e4 : layL d.list k s = d.list ++ [⟨k, s⟩] := by unfold layL; rw [if_neg hf]
    obtain ⟨b1, b2, b3, b4, b5, b6, b7, b8, -⟩ := hn4
    refine .sub (m' := (layD d k s).mem N n4 nL) ?_ ⟨rfl, n4, nL, b4, h2, b7, rfl⟩
    unfold Dev.mem
    refine Mem.set_sub (Mem.set_sub (Mem.set_sub (nomem_sub _) ?_) ?_) ?_
    · simp [Mem.set_at, *, layD]
    · simp [Mem.set_at, *, layD]
    · simp [Mem.set_at, *, layD, Dev.own, Dev.row]
end Go.Proofs.Ytlkeailgccbmbaa

set_option maxRecDepth 100000
set_option maxHeartbeats 1000000
set_option linter.unusedSimpArgs false
set_option linter.unusedVariables false
namespace Go.Proofs.Ytlkeailgccbmbaa
open Go.Abs
attribute [local irreducible] C X CC Y CV CW binK litK AppK PureC PureCV againK loopV rangeV allK ifK got onB condK V stepsK planK opK firstK seeE keepsK
def bitAt (p : Int) (j : Nat) : Bool := bits .and .u64 (p.fdiv (2 ^ min (j % 64) 64)) 1 == 1
theorem tmod64 (j : Nat) : ((j : Int)).tmod 64 = ((j % 64 : Nat) : Int) := rfl
theorem natNeg (n : Nat) : (((n : Nat) : Int) < 0) = False := eq_false (by omega)
def layTo (l : List Wr) (b : Nat → Bool) (s : List Sec) : Nat → List Sec
  | 0 => s
  | i + 1 => if b i then (layTo l b s i).set (l.getD i default).at_ (l.getD i default).s else layTo l b s i
theorem layTo_len (l : List Wr) (b : Nat → Bool) (s : List Sec) : ∀ i, (layTo l b s i).length = s.length
  | 0 => rfl
  | i + 1 => by unfold layTo; split <;> simp [layTo_len l b s i]
theorem layTo_yes {l : List Wr} {b : Nat → Bool} {s : List Sec} {i : Nat} (h : b i = true) : layTo l b s (i + 1) = (layTo l b s i).set (l.getD i default).at_ (l.getD i default).s := if_pos h
theorem layTo_no {l : List Wr} {b : Nat → Bool} {s : List Sec} {i : Nat} (h : b i = false) : layTo l b s (i + 1) = layTo l b s i := if_neg (by rw [h]; decide)
def loseD (d : Dev) (p : Int) : Dev := if d.dead then d else { d with list := [], set := false, left := 0, pick := 0, dead := true, laid := layTo d.list (bitAt p) d.laid d.list.length }
def flushD (d : Dev) : Dev := if d.dead then d else { d with list := [], f := d.f + 1, laid := layTo d.list (fun _ => true) d.laid d.list.length }
theorem at_lt {d : Dev} (h : d.Ok) {i : Nat} (hi : i < d.list.length) : (d.list.getD i default).at_ < d.laid.length := by
  rw [List.getD_eq_getElem?_getD, List.getElem?_eq_getElem hi]
  exact h.at_ _ (List.getElem_mem hi)
theorem C39 (d : Dev) (hok : d.Ok) {N : Nat} {m : Mem} (hat : d.At N m) (hf : d.f < 4611686018427387904) : C Try.prog 39 [.ptr N 0] m (fun r m' => r = .val (.int .i64 (if d.dead then 22 else 0)) ∧ (flushD d).At N m') := by
  have hd := hok.some
  have hl := hok.list
  have hm := hok.most
  have hs := hat.seen (Mem.sub.refl m) 0
  obtain ⟨nl, nL, h1, h2, h3, rfl⟩ := hat
  have h1' := Ne.symm h1
  have h2' := Ne.symm h2
  have h3' := Ne.symm h3
  refine C.turn (C39_of ?_)
  unfold k39
  repeat' first
    | simp -dsimp (disch := omega) only [↓rulesA, rulesB, rulesC, Int.reduceLT, nth, upd, put, storeN, AV.one, Nat.reduceBEq, Nat.reduceBNe, Int.reduceBEq, Int.reduceBNe, Int.reduceLE, Int.reduceEq, Int.reduceMod, Int.reduceNeg, boolBin, strBin, intBin, unA, fillA, ne_eq, reduceCtorEq, Nat.reduceAdd, Nat.reduceSub, Nat.reduceLeDiff, Nat.reduceLT, Nat.reduceEqDiff, Int.reduceToNat, eq_self, rulesT, rulesD, *]
    | (refine allK_intro fun n hn => ?_; try simp only [fresh_set] at hn)
    | (refine ifK_intro (fun h => ?_) (fun h => ?_) <;> (try simp only [rulesE] at h) <;> try (exfalso; (try simp only [rulesF] at h); omega))
    | (refine keeps_sub (Mem.sub_set ?_) ?_; focus (simp [Mem.set_at, nomem, *]; done))
  refine call_F (F32 d false false hd) (.one hs) ?_
  clear hs
  rcases hdd : d.dead
  · unfold Dev.mem
    repeat' first
      | simp -dsimp (disch := omega) only [↓rulesA, rulesB, rulesC, Int.reduceLT, nth, upd, put, storeN, AV.one, Nat.reduceBEq, Nat.reduceBNe, Int.reduceBEq, Int.reduceBNe, Int.reduceLE, Int.reduceEq, Int.reduceMod, Int.reduceNeg, boolBin, strBin, intBin, unA, fillA, ne_eq, reduceCtorEq, Nat.reduceAdd, Nat.reduceSub, Nat.reduceLeDiff, Nat.reduceLT, Nat.reduceEqDiff, Int.reduceToNat, eq_self, rulesT, rulesD, Dev.row, Dev.o0, Dev.o1, Dev.o2, Dev.o3, Dev.o4, Dev.o5, Dev.o6, Dev.o7, Dev.olen, Dev.s0, Dev.s1, Dev.s2, Dev.s5, Dev.s6, Dev.s7, *]
      | (refine allK_intro fun n hn => ?_; try simp only [fresh_set] at hn)
      | (refine ifK_intro (fun h => ?_) (fun h => ?_) <;> (try simp only [rulesE] at h) <;> try (exfalso; (try simp only [rulesF] at h); omega))
      | (refine keeps_sub (Mem.sub_set ?_) ?_; focus (simp [Mem.set_at, nomem, *]; done))
    refine loop_intro (fun j env m => ∃ i : Nat, i ≤ d.list.length ∧ j = d.list.length - i ∧ m = ((nomem.set nL (.cells false 76 ((layTo d.list (fun _ => true) d.laid i).map Sec.cells).flatten)).set nl (.cells true 97 (d.list.map Wr.cells).flatten)).set N (.cells false 65 (d.own (.sl nl 0 d.list.length d.list.length) nL)) ∧
      env.length = 38 ∧ nth env 0 = .ptr N 0 ∧ nth env 11 = .sl nl 0 d.list.length d.list.length ∧ nth env 12 = .val (.int .i64 d.list.length) ∧ nth env 13 = .val (.int .i64 i)) d.list.length _ (fun _ _ h => h) ⟨0, by omega, by omega, rfl, rfl, rfl, rfl, rfl, rfl⟩ ?_
    rintro j env m ⟨i, hi, rfl, rfl, hlen, e0, e11, e12, e13⟩
    have hll := layTo_len d.list (fun _ => true) d.laid i
    repeat' first
      | simp -dsimp (disch := omega) only [↓rulesA, rulesB, rulesC, Int.reduceLT, nth, upd, put, storeN, AV.one, Nat.reduceBEq, Nat.reduceBNe, Int.reduceBEq, Int.reduceBNe, Int.reduceLE, Int.reduceEq, Int.reduceMod, Int.reduceNeg, boolBin, strBin, intBin, unA, fillA, ne_eq, reduceCtorEq, Nat.reduceAdd, Nat.reduceSub, Nat.reduceLeDiff, Nat.reduceLT, Nat.reduceEqDiff, Int.reduceToNat, eq_self, rulesT, rulesD, Dev.row, Dev.o0, Dev.o1, Dev.o2, Dev.o3, Dev.o4, Dev.o5, Dev.o6, Dev.o7, Dev.olen, Dev.s0, Dev.s1, Dev.s2, Dev.s5, Dev.s6, Dev.s7, Sec.len, Sec.zr, Sec.all, Sec.take, Sec.drop, Sec.put, Sec.rlen, Sec.rpart, Sec.rin, Sec.rset, Wr.build, Wr.len, Wr.zr, Wr.all, Wr.take, Wr.drop, Wr.g0, Wr.part1, Wr.put, Wr.rlen, Wr.rpart, Wr.rin, Wr.rat0, Wr.rset, Wr.rset1, Wr.rin1, *]
      | (refine allK_intro fun n hn => ?_; try simp only [fresh_set] at hn)
      | (refine ifK_intro (fun h => ?_) (fun h => ?_) <;> (try simp only [rulesE] at h) <;> try (exfalso; (try simp only [rulesF] at h); omega))
      | (refine keeps_sub (Mem.sub_set ?_) ?_; focus (simp [Mem.set_at, nomem, *]; done))
    · have ha := at_lt hok (show i < d.list.length by omega)
      repeat' first
        | simp -dsimp (disch := omega) only [↓rulesA, rulesB, rulesC, Int.reduceLT, nth, upd, put, storeN, AV.one, Nat.reduceBEq, Nat.reduceBNe, Int.reduceBEq, Int.reduceBNe, Int.reduceLE, Int.reduceEq, Int.reduceMod, Int.reduceNeg, boolBin, strBin, intBin, unA, fillA, ne_eq, reduceCtorEq, Nat.reduceAdd, Nat.reduceSub, Nat.reduceLeDiff, Nat.reduceLT, Nat.reduceEqDiff, Int.reduceToNat, eq_self, rulesT, rulesD, Dev.row, Dev.o0, Dev.o1, Dev.o2, Dev.o3, Dev.o4, Dev.o5, Dev.o6, Dev.o7, Dev.olen, Dev.s0, Dev.s1, Dev.s2, Dev.s5, Dev.s6, Dev.s7, Sec.len, Sec.zr, Sec.all, Sec.take, Sec.drop, Sec.put, Sec.rlen, Sec.rpart, Sec.rin, Sec.rset, Wr.build, Wr.len, Wr.zr, Wr.all, Wr.take, Wr.drop, Wr.g0, Wr.part1, Wr.put, Wr.rlen, Wr.rpart, Wr.rin, Wr.rat0, Wr.rset, Wr.rset1, Wr.rin1, *]
        | (refine allK_intro fun n hn => ?_; try simp only [fresh_set] at hn)
        | (refine ifK_intro (fun h => ?_) (fun h => ?_) <;> (try simp only [rulesE] at h) <;> try (exfalso; (try simp only [rulesF] at h); omega))
        | (refine keeps_sub (Mem.sub_set ?_) ?_; focus (simp [Mem.set_at, nomem, *]; done))
      have e := layTo_yes (l := d.list) (b := fun _ => true) (s := d.laid) (i := i) rfl
      refine again_intro (d.list.length - (i + 1)) (by omega) (((nomem.set nL (.cells false 76 ((layTo d.list (fun _ => true) d.laid (i + 1)).map Sec.cells).flatten)).set nl (.cells true 97 (d.list.map Wr.cells).flatten)).set N (.cells false 65 (d.own (.sl nl 0 d.list.length d.list.length) nL))) ?_ ⟨i + 1, by omega, rfl, rfl, ?_, ?_, ?_, ?_, ?_⟩
      · refine Mem.set_sub (Mem.set_sub (Mem.set_sub (nomem_sub _) ?_) ?_) ?_ <;> simp [Mem.set_at, *]
      all_goals try (simp (disch := omega) only [nth_upd, pickB_true, pickB_false, inB_lt, upd_len, cast_succ, Int.cast_ofNat_Int, Nat.reduceBEq, beq_self_eq_true, reduceCtorEq, *]; done)
    · have : i = d.list.length := by omega
      subst this
      refine Turns.cellNil 97 0 (Mem.set_same _ _ _) rfl fun n3 hn3 => ?_
      simp only [fresh_set] at hn3
      obtain ⟨b1, b2, b3, b4, b5, b6, -⟩ := hn3
      refine .sub (m' := (flushD d).mem N n3 nL) ?_ ⟨rfl, n3, nL, b2, h2, b5, rfl⟩
      unfold flushD Dev.mem
      rw [if_neg (by rw [hdd]; decide)]
      refine Mem.set_sub (Mem.set_sub (Mem.set_sub (nomem_sub _) ?_) ?_) ?_
      · simp [Mem.set_at, *]
      · simp [Mem.set_at, *]
      · simp [Mem.set_at, *, Dev.own, Dev.row]
  · repeat' first
      | simp -dsimp (disch := omega) only [↓rulesA, rulesB, rulesC, Int.reduceLT, nth, upd, put, storeN, AV.one, Nat.reduceBEq, Nat.reduceBNe, Int.reduceBEq, Int.reduceBNe, Int.reduceLE, Int.reduceEq, Int.reduceMod, Int.reduceNeg, boolBin, strBin, intBin, unA, fillA, ne_eq, reduceCtorEq, Nat.reduceAdd, Nat.reduceSub, Nat.reduceLeDiff, Nat.reduceLT, Nat.reduceEqDiff, Int.reduceToNat, eq_self, rulesT, rulesD, Dev.row, Dev.o0, Dev.o1, Dev.o2, Dev.o3, Dev.o4, Dev.o5, Dev.o6, Dev.o7, Dev.olen, Dev.s0, Dev.s1, Dev.s2, Dev.s5, Dev.s6, Dev.s7, *]
      | (refine allK_intro fun n hn => ?_; try simp only [fresh_set] at hn)
      | (refine ifK_intro (fun h => ?_) (fun h => ?_) <;> (try simp only [rulesE] at h) <;> try (exfalso; (try simp only [rulesF] at h); omega))
      | (refine keeps_sub (Mem.sub_set ?_) ?_; focus (simp [Mem.set_at, nomem, *]; done))
    refine Turns.id ⟨rfl, ?_⟩
    unfold flushD; rw [if_pos hdd]
    exact ⟨nl, nL, h1, h2, h3, rfl⟩
theorem C53 (d : Dev) (hok : d.Ok) {N : Nat} {m : Mem} (hat : d.At N m) (p : Int) : C Try.prog 53 [.ptr N 0, .val (.int .u64 p)] m (fun r m' => r = .tup [] ∧ (loseD d p).At N m') := by
  have hd := hok.some
  have hl := hok.list
  have hm := hok.most
  have hs := hat.seen (Mem.sub.refl m) 0
  obtain ⟨nl, nL, h1, h2, h3, rfl⟩ := hat
  have h1' := Ne.symm h1
  have h2' := Ne.symm h2
  have h3' := Ne.symm h3
  refine C.turn (C53_of ?_)
  unfold k53
  repeat' first
    | simp -dsimp (disch := omega) only [↓rulesA, rulesB, rulesC, Int.reduceLT, nth, upd, put, storeN, AV.one, Nat.reduceBEq, Nat.reduceBNe, Int.reduceBEq, Int.reduceBNe, Int.reduceLE, Int.reduceEq, Int.reduceMod, Int.reduceNeg, boolBin, strBin, intBin, unA, fillA, ne_eq, reduceCtorEq, Nat.reduceAdd, Nat.reduceSub, Nat.reduceLeDiff, Nat.reduceLT, Nat.reduceEqDiff, Int.reduceToNat, eq_self, rulesT, rulesD, *]
    | (refine allK_intro fun n hn => ?_; try simp only [fresh_set] at hn)
    | (refine ifK_intro (fun h => ?_) (fun h => ?_) <;> (try simp only [rulesE] at h) <;> try (exfalso; (try simp only [rulesF] at h); omega))
    | (refine keeps_sub (Mem.sub_set ?_) ?_; focus (simp [Mem.set_at, nomem, *]; done))
  refine call_F (F32 d false false hd) (.one hs) ?_
  clear hs
  rcases hdd : d.dead
  · unfold Dev.mem
    repeat' first
      | simp -dsimp (disch := omega) only [↓rulesA, rulesB, rulesC, Int.reduceLT, nth, upd, put, storeN, AV.one, Nat.reduceBEq, Nat.reduceBNe, Int.reduceBEq, Int.reduceBNe, Int.reduceLE, Int.reduceEq, Int.reduceMod, Int.reduceNeg, boolBin, strBin, intBin, unA, fillA, ne_eq, reduceCtorEq, Nat.reduceAdd, Nat.reduceSub, Nat.reduceLeDiff, Nat.reduceLT, Nat.reduceEqDiff, Int.reduceToNat, eq_self, rulesT, rulesD, Dev.row, Dev.o0, Dev.o1, Dev.o2, Dev.o3, Dev.o4, Dev.o5, Dev.o6, Dev.o7, Dev.olen, Dev.s0, Dev.s1, Dev.s2, Dev.s5, Dev.s6, Dev.s7, *]
      | (refine allK_intro fun n hn => ?_; try simp only [fresh_set] at hn)
      | (refine ifK_intro (fun h => ?_) (fun h => ?_) <;> (try simp only [rulesE] at h) <;> try (exfalso; (try simp only [rulesF] at h); omega))
      | (refine keeps_sub (Mem.sub_set ?_) ?_; focus (simp [Mem.set_at, nomem, *]; done))
    refine loop_intro (fun j env m => ∃ i : Nat, i ≤ d.list.length ∧ j = d.list.length - i ∧ m = ((nomem.set nL (.cells false 76 ((layTo d.list (bitAt p) d.laid i).map Sec.cells).flatten)).set nl (.cells true 97 (d.list.map Wr.cells).flatten)).set N (.cells false 65 (d.own (.sl nl 0 d.list.length d.list.length) nL)) ∧
      env.length = 46 ∧ nth env 0 = .ptr N 0 ∧ nth env 1 = .val (.int .u64 p) ∧ nth env 12 = .sl nl 0 d.list.length d.list.length ∧ nth env 13 = .val (.int .i64 d.list.length) ∧ nth env 14 = .val (.int .i64 i)) d.list.length _ (fun _ _ h => h) ⟨0, by omega, by omega, rfl, rfl, rfl, rfl, rfl, rfl, rfl⟩ ?_
    rintro j env m ⟨i, hi, rfl, rfl, hlen, e0, e1, e12, e13, e14⟩
    have hll := layTo_len d.list (bitAt p) d.laid i
    repeat' first
      | simp -dsimp (disch := omega) only [↓rulesA, rulesB, rulesC, Int.reduceLT, nth, upd, put, storeN, AV.one, Nat.reduceBEq, Nat.reduceBNe, Int.reduceBEq, Int.reduceBNe, Int.reduceLE, Int.reduceEq, Int.reduceMod, Int.reduceNeg, boolBin, strBin, intBin, unA, fillA, ne_eq, reduceCtorEq, Nat.reduceAdd, Nat.reduceSub, Nat.reduceLeDiff, Nat.reduceLT, Nat.reduceEqDiff, Int.reduceToNat, eq_self, rulesT, rulesD, Dev.row, Dev.o0, Dev.o1, Dev.o2, Dev.o3, Dev.o4, Dev.o5, Dev.o6, Dev.o7, Dev.olen, Dev.s0, Dev.s1, Dev.s2, Dev.s5, Dev.s6, Dev.s7, Sec.len, Sec.zr, Sec.all, Sec.take, Sec.drop, Sec.put, Sec.rlen, Sec.rpart, Sec.rin, Sec.rset, Wr.build, Wr.len, Wr.zr, Wr.all, Wr.take, Wr.drop, Wr.g0, Wr.part1, Wr.put, Wr.rlen, Wr.rpart, Wr.rin, Wr.rat0, Wr.rset, Wr.rset1, Wr.rin1, tmod64, natNeg, *]
      | (refine allK_intro fun n hn => ?_; try simp only [fresh_set] at hn)
      | (refine ifK_intro (fun h => ?_) (fun h => ?_) <;> (try simp only [rulesE] at h) <;> try (exfalso; (try simp only [rulesF] at h); omega))
      | (refine keeps_sub (Mem.sub_set ?_) ?_; focus (simp [Mem.set_at, nomem, *]; done))
    · have ha := at_lt hok (show i < d.list.length by omega)
      repeat' first
        | simp -dsimp (disch := omega) only [↓rulesA, rulesB, rulesC, Int.reduceLT, nth, upd, put, storeN, AV.one, Nat.reduceBEq, Nat.reduceBNe, Int.reduceBEq, Int.reduceBNe, Int.reduceLE, Int.reduceEq, Int.reduceMod, Int.reduceNeg, boolBin, strBin, intBin, unA, fillA, ne_eq, reduceCtorEq, Nat.reduceAdd, Nat.reduceSub, Nat.reduceLeDiff, Nat.reduceLT, Nat.reduceEqDiff, Int.reduceToNat, eq_self, rulesT, rulesD, Dev.row, Dev.o0, Dev.o1, Dev.o2, Dev.o3, Dev.o4, Dev.o5, Dev.o6, Dev.o7, Dev.olen, Dev.s0, Dev.s1, Dev.s2, Dev.s5, Dev.s6, Dev.s7, Sec.len, Sec.zr, Sec.all, Sec.take, Sec.drop, Sec.put, Sec.rlen, Sec.rpart, Sec.rin, Sec.rset, Wr.build, Wr.len, Wr.zr, Wr.all, Wr.take, Wr.drop, Wr.g0, Wr.part1, Wr.put, Wr.rlen, Wr.rpart, Wr.rin, Wr.rat0, Wr.rset, Wr.rset1, Wr.rin1, tmod64, natNeg, *]
        | (refine allK_intro fun n hn => ?_; try simp only [fresh_set] at hn)
        | (refine ifK_intro (fun h => ?_) (fun h => ?_) <;> (try simp only [rulesE] at h) <;> try (exfalso; (try simp only [rulesF] at h); omega))
        | (refine keeps_sub (Mem.sub_set ?_) ?_; focus (simp [Mem.set_at, nomem, *]; done))
      have e := layTo_yes (l := d.list) (b := bitAt p) (s := d.laid) (i := i) (by assumption)
      refine again_intro (d.list.length - (i + 1)) (by omega) (((nomem.set nL (.cells false 76 ((layTo d.list (bitAt p) d.laid (i + 1)).map Sec.cells).flatten)).set nl (.cells true 97 (d.list.map Wr.cells).flatten)).set N (.cells false 65 (d.own (.sl nl 0 d.list.length d.list.length) nL))) ?_ ⟨i + 1, by omega, rfl, rfl, ?_, ?_, ?_, ?_, ?_, ?_⟩
      · refine Mem.set_sub (Mem.set_sub (Mem.set_sub (nomem_sub _) ?_) ?_) ?_ <;> simp [Mem.set_at, *]
      all_goals try (simp (disch := omega) only [nth_upd, pickB_true, pickB_false, inB_lt, upd_len, cast_succ, Int.cast_ofNat_Int, Nat.reduceBEq, beq_self_eq_true, reduceCtorEq, *]; done)
    · have e := layTo_no (l := d.list) (b := bitAt p) (s := d.laid) (i := i) (by assumption)
      refine again_intro (d.list.length - (i + 1)) (by omega) (((nomem.set nL (.cells false 76 ((layTo d.list (bitAt p) d.laid (i + 1)).map Sec.cells).flatten)).set nl (.cells true 97 (d.list.map Wr.cells).flatten)).set N (.cells false 65 (d.own (.sl nl 0 d.list.length d.list.length) nL))) ?_ ⟨i + 1, by omega, rfl, rfl, ?_, ?_, ?_, ?_, ?_, ?_⟩
      · refine Mem.set_sub (Mem.set_sub (Mem.set_sub (nomem_sub _) ?_) ?_) ?_ <;> simp [Mem.set_at, *]
      all_goals try (simp (disch := omega) only [nth_upd, pickB_true, pickB_false, inB_lt, upd_len, cast_succ, Int.cast_ofNat_Int, Nat.reduceBEq, beq_self_eq_true, reduceCtorEq, *]; done)
    · have : i = d.list.length := by omega
      subst this
      refine Turns.cellNil 97 0 (Mem.set_same _ _ _) rfl fun n3 hn3 => ?_
      simp only [fresh_set] at hn3
      obtain ⟨b1, b2, b3, b4, b5, b6, -⟩ := hn3
      refine .sub (m' := (loseD d p).mem N n3 nL) ?_ ⟨rfl, n3, nL, b2, h2, b5, rfl⟩
      unfold loseD Dev.mem
      rw [if_neg (by rw [hdd]; decide)]
      refine Mem.set_sub (Mem.set_sub (Mem.set_sub (nomem_sub _) ?_) ?_) ?_
      · simp [Mem.set_at, *]
      · simp [Mem.set_at, *]
      · simp [Mem.set_at, *, Dev.own, Dev.row]
  · repeat' first
      | simp -dsimp (disch := omega) only [↓rulesA, rulesB, rulesC, Int.reduceLT, nth, upd, put, storeN, AV.one, Nat.reduceBEq, Nat.reduceBNe, Int.reduceBEq, Int.reduceBNe, Int.reduceLE, Int.reduceEq, Int.reduceMod, Int.reduceNeg, boolBin, strBin, intBin, unA, fillA, ne_eq, reduceCtorEq, Nat.reduceAdd, Nat.reduceSub, Nat.reduceLeDiff, Nat.reduceLT, Nat.reduceEqDiff, Int.reduceToNat, eq_self, rulesT, rulesD, Dev.row, Dev.o0, Dev.o1, Dev.o2, Dev.o3, Dev.o4, Dev.o5, Dev.o6, Dev.o7, Dev.olen, Dev.s0, Dev.s1, Dev.s2, Dev.s5, Dev.s6, Dev.s7, *]
      | (refine allK_intro fun n hn => ?_; try simp only [fresh_set] at hn)
      | (refine ifK_intro (fun h => ?_) (fun h => ?_) <;> (try simp only [rulesE] at h) <;> try (exfalso; (try simp only [rulesF] at h); omega))
      | (refine keeps_sub (Mem.sub_set ?_) ?_; focus (simp [Mem.set_at, nomem, *]; done))
    refine Turns.id ⟨rfl, ?_⟩
    unfold loseD; rw [if_pos hdd]
    exact ⟨nl, nL, h1, h2, h3, rfl⟩
end Go.Proofs.Ytlkeailgccbmbaa

set_option maxRecDepth 100000
set_option maxHeartbeats 1000000
set_option linter.unusedSimpArgs false
set_option linter.unusedVariables false
namespace Go.Proofs.Ytlkeailgccbmbaa
open Go.Abs
attribute [local irreducible] C X CC Y CV CW binK litK AppK PureC PureCV againK loopV rangeV allK ifK got onB condK V stepsK planK opK firstK seeE keepsK
theorem fill_full {l : List UInt8} (h : l.length = 64) : (fillS l).l = l := by
  simp [fillS, h, List.take_of_length_le (Nat.le_of_eq h)]
theorem fill_take {l : List UInt8} (h : l.length = 64) : ((l.take 64).map byteC).flatten = (fillS l).cells := by
  unfold Sec.cells; rw [fill_full h, List.take_of_length_le (Nat.le_of_eq h)]
def writeE (d : Dev) (k : Int) (l : List UInt8) : Int := if d.dead then 22 else if k < 0 ∨ d.laid.length ≤ k then 20 else if l.length ≠ 64 then 10 else if d.set ∧ d.left = 0 then 22 else 0
def lessD (d : Dev) : Dev := if d.set then { d with left := d.left - 1 } else d
def countD (d : Dev) : Dev := { d with w := d.w + 1 }
def writeD (d : Dev) (k : Int) (l : List UInt8) : Dev := if d.dead then d else if k < 0 ∨ d.laid.length ≤ k then d else if l.length ≠ 64 then d else if d.set ∧ d.left = 0 then loseD d d.pick else countD (layD (lessD d) k.toNat (fillS l))
theorem C38 (d : Dev) (hok : d.Ok) {N : Nat} {m : Mem} (hat : d.At N m) (hw : d.w < 4611686018427387904) (k : Int) (l : List UInt8) (x : Bool) (hll : l.length ≤ 140737488355328) : C Try.prog 38 [.ptr N 0, .val (.int .i64 k), .vs (l.map byteC) x] m (fun r m' => r = .val (.int .i64 (writeE d k l)) ∧ (writeD d k l).At N m') := by
  have hd := hok.some
  have hl := hok.list
  have hm := hok.most
  have hs := hat.seen (Mem.sub.refl m) 0
  have hat0 := hat
  obtain ⟨nl, nL, h1, h2, h3, rfl⟩ := hat
  have h1' := Ne.symm h1
  have h2' := Ne.symm h2
  have h3' := Ne.symm h3
  refine C.turn (C38_of ?_)
  unfold k38
  repeat' first
    | simp -dsimp (disch := omega) only [↓rulesA, rulesB, rulesC, Int.reduceLT, nth, upd, put, storeN, AV.one, Nat.reduceBEq, Nat.reduceBNe, Int.reduceBEq, Int.reduceBNe, Int.reduceLE, Int.reduceEq, Int.reduceMod, Int.reduceNeg, boolBin, strBin, intBin, unA, fillA, ne_eq, reduceCtorEq, Nat.reduceAdd, Nat.reduceSub, Nat.reduceLeDiff, Nat.reduceLT, Nat.reduceEqDiff, Int.reduceToNat, eq_self, rulesT, rulesD, *]
    | (refine allK_intro fun n hn => ?_; try simp only [fresh_set] at hn)
    | (refine ifK_intro (fun h => ?_) (fun h => ?_) <;> (try simp only [rulesE] at h) <;> try (exfalso; (try simp only [rulesF] at h); omega))
    | (refine keeps_sub (Mem.sub_set ?_) ?_; focus (simp [Mem.set_at, nomem, *]; done))
  refine call_F (F32 d false false hd) (.one hs) ?_
  clear hs
  rcases hdd : d.dead
  · have hnd : ¬ d.dead = true := by rw [hdd]; decide
    have r20 : Kept ((k < 0 ∨ d.laid.length ≤ k) → writeE d k l = 20 ∧ writeD d k l = d) := fun h => by
      unfold writeE writeD; rw [if_neg hnd, if_neg hnd, if_pos h, if_pos h]; exact ⟨rfl, rfl⟩
    have r10 : Kept (¬ (k < 0 ∨ d.laid.length ≤ k) → l.length ≠ 64 → writeE d k l = 10 ∧ writeD d k l = d) := fun h h' => by
      unfold writeE writeD; rw [if_neg hnd, if_neg hnd, if_neg h, if_neg h, if_pos h', if_pos h']; exact ⟨rfl, rfl⟩
    have r22 : Kept (¬ (k < 0 ∨ d.laid.length ≤ k) → l.length = 64 → (d.set = true ∧ d.left = 0) → writeE d k l = 22 ∧ writeD d k l = loseD d d.pick) := fun h h' h'' => ⟨by unfold writeE; rw [if_neg hnd, if_neg h, if_neg (fun e => e h'), if_pos h''], by unfold writeD; rw [if_neg hnd, if_neg h, if_neg (fun e => e h'), if_pos h'']⟩
    have r0 : Kept (¬ (k < 0 ∨ d.laid.length ≤ k) → l.length = 64 → ¬ (d.set = true ∧ d.left = 0) → writeE d k l = 0 ∧ writeD d k l = countD (layD (lessD d) k.toNat (fillS l))) := fun h h' h'' => ⟨by unfold writeE; rw [if_neg hnd, if_neg h, if_neg (fun e => e h'), if_neg h''], by unfold writeD; rw [if_neg hnd, if_neg h, if_neg (fun e => e h'), if_neg h'']⟩
    have fin : Kept (∀ (d1 : Dev), d1.laid = d.laid → d1.list = d.list → d1.w = d.w → lessD d = d1 → ∀ m (q : Nat), k = q → ¬ (k < 0 ∨ d.laid.length ≤ k) → l.length = 64 → ¬ (d.set = true ∧ d.left = 0) → d1.At N m → ∀ (K' : AV → Mem → Prop) (y : Hid K'), (∀ nl nL, N ≠ nl → N ≠ nL → nl ≠ nL → K' (.tup []) ((layD d1 q (fillS l)).mem N nl nL)) → CC Try.prog 54 [.ptr N 0, .val (.int .i64 q), .agg (fillS l).cells] m (hid K' y)) := fun d1 e1 e2 e3 e4 m q e5 g1 g2 g3 h K' y hk =>
      call_C (C54 d1 (by rw [e1]; exact hd) (by rw [e2]; exact hl) h q (fillS l)) fun r m' ⟨hr, nl', nL', h1, h2, h3, hm'⟩ => by subst hr hm'; exact hk nl' nL' h1 h2 h3
    clear hnd
    by_cases hL : l.length = 64
    · have ht := fill_take hL
      unfold Dev.mem at hat0 ⊢
      rcases hset : d.set
      · repeat' first
          | simp -dsimp (disch := omega) only [↓rulesA, rulesB, rulesC, Int.reduceLT, nth, upd, put, storeN, AV.one, Nat.reduceBEq, Nat.reduceBNe, Int.reduceBEq, Int.reduceBNe, Int.reduceLE, Int.reduceEq, Int.reduceMod, Int.reduceNeg, boolBin, strBin, intBin, unA, fillA, ne_eq, reduceCtorEq, Nat.reduceAdd, Nat.reduceSub, Nat.reduceLeDiff, Nat.reduceLT, Nat.reduceEqDiff, Int.reduceToNat, eq_self, rulesT, rulesD, Dev.row, Dev.o0, Dev.o1, Dev.o2, Dev.o3, Dev.o4, Dev.o5, Dev.o6, Dev.o7, Dev.olen, Dev.s0, Dev.s1, Dev.s2, Dev.s5, Dev.s6, Dev.s7, hset, Sec.len, Sec.zr, Sec.all, Sec.take, Sec.drop, Sec.put, Sec.rlen, Sec.rpart, Sec.rin, Sec.rset, ht, *]
          | (refine allK_intro fun n hn => ?_; try simp only [fresh_set] at hn)
          | (refine ifK_intro (fun h => ?_) (fun h => ?_) <;> (try simp only [rulesE] at h) <;> try (exfalso; (try simp only [rulesF] at h); omega))
          | (refine keeps_sub (Mem.sub_set ?_) ?_; focus (simp [Mem.set_at, nomem, *]; done))
        all_goals first | exact Turns.id ⟨by rw [(r20 (by omega)).1], hat0.eq (r20 (by omega)).2.symm⟩ | skip
        obtain ⟨q, rfl⟩ : ∃ q : Nat, k = q := ⟨k.toNat, by omega⟩
        have hc : ¬ (d.set = true ∧ d.left = 0) := by rw [hset]; simp
        have e : lessD d = d := by unfold lessD; rw [if_neg (by rw [hset]; decide)]
        refine fin d rfl rfl rfl e _ q rfl (by omega) hL hc ⟨nl, nL, h1, h2, h3, rfl⟩ _ _ fun nl' nL' g1 g2 g3 => ?_
        have hw1 : (layD d q (fillS l)).w = d.w := rfl
        unfold Dev.mem
        repeat' first
          | simp -dsimp (disch := omega) only [↓rulesA, rulesB, rulesC, Int.reduceLT, nth, upd, put, storeN, AV.one, Nat.reduceBEq, Nat.reduceBNe, Int.reduceBEq, Int.reduceBNe, Int.reduceLE, Int.reduceEq, Int.reduceMod, Int.reduceNeg, boolBin, strBin, intBin, unA, fillA, ne_eq, reduceCtorEq, Nat.reduceAdd, Nat.reduceSub, Nat.reduceLeDiff, Nat.reduceLT, Nat.reduceEqDiff, Int.reduceToNat, eq_self, rulesT, rulesD, Dev.row, Dev.o0, Dev.o1, Dev.o2, Dev.o3, Dev.o4, Dev.o5, Dev.o6, Dev.o7, Dev.olen, Dev.s0, Dev.s1, Dev.s2, Dev.s5, Dev.s6, Dev.s7, hset, *]
          | (refine allK_intro fun n hn => ?_; try simp only [fresh_set] at hn)
          | (refine ifK_intro (fun h => ?_) (fun h => ?_) <;> (try simp only [rulesE] at h) <;> try (exfalso; (try simp only [rulesF] at h); omega))
          | (refine keeps_sub (Mem.sub_set ?_) ?_; focus (simp [Mem.set_at, nomem, *]; done))
        refine Turns.id ⟨by rw [(r0 (by omega) hL hc).1], Dev.At.eq ?_ ((r0 (by omega) hL hc).2.symm)⟩
        rw [e]
        exact ⟨nl', nL', g1, g2, g3, rfl⟩
      · have hc := hok.cut hset
        repeat' first
          | simp -dsimp (disch := omega) only [↓rulesA, rulesB, rulesC, Int.reduceLT, nth, upd, put, storeN, AV.one, Nat.reduceBEq, Nat.reduceBNe, Int.reduceBEq, Int.reduceBNe, Int.reduceLE, Int.reduceEq, Int.reduceMod, Int.reduceNeg, boolBin, strBin, intBin, unA, fillA, ne_eq, reduceCtorEq, Nat.reduceAdd, Nat.reduceSub, Nat.reduceLeDiff, Nat.reduceLT, Nat.reduceEqDiff, Int.reduceToNat, eq_self, rulesT, rulesD, Dev.row, Dev.o0, Dev.o1, Dev.o2, Dev.o3, Dev.o4, Dev.o5, Dev.o6, Dev.o7, Dev.olen, Dev.s0, Dev.s1, Dev.s2, Dev.s5, Dev.s6, Dev.s7, hset, Sec.len, Sec.zr, Sec.all, Sec.take, Sec.drop, Sec.put, Sec.rlen, Sec.rpart, Sec.rin, Sec.rset, ht, *]
          | (refine allK_intro fun n hn => ?_; try simp only [fresh_set] at hn)
          | (refine ifK_intro (fun h => ?_) (fun h => ?_) <;> (try simp only [rulesE] at h) <;> try (exfalso; (try simp only [rulesF] at h); omega))
          | (refine keeps_sub (Mem.sub_set ?_) ?_; focus (simp [Mem.set_at, nomem, *]; done))
        all_goals first | exact Turns.id ⟨by rw [(r20 (by omega)).1], hat0.eq (r20 (by omega)).2.symm⟩ | skip
        · refine call_C (C53 d hok ⟨nl, nL, h1, h2, h3, rfl⟩ d.pick) fun r m' ⟨hr, h'⟩ => ?_
          subst hr
          have e : Kept (writeE d k l = 22 ∧ writeD d k l = loseD d d.pick) := r22 (by omega) hL ⟨hset, by simpa using h⟩
          repeat' first
            | simp -dsimp (disch := omega) only [↓rulesA, rulesB, rulesC, Int.reduceLT, nth, upd, put, storeN, AV.one, Nat.reduceBEq, Nat.reduceBNe, Int.reduceBEq, Int.reduceBNe, Int.reduceLE, Int.reduceEq, Int.reduceMod, Int.reduceNeg, boolBin, strBin, intBin, unA, fillA, ne_eq, reduceCtorEq, Nat.reduceAdd, Nat.reduceSub, Nat.reduceLeDiff, Nat.reduceLT, Nat.reduceEqDiff, Int.reduceToNat, eq_self, rulesT, rulesD, *]
            | (refine allK_intro fun n hn => ?_; try simp only [fresh_set] at hn)
            | (refine ifK_intro (fun h => ?_) (fun h => ?_) <;> (try simp only [rulesE] at h) <;> try (exfalso; (try simp only [rulesF] at h); omega))
            | (refine keeps_sub (Mem.sub_set ?_) ?_; focus (simp [Mem.set_at, nomem, *]; done))
          exact Turns.id ⟨by rw [e.1], h'.eq e.2.symm⟩
        · obtain ⟨q, rfl⟩ : ∃ q : Nat, k = q := ⟨k.toNat, by omega⟩
          have hc' : ¬ (d.set = true ∧ d.left = 0) := fun h' => by
            have h0 : (d.left == 0) = false := by assumption
            rw [h'.2] at h0; cases h0
          have e : lessD d = ⟨d.list, true, d.left - 1, d.pick, d.laid, false, d.w, d.f⟩ := by unfold lessD; rw [if_pos hset, ← hset, ← hdd]
          refine fin ⟨d.list, true, d.left - 1, d.pick, d.laid, false, d.w, d.f⟩ rfl rfl rfl e _ q rfl (by omega) hL hc' ⟨nl, nL, h1, h2, h3, rfl⟩ _ _ fun nl' nL' g1 g2 g3 => ?_
          have hw1 : (layD ⟨d.list, true, d.left - 1, d.pick, d.laid, false, d.w, d.f⟩ q (fillS l)).w = d.w := rfl
          unfold Dev.mem
          repeat' first
            | simp -dsimp (disch := omega) only [↓rulesA, rulesB, rulesC, Int.reduceLT, nth, upd, put, storeN, AV.one, Nat.reduceBEq, Nat.reduceBNe, Int.reduceBEq, Int.reduceBNe, Int.reduceLE, Int.reduceEq, Int.reduceMod, Int.reduceNeg, boolBin, strBin, intBin, unA, fillA, ne_eq, reduceCtorEq, Nat.reduceAdd, Nat.reduceSub, Nat.reduceLeDiff, Nat.reduceLT, Nat.reduceEqDiff, Int.reduceToNat, eq_self, rulesT, rulesD, Dev.row, Dev.o0, Dev.o1, Dev.o2, Dev.o3, Dev.o4, Dev.o5, Dev.o6, Dev.o7, Dev.olen, Dev.s0, Dev.s1, Dev.s2, Dev.s5, Dev.s6, Dev.s7, hset, *]
            | (refine allK_intro fun n hn => ?_; try simp only [fresh_set] at hn)
            | (refine ifK_intro (fun h => ?_) (fun h => ?_) <;> (try simp only [rulesE] at h) <;> try (exfalso; (try simp only [rulesF] at h); omega))
            | (refine keeps_sub (Mem.sub_set ?_) ?_; focus (simp [Mem.set_at, nomem, *]; done))
          refine Turns.id ⟨by rw [(r0 (by omega) hL hc').1], Dev.At.eq ?_ ((r0 (by omega) hL hc').2.symm)⟩
          rw [e]
          exact ⟨nl', nL', g1, g2, g3, rfl⟩
    · unfold Dev.mem at hat0 ⊢
      repeat' first
        | simp -dsimp (disch := omega) only [↓rulesA, rulesB, rulesC, Int.reduceLT, nth, upd, put, storeN, AV.one, Nat.reduceBEq, Nat.reduceBNe, Int.reduceBEq, Int.reduceBNe, Int.reduceLE, Int.reduceEq, Int.reduceMod, Int.reduceNeg, boolBin, strBin, intBin, unA, fillA, ne_eq, reduceCtorEq, Nat.reduceAdd, Nat.reduceSub, Nat.reduceLeDiff, Nat.reduceLT, Nat.reduceEqDiff, Int.reduceToNat, eq_self, rulesT, rulesD, Dev.row, Dev.o0, Dev.o1, Dev.o2, Dev.o3, Dev.o4, Dev.o5, Dev.o6, Dev.o7, Dev.olen, Dev.s0, Dev.s1, Dev.s2, Dev.s5, Dev.s6, Dev.s7, *]
        | (refine allK_intro fun n hn => ?_; try simp only [fresh_set] at hn)
        | (refine ifK_intro (fun h => ?_) (fun h => ?_) <;> (try simp only [rulesE] at h) <;> try (exfalso; (try simp only [rulesF] at h); omega))
        | (refine keeps_sub (Mem.sub_set ?_) ?_; focus (simp [Mem.set_at, nomem, *]; done))
      all_goals first
        | exact Turns.id ⟨by rw [(r20 (by omega)).1], hat0.eq (r20 (by omega)).2.symm⟩
        | exact Turns.id ⟨by rw [(r10 (by omega) hL).1], hat0.eq (r10 (by omega) hL).2.symm⟩
        | (exfalso; simp_all; done)
        | (exfalso; rename_i hx; simp only [bne_eq_false_iff_eq, bne_iff_ne] at hx; omega)
        | (exfalso; simp only [bne_eq_false_iff_eq, bne_iff_ne] at h; omega)
  · repeat' first
      | simp -dsimp (disch := omega) only [↓rulesA, rulesB, rulesC, Int.reduceLT, nth, upd, put, storeN, AV.one, Nat.reduceBEq, Nat.reduceBNe, Int.reduceBEq, Int.reduceBNe, Int.reduceLE, Int.reduceEq, Int.reduceMod, Int.reduceNeg, boolBin, strBin, intBin, unA, fillA, ne_eq, reduceCtorEq, Nat.reduceAdd, Nat.reduceSub, Nat.reduceLeDiff, Nat.reduceLT, Nat.reduceEqDiff, Int.reduceToNat, eq_self, rulesT, rulesD, Dev.row, Dev.o0, Dev.o1, Dev.o2, Dev.o3, Dev.o4, Dev.o5, Dev.o6, Dev.o7, Dev.olen, Dev.s0, Dev.s1, Dev.s2, Dev.s5, Dev.s6, Dev.s7, *]
      | (refine allK_intro fun n hn => ?_; try simp only [fresh_set] at hn)
      | (refine ifK_intro (fun h => ?_) (fun h => ?_) <;> (try simp only [rulesE] at h) <;> try (exfalso; (try simp only [rulesF] at h); omega))
      | (refine keeps_sub (Mem.sub_set ?_) ?_; focus (simp [Mem.set_at, nomem, *]; done))
    refine Turns.id ⟨?_, hat0.eq ?_⟩
    · unfold writeE; rw [if_pos hdd]
    · unfold writeD; rw [if_pos hdd]
end Go.Proofs.Ytlkeailgccbmbaa

set_option maxRecDepth 100000
set_option maxHeartbeats 1000000
set_option linter.unusedSimpArgs false
set_option linter.unusedVariables false
namespace Go.Proofs.Ytlkeailgccbmbaa
open Go.Abs
attribute [local irreducible] C X CC Y CV CW binK litK AppK PureC PureCV againK loopV rangeV allK ifK got onB condK V stepsK planK opK firstK seeE keepsK
theorem Ok.cut {d : Dev} (h : d.Ok) {c p : Int} (hc : c ≤ 9223372036854775807) : (cutD d c p).Ok := by
  unfold cutD
  split
  · exact h
  · split
    · exact ⟨h.some, h.most, h.at_, h.once, fun _ => ⟨by assumption, hc⟩⟩
    · exact ⟨h.some, h.most, h.at_, h.once, fun e => by cases e⟩
theorem Ok.on {d : Dev} (h : d.Ok) : (onD d).Ok := ⟨h.some, h.most, h.at_, h.once, h.cut⟩
theorem Ok.lose {d : Dev} (h : d.Ok) (p : Int) : (loseD d p).Ok := by
  unfold loseD
  split
  · exact h
  · exact ⟨by rw [layTo_len]; exact h.some, by rw [layTo_len]; exact h.most, fun w hw => by simp at hw, List.nodup_nil, fun e => by cases e⟩
theorem Ok.flush {d : Dev} (h : d.Ok) : (flushD d).Ok := by
  unfold flushD
  split
  · exact h
  · exact ⟨by rw [layTo_len]; exact h.some, by rw [layTo_len]; exact h.most, fun w hw => by simp at hw, List.nodup_nil, h.cut⟩
theorem layL_at {l : List Wr} {k : Nat} {s : Sec} {n : Nat} (h : ∀ w ∈ l, w.at_ < n) (hk : k < n) : ∀ w ∈ layL l k s, w.at_ < n := by
  unfold layL
  split
  · intro w hw
    rcases List.mem_or_eq_of_mem_set hw with hw | rfl
    · exact h w hw
    · exact hk
  · intro w hw
    rcases List.mem_append.1 hw with hw | hw
    · exact h w hw
    · rw [List.mem_singleton] at hw; subst hw; exact hk
theorem set_same {α : Type} [Inhabited α] (l : List α) (i : Nat) (a : α) (h : l.getD i default = a) : l.set i a = l := by
  subst h
  by_cases hi : i < l.length
  · rw [List.getD_eq_getElem?_getD, List.getElem?_eq_getElem hi]; simp
  · rw [List.set_eq_of_length_le (by omega)]
theorem layL_once {l : List Wr} {k : Nat} {s : Sec} (h : (l.map (·.at_)).Nodup) : ((layL l k s).map (·.at_)).Nodup := by
  unfold layL
  split
  · rename_i hf
    rw [List.map_set, set_same]
    · exact h
    · rw [getD_map _ _ _ hf]; exact findN_is hf
  · rename_i hf
    rw [List.map_append, List.nodup_append]
    refine ⟨h, by simp, fun a ha b hb => ?_⟩
    simp only [List.map_cons, List.map_nil, List.mem_singleton] at hb
    subst hb
    obtain ⟨w, hw, rfl⟩ := List.mem_map.1 ha
    intro e
    apply hf
    unfold findN
    rw [List.findIdx_lt_length]
    exact ⟨w, hw, by simpa using e⟩
theorem Ok.write {d : Dev} (h : d.Ok) (k : Int) (l : List UInt8) : (writeD d k l).Ok := by
  unfold writeD
  split
  · exact h
  · split
    · exact h
    · rename_i hk
      split
      · exact h
      · split
        · exact Ok.lose h _
        · rename_i hc
          have hq : k.toNat < d.laid.length := by omega
          refine ⟨?_, ?_, ?_, ?_, ?_⟩
          · unfold countD layD lessD; split <;> exact h.some
          · unfold countD layD lessD; split <;> exact h.most
          · unfold countD layD lessD; split <;> exact layL_at h.at_ hq
          · unfold countD layD lessD; split <;> exact layL_once h.once
          · unfold countD layD lessD
            split
            · rename_i hs
              intro _
              have := h.cut hs
              have : d.left ≠ 0 := fun e => hc ⟨hs, e⟩
              show 0 ≤ d.left - 1 ∧ d.left - 1 ≤ _
              omega
            · exact h.cut
theorem write_laid (d : Dev) (k : Int) (l : List UInt8) : (writeD d k l).laid.length = d.laid.length := by
  unfold writeD
  split
  · rfl
  · split
    · rfl
    · split
      · rfl
      · split
        · unfold loseD; split
          · rfl
          · exact layTo_len _ _ _ _
        · unfold countD layD lessD; split <;> rfl
theorem write_w (d : Dev) (k : Int) (l : List UInt8) : (writeD d k l).w ≤ d.w + 1 := by
  unfold writeD
  split
  · omega
  · split
    · omega
    · split
      · omega
      · split
        · unfold loseD; split <;> simp
        · unfold countD layD lessD; split <;> simp
theorem write_f (d : Dev) (k : Int) (l : List UInt8) : (writeD d k l).f = d.f := by
  unfold writeD
  split
  · rfl
  · split
    · rfl
    · split
      · rfl
      · split
        · unfold loseD; split <;> rfl
        · unfold countD layD lessD; split <;> rfl
theorem flush_laid (d : Dev) : (flushD d).laid.length = d.laid.length := by
  unfold flushD; split
  · rfl
  · exact layTo_len _ _ _ _
theorem cut_laid (d : Dev) (c p : Int) : (cutD d c p).laid.length = d.laid.length ∧ (cutD d c p).w = d.w ∧ (cutD d c p).f = d.f := by unfold cutD; split <;> (try split) <;> exact ⟨rfl, rfl, rfl⟩
end Go.Proofs.Ytlkeailgccbmbaa

set_option maxRecDepth 100000
set_option maxHeartbeats 1000000
set_option linter.unusedSimpArgs false
set_option linter.unusedVariables false
namespace Go.Proofs.Ytlkeailgccbmbaa
open Go.Abs
attribute [local irreducible] C X CC Y CV CW binK litK AppK PureC PureCV againK loopV rangeV allK ifK got onB condK V stepsK planK opK firstK seeE keepsK
theorem img_cons (s : Sec) (L : List Sec) : imgL (s :: L) = s.l ++ imgL L := by simp [imgL]
theorem img_part : ∀ (L : List Sec) (k : Nat), k < L.length → ((imgL L).drop (k * 64)).take 64 = (L.getD k default).l
  | [], k, h => by simp at h
  | s :: L, 0, _ => by
    rw [img_cons, Nat.zero_mul, List.drop_zero, List.take_append_of_le_length (by rw [s.h]; exact Nat.le_refl _), List.take_of_length_le (by rw [s.h]; exact Nat.le_refl _)]; rfl
  | s :: L, k + 1, h => by
    have : (k + 1) * 64 = s.l.length + k * 64 := by rw [s.h]; omega
    rw [img_cons, this, ← List.drop_drop, List.drop_left]
    rw [img_part L k (by simpa using h)]; rfl
structure Free (n : Nat) (d : Dev) : Prop where
  ok : d.Ok
  n : d.laid.length = n
  dead : d.dead = false
  set : d.set = false
theorem Free.write {n : Nat} {d : Dev} (h : Free n d) {k : Nat} (hk : k < n) {l : List UInt8} (hl : l.length = 64) : writeE d k l = 0 ∧ writeD d k l = countD (layD d k (fillS l)) ∧ Free n (writeD d k l) := by
  have hn := h.n
  have h1 : ¬ d.dead = true := by rw [h.dead]; decide
  have h2 : ¬ ((k : Int) < 0 ∨ (d.laid.length : Int) ≤ (k : Int)) := by omega
  have h3 : ¬ l.length ≠ 64 := fun e => e hl
  have h4 : ¬ (d.set = true ∧ d.left = 0) := by rw [h.set]; simp
  have e2 : lessD d = d := by unfold lessD; rw [if_neg (by rw [h.set]; decide)]
  have e : writeD d k l = countD (layD d k (fillS l)) := by unfold writeD; rw [if_neg h1, if_neg h2, if_neg h3, if_neg h4, e2]; rfl
  refine ⟨by unfold writeE; rw [if_neg h1, if_neg h2, if_neg h3, if_neg h4], e, Ok.write h.ok _ _, by rw [write_laid]; exact hn, ?_, ?_⟩
  · rw [e]; exact h.dead
  · rw [e]; exact h.set
theorem Free.flush {n : Nat} {d : Dev} (h : Free n d) : Free n (flushD d) ∧ (flushD d).list = [] ∧ (flushD d).f = d.f + 1 ∧ (flushD d).w = d.w := by
  have e : flushD d = { d with list := [], f := d.f + 1, laid := layTo d.list (fun _ => true) d.laid d.list.length } := by unfold flushD; rw [if_neg (by rw [h.dead]; decide)]
  refine ⟨⟨Ok.flush h.ok, by rw [flush_laid]; exact h.n, ?_, ?_⟩, ?_, ?_, ?_⟩ <;> rw [e]
  · exact h.dead
  · exact h.set
end Go.Proofs.Ytlkeailgccbmbaa

set_option maxRecDepth 100000
set_option maxHeartbeats 1000000
set_option linter.unusedSimpArgs false
set_option linter.unusedVariables false
namespace Go.Proofs.Ytlkeailgccbmbaa
open Go.Abs
attribute [local irreducible] C X CC Y CV CW binK litK AppK PureC PureCV againK loopV rangeV allK ifK got onB condK V stepsK planK opK firstK seeE keepsK
def slotC (w : Wr) : List AV := [.val (.int .i64 w.at_), .val (.string ⟨w.s.l.toArray⟩)]
theorem Slot.len (l : List Wr) : (l.map slotC).flatten.length = l.length * 2 := row_len slotC (s := 2) (fun _ => rfl) l
theorem Slot.rat0 (l : List Wr) (k : Nat) (hk : k < l.length) : (l.map slotC).flatten[k * 2]? = some (.val (.int .i64 (l.getD k default).at_)) := row_at slotC (s := 2) (fun _ => rfl) l (j := 0) hk (by decide)
theorem Slot.rat1 (l : List Wr) (k : Nat) (hk : k < l.length) : (l.map slotC).flatten[k * 2 + 1]? = some (.val (.string ⟨(l.getD k default).s.l.toArray⟩)) := row_at slotC (s := 2) (fun _ => rfl) l (j := 1) hk (by decide)
theorem Slot.rin (l : List Wr) (k : Nat) (hk : k < l.length) : (k * 2 + 2 ≤ (l.map slotC).flatten.length) = True := eq_true (row_in slotC (s := 2) (fun _ => rfl) l hk (Nat.le_refl _))
theorem Slot.rin1 (l : List Wr) (k : Nat) (hk : k < l.length) : (k * 2 + 1 + 1 ≤ (l.map slotC).flatten.length) = True := Slot.rin l k hk
theorem Slot.rpart (l : List Wr) (k : Nat) (hk : k < l.length) : ((l.map slotC).flatten.drop (k * 2)).take 2 = slotC (l.getD k default) := row_part slotC (fun _ => rfl) l hk
theorem Slot.rset1 (l : List Wr) (k : Nat) (hk : k < l.length) (s : Sec) : setRange (l.map slotC).flatten (k * 2 + 1) [.val (.string ⟨s.l.toArray⟩)] = ((l.set k ⟨(l.getD k default).at_, s⟩).map slotC).flatten := row_field slotC (s := 2) (fun _ => rfl) l hk _ _ rfl (by decide)
theorem Slot.slen (w : Wr) : (slotC w).length = 2 := rfl
theorem Slot.all (w : Wr) : (slotC w).all AV.one = true := rfl
theorem Slot.g0 (w : Wr) : (slotC w)[0]? = some (.val (.int .i64 w.at_)) := rfl
theorem Slot.g1 (w : Wr) : (slotC w)[1]? = some (.val (.string ⟨w.s.l.toArray⟩)) := rfl
theorem Slot.take (w : Wr) : (slotC w).take 2 = slotC w := rfl
def leftI (d : Dev) : Int := if d.set then d.left else -1
def Dev.rr (d : Dev) (pk : Int) (x y : Bool) : List AV := [.val (.bool true), .vs ((imgL d.laid).map byteC) x, .vs (d.list.map slotC) y, .val (.bool d.dead), .val (.int .i64 (leftI d)), .val (.int .u64 pk), .val (.int .i64 d.w), .val (.int .i64 d.f)]
def Dev.rl (d : Dev) (nD : Nat) (c : AV) (lf pk : Int) : List AV := [.val (.bool true), .sl nD 0 (d.laid.length * 64) (d.laid.length * 64), c, .val (.bool d.dead), .val (.int .i64 lf), .val (.int .u64 pk), .val (.int .i64 d.w), .val (.int .i64 d.f)]
def Dev.ro (d : Dev) (nD : Nat) (c : AV) (pk : Int) : List AV := d.rl nD c (leftI d) pk
section
variable (d : Dev) (lf pk : Int) (x y : Bool) (nD : Nat) (c c' : AV)
theorem Dev.q0 : (d.rr pk x y)[0]? = some (.val (.bool true)) := rfl
theorem Dev.q1 : (d.rr pk x y)[1]? = some (.vs ((imgL d.laid).map byteC) x) := rfl
theorem Dev.q2 : (d.rr pk x y)[2]? = some (.vs (d.list.map slotC) y) := rfl
theorem Dev.q3 : (d.rr pk x y)[3]? = some (.val (.bool d.dead)) := rfl
theorem Dev.q4 : (d.rr pk x y)[4]? = some (.val (.int .i64 (leftI d))) := rfl
theorem Dev.q5 : (d.rr pk x y)[5]? = some (.val (.int .u64 pk)) := rfl
theorem Dev.q6 : (d.rr pk x y)[6]? = some (.val (.int .i64 d.w)) := rfl
theorem Dev.q7 : (d.rr pk x y)[7]? = some (.val (.int .i64 d.f)) := rfl
theorem Dev.p0 : (d.rl nD c lf pk)[0]? = some (.val (.bool true)) := rfl
theorem Dev.p1 : (d.rl nD c lf pk)[1]? = some (.sl nD 0 (d.laid.length * 64) (d.laid.length * 64)) := rfl
theorem Dev.p2 : (d.rl nD c lf pk)[2]? = some c := rfl
theorem Dev.p3 : (d.rl nD c lf pk)[3]? = some (.val (.bool d.dead)) := rfl
theorem Dev.p4 : (d.rl nD c lf pk)[4]? = some (.val (.int .i64 lf)) := rfl
theorem Dev.p5 : (d.rl nD c lf pk)[5]? = some (.val (.int .u64 pk)) := rfl
theorem Dev.p6 : (d.rl nD c lf pk)[6]? = some (.val (.int .i64 d.w)) := rfl
theorem Dev.p7 : (d.rl nD c lf pk)[7]? = some (.val (.int .i64 d.f)) := rfl
theorem Dev.plen : (d.rl nD c lf pk).length = 8 := rfl
theorem Dev.t2 : setRange (d.rl nD c lf pk) 2 [c'] = d.rl nD c' lf pk := rfl
theorem Dev.t3 (b : Bool) : setRange (d.rl nD c lf pk) 3 [.val (.bool b)] = ({ d with dead := b } : Dev).rl nD c lf pk := rfl
theorem Dev.t5 (q : Int) : setRange (d.rl nD c lf pk) 5 [.val (.int .u64 q)] = d.rl nD c lf q := rfl
theorem Dev.t6 : setRange (d.rl nD c lf pk) 6 [.val (.int .i64 ((d.w : Int) + 1))] = ({ d with w := d.w + 1 } : Dev).rl nD c lf pk := rfl
theorem Dev.t7 : setRange (d.rl nD c lf pk) 7 [.val (.int .i64 ((d.f : Int) + 1))] = ({ d with f := d.f + 1 } : Dev).rl nD c lf pk := rfl
theorem Dev.t4 (i : Int) : setRange (d.rl nD c lf pk) 4 [.val (.int .i64 i)] = d.rl nD c i pk := rfl
end
def Dev.rrow (d : Dev) (nC : Nat) : AV := .sl nC 0 d.list.length d.list.length
def Dev.rmem (d : Dev) (N nC nD : Nat) (pk : Int) : Mem := ((nomem.set nD (.cells false 5 ((imgL d.laid).map byteC).flatten)).set nC (.cells true 102 (d.list.map slotC).flatten)).set N (.cells false 80 (d.ro nD (d.rrow nC) pk))
def Dev.RAt (d : Dev) (N : Nat) (m : Mem) : Prop := ∃ nC nD pk, N ≠ nC ∧ N ≠ nD ∧ nC ≠ nD ∧ (d.set = true → pk = d.pick) ∧ m = d.rmem N nC nD pk
theorem Dev.RAt.seen {d : Dev} {N : Nat} {m M : Mem} (h : d.RAt N m) (hs : m.sub M) (off : Nat) : ∃ pk, Seen M (.ptr N off) (.vp (d.rr pk false false) off) ∧ (d.set = true → pk = d.pick) := by
  obtain ⟨nC, nD, pk, h1, h2, h3, h4, rfl⟩ := h
  refine ⟨pk, Seen.mono hs ?_, h4⟩
  refine .ptr (Mem.set_same _ _ _) (Nat.zero_lt_succ _) rfl fun i hi hi' => ?_
  have hi : i < 8 := hi
  have a1 : Seen (d.rmem N nC nD pk) (.sl nD 0 (d.laid.length * 64) (d.laid.length * 64)) (.vs ((imgL d.laid).map byteC) false) := by
    have := Seen.row byteC (s := 1) (cap := d.laid.length * 64) (m := d.rmem N nC nD pk) (n := nD) (opn := false) (t := 5) byteC_len (imgL d.laid) (by
      show Dev.rmem d N nC nD pk _ = _
      unfold Dev.rmem
      rw [Mem.set_ne _ _ (Ne.symm h2), Mem.set_ne _ _ (Ne.symm h3), Mem.set_same])
    rwa [imgL_len] at this
  have a2 : Seen (d.rmem N nC nD pk) (d.rrow nC) (.vs (d.list.map slotC) false) := Seen.row slotC (s := 2) (n := nC) (opn := true) (t := 102) (fun _ => rfl) d.list (by
    show Dev.rmem d N nC nD pk _ = _
    unfold Dev.rmem
    rw [Mem.set_ne _ _ (Ne.symm h1), Mem.set_same])
  match i, hi with
  | 0, _ => exact .same
  | 1, _ => exact a1
  | 2, _ => exact a2
  | 3, _ => exact .same
  | 4, _ => exact .same
  | 5, _ => exact .same
  | 6, _ => exact .same
  | 7, _ => exact .same
theorem Dev.RAt.eq {d d' : Dev} {N : Nat} {m : Mem} (h : d.RAt N m) (e : d = d') : d'.RAt N m := e ▸ h
theorem ix_78 (l : List Wr) (x : Bool) (kk : IntKind) (k : Int) (h0 : 0 ≤ k) (h1 : k < l.length) : indexAddrA Try.prog 78 (.vs (l.map slotC) x) (.val (.int kk k)) = some (.vp (slotC (l.getD k.toNat default)) 0) := index_vs slotC ti_78 rfl ti_102 (fun _ => rfl) l x kk k h0 h1
theorem quo64 (n : Nat) : (((n * 64 : Nat) : Int)).tdiv 64 = (n : Int) := by
  rw [Int.natCast_mul]; exact Int.mul_tdiv_cancel _ (by decide)
theorem F42 (d : Dev) (pk : Int) (x y : Bool) (hm : d.laid.length ≤ 4096) : F Try.prog 42 [.vp (d.rr pk x y) 0] (.val (.int .i64 d.laid.length)) := by
  have hi := imgL_len d.laid
  refine F42_of ?_
  unfold k42
  repeat' first
    | simp -dsimp (disch := omega) only [↓rulesA, rulesB, rulesC, Int.reduceLT, nth, upd, put, storeN, AV.one, Nat.reduceBEq, Nat.reduceBNe, Int.reduceBEq, Int.reduceBNe, Int.reduceLE, Int.reduceEq, Int.reduceMod, Int.reduceNeg, boolBin, strBin, intBin, unA, fillA, ne_eq, reduceCtorEq, Nat.reduceAdd, Nat.reduceSub, Nat.reduceLeDiff, Nat.reduceLT, Nat.reduceEqDiff, Int.reduceToNat, eq_self, rulesT, rulesD, Dev.q0, Dev.q1, Dev.q2, Dev.q3, Dev.q4, Dev.q5, Dev.q6, Dev.q7, quo64, *]
    | (refine allK_intro fun n hn => ?_; try simp only [fresh_set] at hn)
    | (refine ifK_intro (fun h => ?_) (fun h => ?_) <;> (try simp only [rulesE] at h) <;> try (exfalso; (try simp only [rulesF] at h); omega))
    | (refine keeps_sub (Mem.sub_set ?_) ?_; focus (simp [Mem.set_at, nomem, *]; done))
  exact .val
theorem F26 (d : Dev) (pk : Int) (x y : Bool) (hm : d.laid.length ≤ 4096) : F Try.prog 26 [.vp (d.rr pk x y) 0] (.vs ((imgL d.laid).map byteC) false) := by
  have hi := imgL_len d.laid
  refine F26_of ?_
  unfold k26
  repeat' first
    | simp -dsimp (disch := omega) only [↓rulesA, rulesB, rulesC, Int.reduceLT, nth, upd, put, storeN, AV.one, Nat.reduceBEq, Nat.reduceBNe, Int.reduceBEq, Int.reduceBNe, Int.reduceLE, Int.reduceEq, Int.reduceMod, Int.reduceNeg, boolBin, strBin, intBin, unA, fillA, ne_eq, reduceCtorEq, Nat.reduceAdd, Nat.reduceSub, Nat.reduceLeDiff, Nat.reduceLT, Nat.reduceEqDiff, Int.reduceToNat, eq_self, rulesT, rulesD, Dev.q0, Dev.q1, Dev.q2, Dev.q3, Dev.q4, Dev.q5, Dev.q6, Dev.q7, *]
    | (refine allK_intro fun n hn => ?_; try simp only [fresh_set] at hn)
    | (refine ifK_intro (fun h => ?_) (fun h => ?_) <;> (try simp only [rulesE] at h) <;> try (exfalso; (try simp only [rulesF] at h); omega))
    | (refine keeps_sub (Mem.sub_set ?_) ?_; focus (simp [Mem.set_at, nomem, *]; done))
  refine append_nil app_44 (src_44 _ _ _) (by show (imgL d.laid).length * 1 ≤ _; omega) fun n1 hn1 => ?_
  repeat' first
    | simp -dsimp (disch := omega) only [↓rulesA, rulesB, rulesC, Int.reduceLT, nth, upd, put, storeN, AV.one, Nat.reduceBEq, Nat.reduceBNe, Int.reduceBEq, Int.reduceBNe, Int.reduceLE, Int.reduceEq, Int.reduceMod, Int.reduceNeg, boolBin, strBin, intBin, unA, fillA, ne_eq, reduceCtorEq, Nat.reduceAdd, Nat.reduceSub, Nat.reduceLeDiff, Nat.reduceLT, Nat.reduceEqDiff, Int.reduceToNat, eq_self, rulesT, rulesD, *]
    | (refine allK_intro fun n hn => ?_; try simp only [fresh_set] at hn)
    | (refine ifK_intro (fun h => ?_) (fun h => ?_) <;> (try simp only [rulesE] at h) <;> try (exfalso; (try simp only [rulesF] at h); omega))
    | (refine keeps_sub (Mem.sub_set ?_) ?_; focus (simp [Mem.set_at, nomem, *]; done))
  have := New.row byteC (s := 1) (cap := (imgL d.laid).length) byteC_len byteC_flat (imgL d.laid) (m := nomem.set n1 (.cells true 5 ((imgL d.laid).map byteC).flatten)) (Mem.set_same _ _ _)
  rwa [hi] at this
end Go.Proofs.Ytlkeailgccbmbaa

set_option maxRecDepth 100000
set_option maxHeartbeats 1000000
set_option linter.unusedSimpArgs false
set_option linter.unusedVariables false
namespace Go.Proofs.Ytlkeailgccbmbaa
open Go.Abs
attribute [local irreducible] C X CC Y CV CW binK litK AppK PureC PureCV againK loopV rangeV allK ifK got onB condK V stepsK planK opK firstK seeE keepsK
theorem img_zero : ∀ n, imgL (List.replicate n Sec.zero) = List.replicate (n * 64) 0
  | 0 => rfl
  | n + 1 => by
    rw [List.replicate_succ, img_cons, img_zero n]
    show List.replicate 64 0 ++ _ = _
    rw [List.replicate_append_replicate]; congr 1; omega
theorem mk_44b (n : Nat) (h : n ≤ 4096) : mkSliceA Try.prog 44 (.val (.int .i64 ((n : Int) * 64))) (.val (.int .i64 ((n : Int) * 64))) = some (5, n * 64, n * 64, ((imgL (List.replicate n Sec.zero)).map byteC).flatten) := by
  have e : ((n : Int) * 64).toNat = n * 64 := by omega
  simp only [mkSliceA, ti_44, ti_5, z_5]
  rw [if_pos ⟨by omega, by omega, by omega, by omega, rfl, by decide⟩]
  simp only [e, img_zero, ← map_rep]
  rfl
theorem C41 (q : Nat) (h1 : 1 ≤ q) (h2 : q ≤ 4096) : C Try.prog 41 [.val (.int .i64 q)] nomem (fun r m' => ∃ N, r = .ptr N 0 ∧ (newDev q).RAt N m') := by
  have mk := mk_44b q h2
  refine C.turn (C41_of ?_)
  unfold k41
  repeat' first
    | simp -dsimp (disch := omega) only [↓rulesA, rulesB, rulesC, Int.reduceLT, nth, upd, put, storeN, AV.one, Nat.reduceBEq, Nat.reduceBNe, Int.reduceBEq, Int.reduceBNe, Int.reduceLE, Int.reduceEq, Int.reduceMod, Int.reduceNeg, boolBin, strBin, intBin, unA, fillA, ne_eq, reduceCtorEq, Nat.reduceAdd, Nat.reduceSub, Nat.reduceLeDiff, Nat.reduceLT, Nat.reduceEqDiff, Int.reduceToNat, eq_self, rulesT, rulesD, *]
    | (refine allK_intro fun n hn => ?_; try simp only [fresh_set] at hn)
    | (refine ifK_intro (fun h => ?_) (fun h => ?_) <;> (try simp only [rulesE] at h) <;> try (exfalso; (try simp only [rulesF] at h); omega))
    | (refine keeps_sub (Mem.sub_set ?_) ?_; focus (simp [Mem.set_at, nomem, *]; done))
  obtain ⟨hne, hne', -⟩ := hn
  refine Turns.cellNil 102 2 (Mem.set_same _ _ _) rfl fun n3 hn3 => ?_
  simp only [fresh_set] at hn3
  obtain ⟨a1, a2, a3, a4, -⟩ := hn3
  have e : (newDev q).laid.length = q := by simp [newDev]
  refine .sub (m' := (newDev q).rmem n n3 _ 0) ?_ ⟨_, rfl, n3, _, 0, a2, hne, a3, fun h => (by cases h), rfl⟩
  unfold Dev.rmem
  refine Mem.set_sub (Mem.set_sub (Mem.set_sub (nomem_sub _) ?_) ?_) ?_
  · simp [Mem.set_at, *, newDev]
  · simp [Mem.set_at, *, newDev]
  · simp [Mem.set_at, *, newDev, Dev.ro, Dev.rl, Dev.rrow, leftI]
theorem C41_no (k : Int) (h : ¬ (1 ≤ k ∧ k ≤ 4096)) : C Try.prog 41 [.val (.int .i64 k)] nomem (fun r m' => r = .val (.pointer none) ∧ m' = nomem) := by
  refine C41_of ?_
  unfold k41
  repeat' first
    | simp -dsimp (disch := omega) only [↓rulesA, rulesB, rulesC, Int.reduceLT, nth, upd, put, storeN, AV.one, Nat.reduceBEq, Nat.reduceBNe, Int.reduceBEq, Int.reduceBNe, Int.reduceLE, Int.reduceEq, Int.reduceMod, Int.reduceNeg, boolBin, strBin, intBin, unA, fillA, ne_eq, reduceCtorEq, Nat.reduceAdd, Nat.reduceSub, Nat.reduceLeDiff, Nat.reduceLT, Nat.reduceEqDiff, Int.reduceToNat, eq_self, rulesT, rulesD, *]
    | (refine allK_intro fun n hn => ?_; try simp only [fresh_set] at hn)
    | (refine ifK_intro (fun h => ?_) (fun h => ?_) <;> (try simp only [rulesE] at h) <;> try (exfalso; (try simp only [rulesF] at h); omega))
    | (refine keeps_sub (Mem.sub_set ?_) ?_; focus (simp [Mem.set_at, nomem, *]; done))
  all_goals first | exact ⟨rfl, rfl⟩ | (exfalso; omega)
theorem C24 (d : Dev) {N : Nat} {m : Mem} (hat : d.RAt N m) : C Try.prog 24 [.ptr N 0] m (fun r m' => r = .tup [] ∧ (onD d).RAt N m') := by
  obtain ⟨nC, nD, pk, h1, h2, h3, h4, rfl⟩ := hat
  refine C.turn (C24_of ?_)
  unfold k24
  unfold Dev.rmem
  repeat' first
    | simp -dsimp (disch := omega) only [↓rulesA, rulesB, rulesC, Int.reduceLT, nth, upd, put, storeN, AV.one, Nat.reduceBEq, Nat.reduceBNe, Int.reduceBEq, Int.reduceBNe, Int.reduceLE, Int.reduceEq, Int.reduceMod, Int.reduceNeg, boolBin, strBin, intBin, unA, fillA, ne_eq, reduceCtorEq, Nat.reduceAdd, Nat.reduceSub, Nat.reduceLeDiff, Nat.reduceLT, Nat.reduceEqDiff, Int.reduceToNat, eq_self, rulesT, rulesD, Dev.rrow, Dev.ro, Dev.t4, Dev.p0, Dev.p1, Dev.p2, Dev.p3, Dev.p4, Dev.p5, Dev.p6, Dev.p7, Dev.plen, Dev.t2, Dev.t3, Dev.t5, Dev.t6, Dev.t7, *]
    | (refine allK_intro fun n hn => ?_; try simp only [fresh_set] at hn)
    | (refine ifK_intro (fun h => ?_) (fun h => ?_) <;> (try simp only [rulesE] at h) <;> try (exfalso; (try simp only [rulesF] at h); omega))
    | (refine keeps_sub (Mem.sub_set ?_) ?_; focus (simp [Mem.set_at, nomem, *]; done))
  exact Turns.id ⟨rfl, nC, nD, pk, h1, h2, h3, h4, rfl⟩
theorem C23 (d : Dev) {N : Nat} {m : Mem} (hat : d.RAt N m) (c p : Int) : C Try.prog 23 [.ptr N 0, .val (.int .i64 c), .val (.int .u64 p)] m (fun r m' => r = .tup [] ∧ (cutD d c p).RAt N m') := by
  have hat0 := hat
  obtain ⟨nC, nD, pk, h1, h2, h3, h4, rfl⟩ := hat
  refine C.turn (C23_of ?_)
  unfold k23
  unfold Dev.rmem at hat0 ⊢
  rcases hdd : d.dead
  · by_cases h0 : 0 ≤ c
    · have hc : (c < -1) = False := eq_false (by omega)
      have e : Kept (cutD d c p = { d with set := true, left := c, pick := p }) := by
        show cutD d c p = _
        unfold cutD; rw [if_neg (by rw [hdd]; decide), if_pos h0]
      repeat' first
        | simp -dsimp (disch := omega) only [↓rulesA, rulesB, rulesC, Int.reduceLT, nth, upd, put, storeN, AV.one, Nat.reduceBEq, Nat.reduceBNe, Int.reduceBEq, Int.reduceBNe, Int.reduceLE, Int.reduceEq, Int.reduceMod, Int.reduceNeg, boolBin, strBin, intBin, unA, fillA, ne_eq, reduceCtorEq, Nat.reduceAdd, Nat.reduceSub, Nat.reduceLeDiff, Nat.reduceLT, Nat.reduceEqDiff, Int.reduceToNat, eq_self, rulesT, rulesD, Dev.rrow, Dev.ro, Dev.t4, Dev.p0, Dev.p1, Dev.p2, Dev.p3, Dev.p4, Dev.p5, Dev.p6, Dev.p7, Dev.plen, Dev.t2, Dev.t3, Dev.t5, Dev.t6, Dev.t7, *]
        | (refine allK_intro fun n hn => ?_; try simp only [fresh_set] at hn)
        | (refine ifK_intro (fun h => ?_) (fun h => ?_) <;> (try simp only [rulesE] at h) <;> try (exfalso; (try simp only [rulesF] at h); omega))
        | (refine keeps_sub (Mem.sub_set ?_) ?_; focus (simp [Mem.set_at, nomem, *]; done))
      exact Turns.id ⟨rfl, Dev.RAt.eq (d := { d with set := true, left := c, pick := p }) ⟨nC, nD, p, h1, h2, h3, fun _ => rfl, rfl⟩ (e : _ = _).symm⟩
    · have hc : (if c < -1 then -1 else c) = -1 := by split <;> omega
      have e : Kept (cutD d c p = { d with set := false, left := 0, pick := 0 }) := by
        show cutD d c p = _
        unfold cutD; rw [if_neg (by rw [hdd]; decide), if_neg h0]
      repeat' first
        | simp -dsimp (disch := omega) only [↓rulesA, rulesB, rulesC, Int.reduceLT, nth, upd, put, storeN, AV.one, Nat.reduceBEq, Nat.reduceBNe, Int.reduceBEq, Int.reduceBNe, Int.reduceLE, Int.reduceEq, Int.reduceMod, Int.reduceNeg, boolBin, strBin, intBin, unA, fillA, ne_eq, reduceCtorEq, Nat.reduceAdd, Nat.reduceSub, Nat.reduceLeDiff, Nat.reduceLT, Nat.reduceEqDiff, Int.reduceToNat, eq_self, rulesT, rulesD, Dev.rrow, Dev.ro, Dev.t4, Dev.p0, Dev.p1, Dev.p2, Dev.p3, Dev.p4, Dev.p5, Dev.p6, Dev.p7, Dev.plen, Dev.t2, Dev.t3, Dev.t5, Dev.t6, Dev.t7, *]
        | (refine allK_intro fun n hn => ?_; try simp only [fresh_set] at hn)
        | (refine ifK_intro (fun h => ?_) (fun h => ?_) <;> (try simp only [rulesE] at h) <;> try (exfalso; (try simp only [rulesF] at h); omega))
        | (refine keeps_sub (Mem.sub_set ?_) ?_; focus (simp [Mem.set_at, nomem, *]; done))
      exact Turns.id ⟨rfl, Dev.RAt.eq (d := { d with set := false, left := 0, pick := 0 }) ⟨nC, nD, p, h1, h2, h3, fun h => (by cases h), rfl⟩ (e : _ = _).symm⟩
  · repeat' first
      | simp -dsimp (disch := omega) only [↓rulesA, rulesB, rulesC, Int.reduceLT, nth, upd, put, storeN, AV.one, Nat.reduceBEq, Nat.reduceBNe, Int.reduceBEq, Int.reduceBNe, Int.reduceLE, Int.reduceEq, Int.reduceMod, Int.reduceNeg, boolBin, strBin, intBin, unA, fillA, ne_eq, reduceCtorEq, Nat.reduceAdd, Nat.reduceSub, Nat.reduceLeDiff, Nat.reduceLT, Nat.reduceEqDiff, Int.reduceToNat, eq_self, rulesT, rulesD, Dev.rrow, Dev.ro, Dev.t4, Dev.p0, Dev.p1, Dev.p2, Dev.p3, Dev.p4, Dev.p5, Dev.p6, Dev.p7, Dev.plen, Dev.t2, Dev.t3, Dev.t5, Dev.t6, Dev.t7, *]
      | (refine allK_intro fun n hn => ?_; try simp only [fresh_set] at hn)
      | (refine ifK_intro (fun h => ?_) (fun h => ?_) <;> (try simp only [rulesE] at h) <;> try (exfalso; (try simp only [rulesF] at h); omega))
      | (refine keeps_sub (Mem.sub_set ?_) ?_; focus (simp [Mem.set_at, nomem, *]; done))
    refine Turns.id ⟨rfl, hat0.eq ?_⟩
    unfold cutD; rw [if_pos hdd]
def upTo (L : List UInt8) (a : Nat) (s : List UInt8) (i : Nat) : List UInt8 := L.take a ++ s.take i ++ L.drop (a + i)
theorem upTo_zero (L : List UInt8) (a : Nat) (s : List UInt8) : upTo L a s 0 = L := by simp [upTo]
theorem upTo_len {L s : List UInt8} {a i : Nat} (h : a + i ≤ L.length) (hs : i ≤ s.length) : (upTo L a s i).length = L.length := by simp [upTo]; omega
theorem upTo_set {L s : List UInt8} {a i : Nat} (h : a + i < L.length) (hs : i < s.length) : (upTo L a s i).set (a + i) (s.getD i default) = upTo L a s (i + 1) := by
  unfold upTo
  have h1 : (L.take a ++ s.take i).length = a + i := by simp; omega
  have h2 : s.take (i + 1) = s.take i ++ [s[i]] := by rw [List.take_add_one, List.getElem?_eq_getElem hs]; rfl
  rw [List.set_append_right _ _ (by omega), h1, Nat.sub_self, List.drop_eq_getElem_cons h, List.set_cons_zero, List.getD_eq_getElem?_getD, List.getElem?_eq_getElem hs, h2]
  simp only [List.append_assoc, List.cons_append, List.nil_append, Nat.add_assoc, Option.getD_some]
theorem upTo_img : ∀ (L : List Sec) (k : Nat) (s : Sec), k < L.length → upTo (imgL L) (k * 64) s.l 64 = imgL (L.set k s)
  | [], k, s, h => by simp at h
  | t :: L, 0, s, _ => by
    unfold upTo
    rw [img_cons, List.set_cons_zero, img_cons, Nat.zero_mul, List.take_zero, List.nil_append, List.take_of_length_le (by rw [s.h]; exact Nat.le_refl _)]
    congr 1
    rw [Nat.zero_add, ← t.h, List.drop_left]
  | t :: L, k + 1, s, h => by
    have ih := upTo_img L k s (by simpa using h)
    rw [List.set_cons_succ, img_cons t L, img_cons t (L.set k s), ← ih]
    unfold upTo
    have e1 : (k + 1) * 64 = t.l.length + k * 64 := by rw [t.h]; omega
    have e2 : (k + 1) * 64 + 64 = t.l.length + (k * 64 + 64) := by rw [t.h]; omega
    rw [e2, e1, List.take_length_add_append, List.drop_length_add_append]
    simp
theorem byte_set (l : List UInt8) (k : Nat) (hk : k < l.length) (b : UInt8) : setRange (l.map byteC).flatten k [.val (.int .u8 (b.toNat : Int))] = ((l.set k b).map byteC).flatten := by
  have := row_set byteC (s := 1) byteC_len l hk b
  simpa [byteC] using this
theorem index_9 (l : List UInt8) (kk : IntKind) (k : Int) (h0 : 0 ≤ k) (h1 : k < l.length) : indexA Try.prog 9 (.val (.string ⟨l.toArray⟩)) (.val (.int kk k)) = some (.val (.int .u8 ((l.getD k.toNat default).toNat : Int))) := index_text ti_9 rfl l kk k h0 h1
theorem C59 (d : Dev) (w : Wr) (hw : w.at_ < d.laid.length) (hm : d.laid.length ≤ 4096) {N : Nat} {m : Mem} (hat : d.RAt N m) : C Try.prog 59 [.ptr N 0, .agg (slotC w)] m (fun r m' => r = .tup [] ∧ ({ d with laid := d.laid.set w.at_ w.s } : Dev).RAt N m') := by
  obtain ⟨nC, nD, pk, h1, h2, h3, h4, rfl⟩ := hat
  have h1' := Ne.symm h1
  have h2' := Ne.symm h2
  have h3' := Ne.symm h3
  refine C.turn (C59_of ?_)
  unfold k59
  unfold Dev.rmem
  repeat' first
    | simp -dsimp (disch := omega) only [↓rulesA, rulesB, rulesC, Int.reduceLT, nth, upd, put, storeN, AV.one, Nat.reduceBEq, Nat.reduceBNe, Int.reduceBEq, Int.reduceBNe, Int.reduceLE, Int.reduceEq, Int.reduceMod, Int.reduceNeg, boolBin, strBin, intBin, unA, fillA, ne_eq, reduceCtorEq, Nat.reduceAdd, Nat.reduceSub, Nat.reduceLeDiff, Nat.reduceLT, Nat.reduceEqDiff, Int.reduceToNat, eq_self, rulesT, rulesD, Slot.len, Slot.rat0, Slot.rat1, Slot.rin, Slot.rin1, Slot.rpart, Slot.rset1, Slot.slen, Slot.all, Slot.g0, Slot.g1, Slot.take, *]
    | (refine allK_intro fun n hn => ?_; try simp only [fresh_set] at hn)
    | (refine ifK_intro (fun h => ?_) (fun h => ?_) <;> (try simp only [rulesE] at h) <;> try (exfalso; (try simp only [rulesF] at h); omega))
    | (refine keeps_sub (Mem.sub_set ?_) ?_; focus (simp [Mem.set_at, nomem, *]; done))
  obtain ⟨nb, enb⟩ : ∃ q, q = n := ⟨n, rfl⟩
  subst enb
  obtain ⟨b1, b2, b3, b4, b5, b6, -⟩ := hn
  have hil := imgL_len d.laid
  refine loop_intro (fun j env m => ∃ i : Nat, i ≤ 64 ∧ j = 64 - i ∧ m = (((nomem.set nD (.cells false 5 ((upTo (imgL d.laid) (w.at_ * 64) w.s.l i).map byteC).flatten)).set nC (.cells true 102 (d.list.map slotC).flatten)).set N (.cells false 80 (d.ro nD (d.rrow nC) pk))).set nb (.cells false 102 (slotC w)) ∧
    env.length = 23 ∧ nth env 0 = .ptr N 0 ∧ nth env 3 = .ptr nb 0 ∧ nth env 4 = .val (.int .i64 i)) 64 _ (fun _ _ h => h) ⟨0, by omega, by omega, by rw [upTo_zero], rfl, rfl, rfl, rfl⟩ ?_
  rintro j env m ⟨i, hi, rfl, rfl, hlen, e0, e3, e4⟩
  have hul := upTo_len (L := imgL d.laid) (s := w.s.l) (a := w.at_ * 64) (i := i) (by omega) (by rw [w.s.h]; omega)
  have hsl := w.s.h
  have k1 : (w.at_ : Int) * 64 + (i : Int) = ((w.at_ * 64 + i : Nat) : Int) := by omega
  repeat' first
    | simp -dsimp (disch := omega) only [↓rulesA, rulesB, rulesC, Int.reduceLT, nth, upd, put, storeN, AV.one, Nat.reduceBEq, Nat.reduceBNe, Int.reduceBEq, Int.reduceBNe, Int.reduceLE, Int.reduceEq, Int.reduceMod, Int.reduceNeg, boolBin, strBin, intBin, unA, fillA, ne_eq, reduceCtorEq, Nat.reduceAdd, Nat.reduceSub, Nat.reduceLeDiff, Nat.reduceLT, Nat.reduceEqDiff, Int.reduceToNat, eq_self, rulesT, rulesD, Slot.len, Slot.rat0, Slot.rat1, Slot.rin, Slot.rin1, Slot.rpart, Slot.rset1, Slot.slen, Slot.all, Slot.g0, Slot.g1, Slot.take, Dev.rrow, Dev.ro, Dev.t4, Dev.p0, Dev.p1, Dev.p2, Dev.p3, Dev.p4, Dev.p5, Dev.p6, Dev.p7, Dev.plen, Dev.t2, Dev.t3, Dev.t5, Dev.t6, Dev.t7, index_9, byte_set, flatten_one, Nat.mul_one, *]
    | (refine allK_intro fun n hn => ?_; try simp only [fresh_set] at hn)
    | (refine ifK_intro (fun h => ?_) (fun h => ?_) <;> (try simp only [rulesE] at h) <;> try (exfalso; (try simp only [rulesF] at h); omega))
    | (refine keeps_sub (Mem.sub_set ?_) ?_; focus (simp [Mem.set_at, nomem, *]; done))
  · have e := upTo_set (L := imgL d.laid) (s := w.s.l) (a := w.at_ * 64) (i := i) (by omega) (by omega)
    rw [e]
    refine again_intro (64 - (i + 1)) (by omega) ((((nomem.set nD (.cells false 5 ((upTo (imgL d.laid) (w.at_ * 64) w.s.l (i + 1)).map byteC).flatten)).set nC (.cells true 102 (d.list.map slotC).flatten)).set N (.cells false 80 (d.ro nD (d.rrow nC) pk))).set nb (.cells false 102 (slotC w))) ?_ ⟨i + 1, by omega, rfl, rfl, ?_, ?_, ?_, ?_⟩
    · refine Mem.set_sub (Mem.set_sub (Mem.set_sub (Mem.set_sub (nomem_sub _) ?_) ?_) ?_) ?_ <;> simp [Mem.set_at, Dev.ro, Dev.rrow, *]
    all_goals try (simp (disch := omega) only [nth_upd, pickB_true, pickB_false, inB_lt, upd_len, cast_succ, Int.cast_ofNat_Int, Nat.reduceBEq, beq_self_eq_true, reduceCtorEq, *]; done)
  · have : i = 64 := by omega
    subst this
    rw [upTo_img d.laid w.at_ w.s hw]
    refine .sub (m' := ({ d with laid := d.laid.set w.at_ w.s } : Dev).rmem N nC nD pk) ?_ ⟨rfl, nC, nD, pk, h1, h2, h3, h4, rfl⟩
    unfold Dev.rmem
    have e : (d.laid.set w.at_ w.s).length = d.laid.length := by simp
    refine Mem.set_sub (Mem.set_sub (Mem.set_sub (nomem_sub _) ?_) ?_) ?_
    · simp [Mem.set_at, *]
    · simp [Mem.set_at, *]
    · simp [Mem.set_at, *, Dev.ro, Dev.rl, Dev.rrow, leftI]
end Go.Proofs.Ytlkeailgccbmbaa

set_option maxRecDepth 100000
set_option maxHeartbeats 1000000
set_option linter.unusedSimpArgs false
set_option linter.unusedVariables false
namespace Go.Proofs.Ytlkeailgccbmbaa
open Go.Abs
attribute [local irreducible] C X CC Y CV CW binK litK AppK PureC PureCV againK loopV rangeV allK ifK got onB condK V stepsK planK opK firstK seeE keepsK
theorem wrapbit (i : Nat) : IntKind.u64.wrap ((i % 64 : Nat) : Int) = ((i % 64 : Nat) : Int) := IntWalk.u64_in _ (by omega)
def midD (d : Dev) (b : Nat → Bool) (i : Nat) : Dev := { d with laid := layTo d.list b d.laid i }
theorem C58 (d : Dev) (hok : d.Ok) {N : Nat} {m : Mem} (hat : d.RAt N m) (p : Int) : C Try.prog 58 [.ptr N 0, .val (.int .u64 p)] m (fun r m' => r = .tup [] ∧ (loseD d p).RAt N m') := by
  have hl := hok.list
  have hm := hok.most
  have hat0 := hat
  refine C.turn (C58_of ?_)
  unfold k58
  rcases hdd : d.dead
  · obtain ⟨nC, nD, pk, h1, h2, h3, h4, rfl⟩ := hat
    unfold Dev.rmem
    repeat' first
      | simp -dsimp (disch := omega) only [↓rulesA, rulesB, rulesC, Int.reduceLT, nth, upd, put, storeN, AV.one, Nat.reduceBEq, Nat.reduceBNe, Int.reduceBEq, Int.reduceBNe, Int.reduceLE, Int.reduceEq, Int.reduceMod, Int.reduceNeg, boolBin, strBin, intBin, unA, fillA, ne_eq, reduceCtorEq, Nat.reduceAdd, Nat.reduceSub, Nat.reduceLeDiff, Nat.reduceLT, Nat.reduceEqDiff, Int.reduceToNat, eq_self, rulesT, rulesD, Dev.rrow, Dev.ro, Dev.t4, Dev.p0, Dev.p1, Dev.p2, Dev.p3, Dev.p4, Dev.p5, Dev.p6, Dev.p7, Dev.plen, Dev.t2, Dev.t3, Dev.t5, Dev.t6, Dev.t7, *]
      | (refine allK_intro fun n hn => ?_; try simp only [fresh_set] at hn)
      | (refine ifK_intro (fun h => ?_) (fun h => ?_) <;> (try simp only [rulesE] at h) <;> try (exfalso; (try simp only [rulesF] at h); omega))
      | (refine keeps_sub (Mem.sub_set ?_) ?_; focus (simp [Mem.set_at, nomem, *]; done))
    refine loop_intro (fun j env m => ∃ i : Nat, i ≤ d.list.length ∧ j = d.list.length - i ∧ (∃ mI, (midD d (bitAt p) i).RAt N mI ∧ mI.sub m) ∧ env.length = 50 ∧ nth env 0 = .ptr N 0 ∧ nth env 1 = .val (.int .u64 p) ∧ nth env 4 = .val (.int .i64 i)) d.list.length _ (Mem.sub.refl _) ⟨0, by omega, by omega, ⟨_, ⟨nC, nD, pk, h1, h2, h3, h4, rfl⟩, Mem.sub.refl _⟩, rfl, rfl, rfl, rfl⟩ ?_
    clear hat0 h1 h2 h3 h4
    rintro j env m ⟨i, hi, rfl, ⟨mI, hat, hsub⟩, hlen, e0, e1, e4⟩
    have hat0 := hat
    obtain ⟨nC, nD, pk, h1, h2, h3, h4, rfl⟩ := hat
    have a1 : m N = some (.cells false 80 ((midD d (bitAt p) i).ro nD (.sl nC 0 d.list.length d.list.length) pk)) := hsub _ _ (Mem.set_same _ _ _)
    have a2 : m nC = some (.cells true 102 (d.list.map slotC).flatten) := hsub _ _ ((Mem.set_ne _ _ (Ne.symm h1)).trans (Mem.set_same _ _ _))
    repeat' first
      | simp -dsimp (disch := omega) only [↓rulesA, rulesB, rulesC, Int.reduceLT, nth, upd, put, storeN, AV.one, Nat.reduceBEq, Nat.reduceBNe, Int.reduceBEq, Int.reduceBNe, Int.reduceLE, Int.reduceEq, Int.reduceMod, Int.reduceNeg, boolBin, strBin, intBin, unA, fillA, ne_eq, reduceCtorEq, Nat.reduceAdd, Nat.reduceSub, Nat.reduceLeDiff, Nat.reduceLT, Nat.reduceEqDiff, Int.reduceToNat, eq_self, rulesT, rulesD, Dev.rrow, Dev.ro, Dev.t4, Dev.p0, Dev.p1, Dev.p2, Dev.p3, Dev.p4, Dev.p5, Dev.p6, Dev.p7, Dev.plen, Dev.t2, Dev.t3, Dev.t5, Dev.t6, Dev.t7, Slot.len, Slot.rat0, Slot.rat1, Slot.rin, Slot.rin1, Slot.rpart, Slot.rset1, Slot.slen, Slot.all, Slot.g0, Slot.g1, Slot.take, tmod64, natNeg, wrapbit, *]
      | (refine allK_intro fun n hn => ?_; try simp only [fresh_set] at hn)
      | (refine ifK_intro (fun h => ?_) (fun h => ?_) <;> (try simp only [rulesE] at h) <;> try (exfalso; (try simp only [rulesF] at h); omega))
      | (refine keeps_sub (Mem.sub_set ?_) ?_; focus (simp [Mem.set_at, nomem, *]; done))
    · have hil : i < d.list.length := by omega
      refine call_at (C59 (midD d (bitAt p) i) (d.list.getD i default) (by show _ < (layTo _ _ _ i).length; rw [layTo_len]; exact at_lt hok hil) (by show (layTo _ _ _ i).length ≤ _; rw [layTo_len]; exact hm) hat0) hsub fun r m1 M1 ⟨hr, hat'⟩ hsub' _ => ?_
      subst hr
      clear a1 a2 hat0
      repeat' first
        | simp -dsimp (disch := omega) only [↓rulesA, rulesB, rulesC, Int.reduceLT, nth, upd, put, storeN, AV.one, Nat.reduceBEq, Nat.reduceBNe, Int.reduceBEq, Int.reduceBNe, Int.reduceLE, Int.reduceEq, Int.reduceMod, Int.reduceNeg, boolBin, strBin, intBin, unA, fillA, ne_eq, reduceCtorEq, Nat.reduceAdd, Nat.reduceSub, Nat.reduceLeDiff, Nat.reduceLT, Nat.reduceEqDiff, Int.reduceToNat, eq_self, rulesT, rulesD, *]
        | (refine allK_intro fun n hn => ?_; try simp only [fresh_set] at hn)
        | (refine ifK_intro (fun h => ?_) (fun h => ?_) <;> (try simp only [rulesE] at h) <;> try (exfalso; (try simp only [rulesF] at h); omega))
        | (refine keeps_sub (Mem.sub_set ?_) ?_; focus (simp [Mem.set_at, nomem, *]; done))
      refine again_intro (d.list.length - (i + 1)) (by omega) M1 (Mem.sub.refl _) ⟨i + 1, by omega, rfl, ⟨m1, hat'.eq ?_, hsub'⟩, ?_, ?_, ?_, ?_⟩
      · unfold midD; rw [layTo_yes (by assumption)]
      all_goals try (simp (disch := omega) only [nth_upd, pickB_true, pickB_false, inB_lt, upd_len, cast_succ, Int.cast_ofNat_Int, Nat.reduceBEq, beq_self_eq_true, reduceCtorEq, *]; done)
    · refine again_intro (d.list.length - (i + 1)) (by omega) m (Mem.sub.refl _) ⟨i + 1, by omega, rfl, ⟨_, hat0.eq ?_, hsub⟩, ?_, ?_, ?_, ?_⟩
      · unfold midD; rw [layTo_no (by assumption)]
      all_goals try (simp (disch := omega) only [nth_upd, pickB_true, pickB_false, inB_lt, upd_len, cast_succ, Int.cast_ofNat_Int, Nat.reduceBEq, beq_self_eq_true, reduceCtorEq, *]; done)
    · have : i = d.list.length := by omega
      subst this
      have a3 : m nD = some (.cells false 5 ((imgL (midD d (bitAt p) d.list.length).laid).map byteC).flatten) := hsub _ _ ((Mem.set_ne _ _ (Ne.symm h2)).trans ((Mem.set_ne _ _ (Ne.symm h3)).trans (Mem.set_same _ _ _)))
      refine Turns.cellNil 102 2 (Mem.set_same _ _ _) rfl fun n3 hn3 => ?_
      simp only [Mem.set_none] at hn3
      have b1 : n3 ≠ nD := fun e => by rw [e, a3] at hn3; cases hn3.2
      refine .sub (m' := (loseD d p).rmem N n3 nD pk) ?_ ⟨rfl, n3, nD, pk, Ne.symm hn3.1, h2, b1, fun h => ?_, rfl⟩
      · have h2' := Ne.symm h2
        have b1' := Ne.symm b1
        obtain ⟨b2, -⟩ := hn3
        have b2' := Ne.symm b2
        unfold loseD Dev.rmem
        rw [if_neg (by rw [hdd]; decide)]
        refine Mem.set_sub (Mem.set_sub (Mem.set_sub (nomem_sub _) ?_) ?_) ?_
        · simp [Mem.set_at, *, midD]
        · simp [Mem.set_at, *]
        · simp [Mem.set_at, *, midD, Dev.ro, Dev.rl, Dev.rrow, leftI]
      · unfold loseD at h; rw [if_neg (by rw [hdd]; decide)] at h; cases h
  · obtain ⟨nC, nD, pk, h1, h2, h3, h4, rfl⟩ := hat
    unfold Dev.rmem at hat0 ⊢
    repeat' first
      | simp -dsimp (disch := omega) only [↓rulesA, rulesB, rulesC, Int.reduceLT, nth, upd, put, storeN, AV.one, Nat.reduceBEq, Nat.reduceBNe, Int.reduceBEq, Int.reduceBNe, Int.reduceLE, Int.reduceEq, Int.reduceMod, Int.reduceNeg, boolBin, strBin, intBin, unA, fillA, ne_eq, reduceCtorEq, Nat.reduceAdd, Nat.reduceSub, Nat.reduceLeDiff, Nat.reduceLT, Nat.reduceEqDiff, Int.reduceToNat, eq_self, rulesT, rulesD, Dev.rrow, Dev.ro, Dev.t4, Dev.p0, Dev.p1, Dev.p2, Dev.p3, Dev.p4, Dev.p5, Dev.p6, Dev.p7, Dev.plen, Dev.t2, Dev.t3, Dev.t5, Dev.t6, Dev.t7, *]
      | (refine allK_intro fun n hn => ?_; try simp only [fresh_set] at hn)
      | (refine ifK_intro (fun h => ?_) (fun h => ?_) <;> (try simp only [rulesE] at h) <;> try (exfalso; (try simp only [rulesF] at h); omega))
      | (refine keeps_sub (Mem.sub_set ?_) ?_; focus (simp [Mem.set_at, nomem, *]; done))
    refine Turns.id ⟨rfl, hat0.eq ?_⟩
    unfold loseD; rw [if_pos hdd]
theorem C47 (d : Dev) (hok : d.Ok) {N : Nat} {m : Mem} (hat : d.RAt N m) (hf : d.f < 4611686018427387904) : C Try.prog 47 [.ptr N 0] m (fun r m' => r = .val (.int .i64 (if d.dead then 22 else 0)) ∧ (flushD d).RAt N m') := by
  have hl := hok.list
  have hm := hok.most
  have hat0 := hat
  refine C.turn (C47_of ?_)
  unfold k47
  rcases hdd : d.dead
  · obtain ⟨nC, nD, pk, h1, h2, h3, h4, rfl⟩ := hat
    unfold Dev.rmem
    repeat' first
      | simp -dsimp (disch := omega) only [↓rulesA, rulesB, rulesC, Int.reduceLT, nth, upd, put, storeN, AV.one, Nat.reduceBEq, Nat.reduceBNe, Int.reduceBEq, Int.reduceBNe, Int.reduceLE, Int.reduceEq, Int.reduceMod, Int.reduceNeg, boolBin, strBin, intBin, unA, fillA, ne_eq, reduceCtorEq, Nat.reduceAdd, Nat.reduceSub, Nat.reduceLeDiff, Nat.reduceLT, Nat.reduceEqDiff, Int.reduceToNat, eq_self, rulesT, rulesD, Dev.rrow, Dev.ro, Dev.t4, Dev.p0, Dev.p1, Dev.p2, Dev.p3, Dev.p4, Dev.p5, Dev.p6, Dev.p7, Dev.plen, Dev.t2, Dev.t3, Dev.t5, Dev.t6, Dev.t7, *]
      | (refine allK_intro fun n hn => ?_; try simp only [fresh_set] at hn)
      | (refine ifK_intro (fun h => ?_) (fun h => ?_) <;> (try simp only [rulesE] at h) <;> try (exfalso; (try simp only [rulesF] at h); omega))
      | (refine keeps_sub (Mem.sub_set ?_) ?_; focus (simp [Mem.set_at, nomem, *]; done))
    refine loop_intro (fun j env m => ∃ i : Nat, i ≤ d.list.length ∧ j = d.list.length - i ∧ (∃ mI, (midD d (fun _ => true) i).RAt N mI ∧ mI.sub m) ∧ env.length = 43 ∧ nth env 0 = .ptr N 0 ∧ nth env 3 = .val (.int .i64 i)) d.list.length _ (Mem.sub.refl _) ⟨0, by omega, by omega, ⟨_, ⟨nC, nD, pk, h1, h2, h3, h4, rfl⟩, Mem.sub.refl _⟩, rfl, rfl, rfl⟩ ?_
    clear hat0 h1 h2 h3 h4
    rintro j env m ⟨i, hi, rfl, ⟨mI, hat, hsub⟩, hlen, e0, e3⟩
    have hat0 := hat
    obtain ⟨nC, nD, pk, h1, h2, h3, h4, rfl⟩ := hat
    have a1 : m N = some (.cells false 80 ((midD d (fun _ => true) i).ro nD (.sl nC 0 d.list.length d.list.length) pk)) := hsub _ _ (Mem.set_same _ _ _)
    have a2 : m nC = some (.cells true 102 (d.list.map slotC).flatten) := hsub _ _ ((Mem.set_ne _ _ (Ne.symm h1)).trans (Mem.set_same _ _ _))
    have hff : (midD d (fun _ => true) i).f = d.f := rfl
    repeat' first
      | simp -dsimp (disch := omega) only [↓rulesA, rulesB, rulesC, Int.reduceLT, nth, upd, put, storeN, AV.one, Nat.reduceBEq, Nat.reduceBNe, Int.reduceBEq, Int.reduceBNe, Int.reduceLE, Int.reduceEq, Int.reduceMod, Int.reduceNeg, boolBin, strBin, intBin, unA, fillA, ne_eq, reduceCtorEq, Nat.reduceAdd, Nat.reduceSub, Nat.reduceLeDiff, Nat.reduceLT, Nat.reduceEqDiff, Int.reduceToNat, eq_self, rulesT, rulesD, Dev.rrow, Dev.ro, Dev.t4, Dev.p0, Dev.p1, Dev.p2, Dev.p3, Dev.p4, Dev.p5, Dev.p6, Dev.p7, Dev.plen, Dev.t2, Dev.t3, Dev.t5, Dev.t6, Dev.t7, Slot.len, Slot.rat0, Slot.rat1, Slot.rin, Slot.rin1, Slot.rpart, Slot.rset1, Slot.slen, Slot.all, Slot.g0, Slot.g1, Slot.take, *]
      | (refine allK_intro fun n hn => ?_; try simp only [fresh_set] at hn)
      | (refine ifK_intro (fun h => ?_) (fun h => ?_) <;> (try simp only [rulesE] at h) <;> try (exfalso; (try simp only [rulesF] at h); omega))
      | (refine keeps_sub (Mem.sub_set ?_) ?_; focus (simp [Mem.set_at, nomem, *]; done))
    · have hil : i < d.list.length := by omega
      refine call_at (C59 (midD d (fun _ => true) i) (d.list.getD i default) (by show _ < (layTo _ _ _ i).length; rw [layTo_len]; exact at_lt hok hil) (by show (layTo _ _ _ i).length ≤ _; rw [layTo_len]; exact hm) hat0) hsub fun r m1 M1 ⟨hr, hat'⟩ hsub' _ => ?_
      subst hr
      clear a1 a2 hat0
      repeat' first
        | simp -dsimp (disch := omega) only [↓rulesA, rulesB, rulesC, Int.reduceLT, nth, upd, put, storeN, AV.one, Nat.reduceBEq, Nat.reduceBNe, Int.reduceBEq, Int.reduceBNe, Int.reduceLE, Int.reduceEq, Int.reduceMod, Int.reduceNeg, boolBin, strBin, intBin, unA, fillA, ne_eq, reduceCtorEq, Nat.reduceAdd, Nat.reduceSub, Nat.reduceLeDiff, Nat.reduceLT, Nat.reduceEqDiff, Int.reduceToNat, eq_self, rulesT, rulesD, *]
        | (refine allK_intro fun n hn => ?_; try simp only [fresh_set] at hn)
        | (refine ifK_intro (fun h => ?_) (fun h => ?_) <;> (try simp only [rulesE] at h) <;> try (exfalso; (try simp only [rulesF] at h); omega))
        | (refine keeps_sub (Mem.sub_set ?_) ?_; focus (simp [Mem.set_at, nomem, *]; done))
      refine again_intro (d.list.length - (i + 1)) (by omega) M1 (Mem.sub.refl _) ⟨i + 1, by omega, rfl, ⟨m1, hat'.eq ?_, hsub'⟩, ?_, ?_, ?_⟩
      · unfold midD; rw [layTo_yes rfl]
      all_goals try (simp (disch := omega) only [nth_upd, pickB_true, pickB_false, inB_lt, upd_len, cast_succ, Int.cast_ofNat_Int, Nat.reduceBEq, beq_self_eq_true, reduceCtorEq, *]; done)
    · have : i = d.list.length := by omega
      subst this
      have a3 : m nD = some (.cells false 5 ((imgL (midD d (fun _ => true) d.list.length).laid).map byteC).flatten) := hsub _ _ ((Mem.set_ne _ _ (Ne.symm h2)).trans ((Mem.set_ne _ _ (Ne.symm h3)).trans (Mem.set_same _ _ _)))
      refine Turns.cellNil 102 2 (Mem.set_same _ _ _) rfl fun n3 hn3 => ?_
      simp only [Mem.set_none] at hn3
      have b1 : n3 ≠ nD := fun e => by rw [e, a3] at hn3; cases hn3.2
      refine .sub (m' := (flushD d).rmem N n3 nD pk) ?_ ⟨rfl, n3, nD, pk, Ne.symm hn3.1, h2, b1, fun h => ?_, rfl⟩
      · have h2' := Ne.symm h2
        have b1' := Ne.symm b1
        obtain ⟨b2, -⟩ := hn3
        have b2' := Ne.symm b2
        unfold flushD Dev.rmem
        rw [if_neg (by rw [hdd]; decide)]
        refine Mem.set_sub (Mem.set_sub (Mem.set_sub (nomem_sub _) ?_) ?_) ?_
        · simp [Mem.set_at, *, midD]
        · simp [Mem.set_at, *]
        · simp [Mem.set_at, *, midD, Dev.ro, Dev.rl, Dev.rrow, leftI]
          rfl
      · unfold flushD at h ⊢; rw [if_neg (by rw [hdd]; decide)] at h ⊢; exact h4 h
  · obtain ⟨nC, nD, pk, h1, h2, h3, h4, rfl⟩ := hat
    unfold Dev.rmem at hat0 ⊢
    repeat' first
      | simp -dsimp (disch := omega) only [↓rulesA, rulesB, rulesC, Int.reduceLT, nth, upd, put, storeN, AV.one, Nat.reduceBEq, Nat.reduceBNe, Int.reduceBEq, Int.reduceBNe, Int.reduceLE, Int.reduceEq, Int.reduceMod, Int.reduceNeg, boolBin, strBin, intBin, unA, fillA, ne_eq, reduceCtorEq, Nat.reduceAdd, Nat.reduceSub, Nat.reduceLeDiff, Nat.reduceLT, Nat.reduceEqDiff, Int.reduceToNat, eq_self, rulesT, rulesD, Dev.rrow, Dev.ro, Dev.t4, Dev.p0, Dev.p1, Dev.p2, Dev.p3, Dev.p4, Dev.p5, Dev.p6, Dev.p7, Dev.plen, Dev.t2, Dev.t3, Dev.t5, Dev.t6, Dev.t7, *]
      | (refine allK_intro fun n hn => ?_; try simp only [fresh_set] at hn)
      | (refine ifK_intro (fun h => ?_) (fun h => ?_) <;> (try simp only [rulesE] at h) <;> try (exfalso; (try simp only [rulesF] at h); omega))
      | (refine keeps_sub (Mem.sub_set ?_) ?_; focus (simp [Mem.set_at, nomem, *]; done))
    refine Turns.id ⟨rfl, hat0.eq ?_⟩
    unfold flushD; rw [if_pos hdd]
end Go.Proofs.Ytlkeailgccbmbaa

set_option maxRecDepth 100000
set_option maxHeartbeats 1000000
set_option linter.unusedSimpArgs false
set_option linter.unusedVariables false
namespace Go.Proofs.Ytlkeailgccbmbaa
open Go.Abs
attribute [local irreducible] C X CC Y CV CW binK litK AppK PureC PureCV againK loopV rangeV allK ifK got onB condK V stepsK planK opK firstK seeE keepsK
theorem conv_img (m : Mem) (l : List UInt8) (x : Bool) : convA Try.prog m 44 9 (.vs (l.map byteC) x) = some (.val (.string ⟨l.toArray⟩)) := cv_44_9 m l x
end Go.Proofs.Ytlkeailgccbmbaa

set_option maxRecDepth 100000
set_option maxHeartbeats 1000000
set_option linter.unusedSimpArgs false
set_option linter.unusedVariables false
namespace Go.Proofs.Ytlkeailgccbmbaa
open Go.Abs
attribute [local irreducible] C X CC Y CV CW binK litK AppK PureC PureCV againK loopV rangeV allK ifK got onB condK V stepsK planK opK firstK seeE keepsK
theorem fill_self (s : Sec) : fillS s.l = s := Sec.inj (fill_full s.h)
theorem lit1_78 (w : Wr) : litA Try.prog 78 1 [(0, .agg (slotC w))] = some (102, 2, slotC w) := by
  simp only [litA, ti_78, ti_102, z_102, fillA, cells_agg, Slot.all, Slot.slen, if_true]
  rfl
theorem src_78 (m : Mem) (l : List Wr) (x : Bool) : srcA Try.prog m 78 2 (.vs (l.map slotC) x) = some (l.length, (l.map slotC).flatten) := src_vs slotC ti_78 rfl (fun _ => ⟨rfl, rfl⟩) m l x
theorem Slot.mk (k : Nat) (s : Sec) : AV.agg [.val (.int .i64 k), .val (.string ⟨s.l.toArray⟩)] = .agg (slotC ⟨k, s⟩) := rfl
theorem count_no {d : Dev} (h : d.set = false) (h' : d.dead = false) : countD (lessD d) = ⟨d.list, false, d.left, d.pick, d.laid, false, d.w + 1, d.f⟩ := by
  unfold lessD; rw [if_neg (by rw [h]; decide)]
  cases d; simp only at h h'; subst h; subst h'; rfl
theorem count_yes {d : Dev} (h : d.set = true) (h' : d.dead = false) : countD (lessD d) = ⟨d.list, true, d.left - 1, d.pick, d.laid, false, d.w + 1, d.f⟩ := by
  unfold lessD; rw [if_pos h]
  cases d; simp only at h h'; subst h; subst h'; rfl
theorem C46 (d : Dev) (hok : d.Ok) {N : Nat} {m : Mem} (hat : d.RAt N m) (hw : d.w < 4611686018427387904) (k : Int) (l : List UInt8) (x : Bool) (hll : l.length ≤ 140737488355328) : C Try.prog 46 [.ptr N 0, .val (.int .i64 k), .vs (l.map byteC) x] m (fun r m' => r = .val (.int .i64 (writeE d k l)) ∧ (writeD d k l).RAt N m') := by
  have hd := hok.some
  have hl := hok.list
  have hm := hok.most
  have hat0 := hat
  obtain ⟨pk', hs, -⟩ := hat.seen (Mem.sub.refl m) 0
  have h36 := F42 d pk' false false hm
  obtain ⟨nC, nD, pk, h1, h2, h3, h4, hm0⟩ := hat
  have h1' := Ne.symm h1
  have h2' := Ne.symm h2
  have h3' := Ne.symm h3
  have a1 : m N = some (.cells false 80 (d.ro nD (d.rrow nC) pk)) := by rw [hm0]; exact Mem.set_same _ _ _
  have a2 : m nC = some (.cells true 102 (d.list.map slotC).flatten) := by rw [hm0]; exact (Mem.set_ne _ _ (Ne.symm h1)).trans (Mem.set_same _ _ _)
  have a3 : m nD = some (.cells false 5 ((imgL d.laid).map byteC).flatten) := by rw [hm0]; exact (Mem.set_ne _ _ (Ne.symm h2)).trans ((Mem.set_ne _ _ (Ne.symm h3)).trans (Mem.set_same _ _ _))
  clear hm0
  replace h4 : Kept _ := h4
  refine C.turn (C46_of ?_)
  unfold k46
  rcases hdd : d.dead
  · have hnd : ¬ d.dead = true := by rw [hdd]; decide
    have r20 : Kept ((k < 0 ∨ d.laid.length ≤ k) → writeE d k l = 20 ∧ writeD d k l = d) := fun h => by
      unfold writeE writeD; rw [if_neg hnd, if_neg hnd, if_pos h, if_pos h]; exact ⟨rfl, rfl⟩
    have r10 : Kept (¬ (k < 0 ∨ d.laid.length ≤ k) → l.length ≠ 64 → writeE d k l = 10 ∧ writeD d k l = d) := fun h h' => by
      unfold writeE writeD; rw [if_neg hnd, if_neg hnd, if_neg h, if_neg h, if_pos h', if_pos h']; exact ⟨rfl, rfl⟩
    have r22 : Kept (¬ (k < 0 ∨ d.laid.length ≤ k) → l.length = 64 → (d.set = true ∧ d.left = 0) → writeE d k l = 22 ∧ writeD d k l = loseD d d.pick) := fun h h' h'' => ⟨by unfold writeE; rw [if_neg hnd, if_neg h, if_neg (fun e => e h'), if_pos h''], by unfold writeD; rw [if_neg hnd, if_neg h, if_neg (fun e => e h'), if_pos h'']⟩
    have r0 : Kept (¬ (k < 0 ∨ d.laid.length ≤ k) → l.length = 64 → ¬ (d.set = true ∧ d.left = 0) → writeE d k l = 0 ∧ writeD d k l = countD (layD (lessD d) k.toNat (fillS l))) := fun h h' h'' => ⟨by unfold writeE; rw [if_neg hnd, if_neg h, if_neg (fun e => e h'), if_neg h''], by unfold writeD; rw [if_neg hnd, if_neg h, if_neg (fun e => e h'), if_neg h'']⟩
    clear hnd
    by_cases hL : l.length = 64
    · obtain ⟨s, rfl⟩ : ∃ s : Sec, l = s.l := ⟨fillS l, (fill_full hL).symm⟩
      have fs : Kept (fillS s.l = s) := fill_self s
      have go : Kept (∀ (q : Nat), k = q → ¬ (k < 0 ∨ d.laid.length ≤ k) → ¬ (d.set = true ∧ d.left = 0) → writeE d k s.l = 0 ∧ writeD d k s.l = layD (countD (lessD d)) q s) := fun q e h h' => by
        obtain ⟨e1, e2⟩ := r0 h hL h'
        refine ⟨e1, e2.trans ?_⟩
        rw [(fs : _ = _), e]; rfl
      rcases hset : d.set
      case' false =>
        have hlf : leftI d = -1 := by unfold leftI; rw [hset]; rfl
        have hc : Kept (¬ (d.set = true ∧ d.left = 0)) := by show ¬ _; rw [hset]; simp
        have e : Kept (countD (lessD d) = ⟨d.list, false, d.left, d.pick, d.laid, false, d.w + 1, d.f⟩) := count_no hset hdd
        repeat' first
          | simp -dsimp (disch := omega) only [↓rulesA, rulesB, rulesC, Int.reduceLT, nth, upd, put, storeN, AV.one, Nat.reduceBEq, Nat.reduceBNe, Int.reduceBEq, Int.reduceBNe, Int.reduceLE, Int.reduceEq, Int.reduceMod, Int.reduceNeg, boolBin, strBin, intBin, unA, fillA, ne_eq, reduceCtorEq, Nat.reduceAdd, Nat.reduceSub, Nat.reduceLeDiff, Nat.reduceLT, Nat.reduceEqDiff, Int.reduceToNat, eq_self, rulesT, rulesD, Dev.rrow, Dev.ro, Dev.t4, Dev.p0, Dev.p1, Dev.p2, Dev.p3, Dev.p4, Dev.p5, Dev.p6, Dev.p7, Dev.plen, Dev.t2, Dev.t3, Dev.t5, Dev.t6, Dev.t7, hlf, *]
          | (refine allK_intro fun n hn => ?_; try simp only [fresh_set] at hn)
          | (refine ifK_intro (fun h => ?_) (fun h => ?_) <;> (try simp only [rulesE] at h) <;> try (exfalso; (try simp only [rulesF] at h); omega))
          | (refine keeps_sub (Mem.sub_set ?_) ?_; focus (simp [Mem.set_at, nomem, *]; done))
          | (refine call_F (h36) (.one hs) ?_)
          | (refine pure_F (h36) (.one hs) ?_)
        all_goals first | exact Turns.id ⟨by rw [(r20 (by omega)).1], hat0.eq (r20 (by omega)).2.symm⟩ | skip
        obtain ⟨q, rfl⟩ : ∃ q : Nat, k = q := ⟨k.toNat, by omega⟩
        have g := (go : ∀ q : Nat, _ → _ → _ → _) q rfl (by omega) hc
        rw [(e : _ = _)] at g
        rw [g.1]
        replace g : Kept _ := g.2
        obtain ⟨d2, hd2⟩ : ∃ d2 : Dev, d2 = ⟨d.list, false, d.left, d.pick, d.laid, false, d.w + 1, d.f⟩ := ⟨_, rfl⟩
        have f1 : d2.list = d.list := by rw [hd2]
        have f2 : d2.laid = d.laid := by rw [hd2]
        have f3 : Kept (d2.set = true → pk = d2.pick) := by show _ → _; rw [hd2]; intro h; cases h
        have f4 : leftI d2 = -1 := by rw [hd2]; rfl
        rw [← hd2] at g ⊢
        rw [← f4]
        clear hd2 f4 hlf hc e go r20 r10 r22 r0 h4 hs h36 hat0 a1
      case' true =>
        have hlf : leftI d = d.left := by unfold leftI; rw [hset]; rfl
        have hc := hok.cut hset
        have hpk : Kept (pk = d.pick) := h4 hset
        repeat' first
          | simp -dsimp (disch := omega) only [↓rulesA, rulesB, rulesC, Int.reduceLT, nth, upd, put, storeN, AV.one, Nat.reduceBEq, Nat.reduceBNe, Int.reduceBEq, Int.reduceBNe, Int.reduceLE, Int.reduceEq, Int.reduceMod, Int.reduceNeg, boolBin, strBin, intBin, unA, fillA, ne_eq, reduceCtorEq, Nat.reduceAdd, Nat.reduceSub, Nat.reduceLeDiff, Nat.reduceLT, Nat.reduceEqDiff, Int.reduceToNat, eq_self, rulesT, rulesD, Dev.rrow, Dev.ro, Dev.t4, Dev.p0, Dev.p1, Dev.p2, Dev.p3, Dev.p4, Dev.p5, Dev.p6, Dev.p7, Dev.plen, Dev.t2, Dev.t3, Dev.t5, Dev.t6, Dev.t7, hlf, *]
          | (refine allK_intro fun n hn => ?_; try simp only [fresh_set] at hn)
          | (refine ifK_intro (fun h => ?_) (fun h => ?_) <;> (try simp only [rulesE] at h) <;> try (exfalso; (try simp only [rulesF] at h); omega))
          | (refine keeps_sub (Mem.sub_set ?_) ?_; focus (simp [Mem.set_at, nomem, *]; done))
          | (refine call_F (h36) (.one hs) ?_)
          | (refine pure_F (h36) (.one hs) ?_)
        all_goals first | exact Turns.id ⟨by rw [(r20 (by omega)).1], hat0.eq (r20 (by omega)).2.symm⟩ | skip
        · have hl0 : d.left = 0 := by simpa using h
          have r : Kept (writeE d k s.l = 22 ∧ writeD d k s.l = loseD d d.pick) := r22 (by omega) hL ⟨hset, hl0⟩
          rw [(hpk : _ = _)]
          refine call_C (C58 d hok hat0 _) fun r m' ⟨hr, h'⟩ => ?_
          subst hr
          repeat' first
            | simp -dsimp (disch := omega) only [↓rulesA, rulesB, rulesC, Int.reduceLT, nth, upd, put, storeN, AV.one, Nat.reduceBEq, Nat.reduceBNe, Int.reduceBEq, Int.reduceBNe, Int.reduceLE, Int.reduceEq, Int.reduceMod, Int.reduceNeg, boolBin, strBin, intBin, unA, fillA, ne_eq, reduceCtorEq, Nat.reduceAdd, Nat.reduceSub, Nat.reduceLeDiff, Nat.reduceLT, Nat.reduceEqDiff, Int.reduceToNat, eq_self, rulesT, rulesD, *]
            | (refine allK_intro fun n hn => ?_; try simp only [fresh_set] at hn)
            | (refine ifK_intro (fun h => ?_) (fun h => ?_) <;> (try simp only [rulesE] at h) <;> try (exfalso; (try simp only [rulesF] at h); omega))
            | (refine keeps_sub (Mem.sub_set ?_) ?_; focus (simp [Mem.set_at, nomem, *]; done))
          exact Turns.id ⟨by rw [(r : _ ∧ _).1], h'.eq (r : _ ∧ _).2.symm⟩
        rotate_left
        · exfalso
          have h0 : (d.left == 0) = false := by assumption
          have := ne_of_beq_false h0
          omega
        obtain ⟨q, rfl⟩ : ∃ q : Nat, k = q := ⟨k.toNat, by omega⟩
        have e : Kept (countD (lessD d) = ⟨d.list, true, d.left - 1, d.pick, d.laid, false, d.w + 1, d.f⟩) := count_yes hset hdd
        have g := (go : ∀ q : Nat, _ → _ → _ → _) q rfl (by omega) (fun h => by
          have h0 : (d.left == 0) = false := by assumption
          rw [h.2] at h0; cases h0)
        rw [(e : _ = _)] at g
        rw [g.1]
        replace g : Kept _ := g.2
        obtain ⟨d2, hd2⟩ : ∃ d2 : Dev, d2 = ⟨d.list, true, d.left - 1, d.pick, d.laid, false, d.w + 1, d.f⟩ := ⟨_, rfl⟩
        have f1 : d2.list = d.list := by rw [hd2]
        have f2 : d2.laid = d.laid := by rw [hd2]
        have f3 : Kept (d2.set = true → pk = d2.pick) := by show _ → _; rw [hd2]; intro _; exact hpk
        have f4 : d.left - 1 = leftI d2 := by rw [hd2]; rfl
        have f5 : ∀ c, (⟨d.list, true, d.left, d.pick, d.laid, false, d.w + 1, d.f⟩ : Dev).rl nD c (d.left - 1) pk = d2.rl nD c (d.left - 1) pk := fun c => by rw [hd2]; rfl
        rw [f5, f4]
        rw [← hd2] at g
        clear hd2 f4 f5 hlf hc e go r20 r10 r22 r0 h4 hs h36 hat0 a1
      all_goals
        have hfn := findN_le d.list q
        refine loop_intro (fun j env m' => ∃ i : Nat, i ≤ findN d.list q ∧ j = d.list.length - i ∧ m' = m.set N (.cells false 80 (d2.rl nD (.sl nC 0 d.list.length d.list.length) (leftI d2) pk)) ∧ env.length = 101 ∧ nth env 0 = .ptr N 0 ∧ nth env 1 = .val (.int .i64 q) ∧ nth env 2 = .vs (s.l.map byteC) x ∧ nth env 7 = .val (.int .i64 i)) d.list.length _ (Mem.sub.refl _) ⟨0, by omega, by omega, rfl, rfl, rfl, rfl, rfl, rfl⟩ ?_
        clear hset
        rintro j env m' ⟨i, hi, rfl, rfl, hlen, e0, e1, e2, e7⟩
        repeat' first
          | simp -dsimp (disch := omega) only [↓rulesA, rulesB, rulesC, Int.reduceLT, nth, upd, put, storeN, AV.one, Nat.reduceBEq, Nat.reduceBNe, Int.reduceBEq, Int.reduceBNe, Int.reduceLE, Int.reduceEq, Int.reduceMod, Int.reduceNeg, boolBin, strBin, intBin, unA, fillA, ne_eq, reduceCtorEq, Nat.reduceAdd, Nat.reduceSub, Nat.reduceLeDiff, Nat.reduceLT, Nat.reduceEqDiff, Int.reduceToNat, eq_self, rulesT, rulesD, Slot.len, Slot.rat0, Slot.rat1, Slot.rin, Slot.rin1, Slot.rpart, Slot.rset1, Slot.slen, Slot.all, Slot.g0, Slot.g1, Slot.take, Dev.rrow, Dev.ro, Dev.t4, Dev.p0, Dev.p1, Dev.p2, Dev.p3, Dev.p4, Dev.p5, Dev.p6, Dev.p7, Dev.plen, Dev.t2, Dev.t3, Dev.t5, Dev.t6, Dev.t7, Slot.mk, *]
          | (refine allK_intro fun n hn => ?_; try simp only [fresh_set] at hn)
          | (refine ifK_intro (fun h => ?_) (fun h => ?_) <;> (try simp only [rulesE] at h) <;> try (exfalso; (try simp only [rulesF] at h); omega))
          | (refine keeps_sub (Mem.sub_set ?_) ?_; focus (simp [Mem.set_at, nomem, *]; done))
        · have hat : ((d.list.getD i default).at_ : Int) = q := eq_of_beq (by assumption)
          have hf : findN d.list q = i := findN_end hi (by omega) (by omega)
          have hq : (d.list.getD i default).at_ = q := by omega
          have e4 : layL d.list q s = d.list.set i ⟨q, s⟩ := by unfold layL; rw [if_pos (by omega), hf]
          have e5 : (layL d.list q s).length = d.list.length := by rw [e4, List.length_set]
          refine Turns.sub (m' := (layD d2 q s).rmem N nC nD pk) ?_ ⟨rfl, Dev.RAt.eq (d := layD d2 q s) ⟨nC, nD, pk, h1, h2, h3, f3, rfl⟩ (g : _ = _).symm⟩
          unfold Dev.rmem
          rw [show (layD d2 q s).list = layL d.list q s by unfold layD; rw [f1], show (layD d2 q s).laid = d.laid from f2]
          refine Mem.set_sub (Mem.set_sub (Mem.set_sub (nomem_sub _) ?_) ?_) ?_
          · simp [Mem.set_at, *]
          · rw [e4, ← hq]; exact Mem.set_same _ _ _
          · have : (layD d2 q s).ro nD ((layD d2 q s).rrow nC) pk = d2.rl nD (.sl nC 0 d.list.length d.list.length) (leftI d2) pk := by
              have : (layD d2 q s).rrow nC = .sl nC 0 d.list.length d.list.length := by unfold Dev.rrow layD; simp only; rw [f1, e5]
              rw [this]; rfl
            rw [this]
            simp [Mem.set_at, *]
        · have hat : ((d.list.getD i default).at_ : Int) ≠ q := ne_of_beq_false (by assumption)
          refine again_intro (d.list.length - (i + 1)) (by omega) _ (Mem.sub.refl _) ⟨i + 1, ?_, rfl, rfl, ?_, ?_, ?_, ?_, ?_⟩
          · have : findN d.list q ≠ i := fun e => by
              have h2 := findN_is (l := d.list) (k := q) (by omega)
              rw [e] at h2
              exact hat (by omega)
            omega
          all_goals try (simp (disch := omega) only [nth_upd, pickB_true, pickB_false, inB_lt, upd_len, cast_succ, Int.cast_ofNat_Int, Nat.reduceBEq, beq_self_eq_true, reduceCtorEq, *]; done)
        · have hf : ¬ findN d.list q < d.list.length := by omega
          refine lit_vs (lit1_78 _) rfl ?_
          repeat' first
            | simp -dsimp (disch := omega) only [↓rulesA, rulesB, rulesC, Int.reduceLT, nth, upd, put, storeN, AV.one, Nat.reduceBEq, Nat.reduceBNe, Int.reduceBEq, Int.reduceBNe, Int.reduceLE, Int.reduceEq, Int.reduceMod, Int.reduceNeg, boolBin, strBin, intBin, unA, fillA, ne_eq, reduceCtorEq, Nat.reduceAdd, Nat.reduceSub, Nat.reduceLeDiff, Nat.reduceLT, Nat.reduceEqDiff, Int.reduceToNat, eq_self, rulesT, rulesD, Slot.len, Slot.rat0, Slot.rat1, Slot.rin, Slot.rin1, Slot.rpart, Slot.rset1, Slot.slen, Slot.all, Slot.g0, Slot.g1, Slot.take, Dev.rrow, Dev.ro, Dev.t4, Dev.p0, Dev.p1, Dev.p2, Dev.p3, Dev.p4, Dev.p5, Dev.p6, Dev.p7, Dev.plen, Dev.t2, Dev.t3, Dev.t5, Dev.t6, Dev.t7, *]
            | (refine allK_intro fun n hn => ?_; try simp only [fresh_set] at hn)
            | (refine ifK_intro (fun h => ?_) (fun h => ?_) <;> (try simp only [rulesE] at h) <;> try (exfalso; (try simp only [rulesF] at h); omega))
            | (refine keeps_sub (Mem.sub_set ?_) ?_; focus (simp [Mem.set_at, nomem, *]; done))
          refine append_open app_78 (src_78 _ [⟨q, s⟩] _) (bt := 102) (cs := (d.list.map slotC).flatten) (by simp [Mem.set_at, *]) cs_102 (by rw [Slot.len]; simp) (show (d.list.length + 1) * 24 ≤ _ by omega) fun n4 hn4 => ?_
          simp only [fresh_set] at hn4
          repeat' first
            | simp -dsimp (disch := omega) only [↓rulesA, rulesB, rulesC, Int.reduceLT, nth, upd, put, storeN, AV.one, Nat.reduceBEq, Nat.reduceBNe, Int.reduceBEq, Int.reduceBNe, Int.reduceLE, Int.reduceEq, Int.reduceMod, Int.reduceNeg, boolBin, strBin, intBin, unA, fillA, ne_eq, reduceCtorEq, Nat.reduceAdd, Nat.reduceSub, Nat.reduceLeDiff, Nat.reduceLT, Nat.reduceEqDiff, Int.reduceToNat, eq_self, rulesT, rulesD, Slot.len, Slot.rat0, Slot.rat1, Slot.rin, Slot.rin1, Slot.rpart, Slot.rset1, Slot.slen, Slot.all, Slot.g0, Slot.g1, Slot.take, Dev.rrow, Dev.ro, Dev.t4, Dev.p0, Dev.p1, Dev.p2, Dev.p3, Dev.p4, Dev.p5, Dev.p6, Dev.p7, Dev.plen, Dev.t2, Dev.t3, Dev.t5, Dev.t6, Dev.t7, *]
            | (refine allK_intro fun n hn => ?_; try simp only [fresh_set] at hn)
            | (refine ifK_intro (fun h => ?_) (fun h => ?_) <;> (try simp only [rulesE] at h) <;> try (exfalso; (try simp only [rulesF] at h); omega))
            | (refine keeps_sub (Mem.sub_set ?_) ?_; focus (simp [Mem.set_at, nomem, *]; done))
            | (refine keeps_stab ?_ ?_; focus ((repeat' first | exact stabK_nil _ _ | refine stabK_cons ?_ ?_ | (simp (disch := omega) only [quietA, Option.isSome_some, ↓rulesA, rulesB, rulesC, Int.reduceLT, nth, upd, put, storeN, AV.one, Nat.reduceBEq, Nat.reduceBNe, Int.reduceBEq, Int.reduceBNe, Int.reduceLE, Int.reduceEq, Int.reduceMod, Int.reduceNeg, boolBin, strBin, intBin, unA, fillA, ne_eq, reduceCtorEq, Nat.reduceAdd, Nat.reduceSub, Nat.reduceLeDiff, Nat.reduceLT, Nat.reduceEqDiff, Int.reduceToNat, eq_self, rulesT, rulesD, Slot.len, Slot.rat0, Slot.rat1, Slot.rin, Slot.rin1, Slot.rpart, Slot.rset1, Slot.slen, Slot.all, Slot.g0, Slot.g1, Slot.take, Dev.rrow, Dev.ro, Dev.t4, Dev.p0, Dev.p1, Dev.p2, Dev.p3, Dev.p4, Dev.p5, Dev.p6, Dev.p7, Dev.plen, Dev.t2, Dev.t3, Dev.t5, Dev.t6, Dev.t7, *]; done)); done))
          have e4 : layL d.list q s = d.list ++ [⟨q, s⟩] := by unfold layL; rw [if_neg hf]
          have e5 : (layL d.list q s).length = d.list.length + 1 := by rw [e4, List.length_append]; rfl
          obtain ⟨b1, b2, b3⟩ := hn4
          have b4 : n4 ≠ nC := fun e => by rw [e, a2] at b3; cases b3
          have b5 : n4 ≠ nD := fun e => by rw [e, a3] at b3; cases b3
          have b4' := Ne.symm b4
          have b5' := Ne.symm b5
          refine Turns.sub (m' := (layD d2 q s).rmem N n4 nD pk) ?_ ⟨rfl, Dev.RAt.eq (d := layD d2 q s) ⟨n4, nD, pk, b2, h2, b5, f3, rfl⟩ (g : _ = _).symm⟩
          unfold Dev.rmem
          rw [show (layD d2 q s).list = layL d.list q s by unfold layD; rw [f1], show (layD d2 q s).laid = d.laid from f2]
          refine Mem.set_sub (Mem.set_sub (Mem.set_sub (nomem_sub _) ?_) ?_) ?_
          · simp [Mem.set_at, Mem.del_at, *]
          · simp [Mem.set_at, Mem.del_at, *]
          · have : (layD d2 q s).ro nD ((layD d2 q s).rrow n4) pk = d2.rl nD (.sl n4 0 (d.list.length + 1) (d.list.length + 1)) (leftI d2) pk := by
              have : (layD d2 q s).rrow n4 = .sl n4 0 (d.list.length + 1) (d.list.length + 1) := by unfold Dev.rrow layD; simp only; rw [f1, e5]
              rw [this]; rfl
            rw [this]
            simp [Mem.set_at, *]
    · repeat' first
        | simp -dsimp (disch := omega) only [↓rulesA, rulesB, rulesC, Int.reduceLT, nth, upd, put, storeN, AV.one, Nat.reduceBEq, Nat.reduceBNe, Int.reduceBEq, Int.reduceBNe, Int.reduceLE, Int.reduceEq, Int.reduceMod, Int.reduceNeg, boolBin, strBin, intBin, unA, fillA, ne_eq, reduceCtorEq, Nat.reduceAdd, Nat.reduceSub, Nat.reduceLeDiff, Nat.reduceLT, Nat.reduceEqDiff, Int.reduceToNat, eq_self, rulesT, rulesD, Dev.rrow, Dev.ro, Dev.t4, Dev.p0, Dev.p1, Dev.p2, Dev.p3, Dev.p4, Dev.p5, Dev.p6, Dev.p7, Dev.plen, Dev.t2, Dev.t3, Dev.t5, Dev.t6, Dev.t7, *]
        | (refine allK_intro fun n hn => ?_; try simp only [fresh_set] at hn)
        | (refine ifK_intro (fun h => ?_) (fun h => ?_) <;> (try simp only [rulesE] at h) <;> try (exfalso; (try simp only [rulesF] at h); omega))
        | (refine keeps_sub (Mem.sub_set ?_) ?_; focus (simp [Mem.set_at, nomem, *]; done))
        | (refine call_F (h36) (.one hs) ?_)
        | (refine pure_F (h36) (.one hs) ?_)
      all_goals first
        | exact Turns.id ⟨by rw [(r20 (by omega)).1], hat0.eq (r20 (by omega)).2.symm⟩
        | exact Turns.id ⟨by rw [(r10 (by omega) hL).1], hat0.eq (r10 (by omega) hL).2.symm⟩
        | (exfalso; simp_all; done)
        | (exfalso; rename_i hx; simp only [bne_eq_false_iff_eq, bne_iff_ne] at hx; omega)
        | (exfalso; simp only [bne_eq_false_iff_eq, bne_iff_ne] at h; omega)
  · repeat' first
      | simp -dsimp (disch := omega) only [↓rulesA, rulesB, rulesC, Int.reduceLT, nth, upd, put, storeN, AV.one, Nat.reduceBEq, Nat.reduceBNe, Int.reduceBEq, Int.reduceBNe, Int.reduceLE, Int.reduceEq, Int.reduceMod, Int.reduceNeg, boolBin, strBin, intBin, unA, fillA, ne_eq, reduceCtorEq, Nat.reduceAdd, Nat.reduceSub, Nat.reduceLeDiff, Nat.reduceLT, Nat.reduceEqDiff, Int.reduceToNat, eq_self, rulesT, rulesD, Dev.rrow, Dev.ro, Dev.t4, Dev.p0, Dev.p1, Dev.p2, Dev.p3, Dev.p4, Dev.p5, Dev.p6, Dev.p7, Dev.plen, Dev.t2, Dev.t3, Dev.t5, Dev.t6, Dev.t7, *]
      | (refine allK_intro fun n hn => ?_; try simp only [fresh_set] at hn)
      | (refine ifK_intro (fun h => ?_) (fun h => ?_) <;> (try simp only [rulesE] at h) <;> try (exfalso; (try simp only [rulesF] at h); omega))
      | (refine keeps_sub (Mem.sub_set ?_) ?_; focus (simp [Mem.set_at, nomem, *]; done))
    refine Turns.id ⟨?_, hat0.eq ?_⟩
    · unfold writeE; rw [if_pos hdd]
    · unfold writeD; rw [if_pos hdd]
end Go.Proofs.Ytlkeailgccbmbaa

set_option maxRecDepth 100000
set_option maxHeartbeats 1000000
set_option linter.unusedSimpArgs false
set_option linter.unusedVariables false
namespace Go.Proofs.Ytlkeailgccbmbaa
open Go.Abs
attribute [local irreducible] C X CC Y CV CW binK litK AppK PureC PureCV againK loopV rangeV allK ifK got onB condK V stepsK planK opK firstK seeE keepsK
theorem cleans_vals : ∀ {l : List AV}, (∀ c ∈ l, ∃ v, c = .val v) → AV.clean.cleans l = true
  | [], _ => rfl
  | c :: l, h => by
    obtain ⟨v, rfl⟩ := h c (by simp)
    show (AV.clean (.val v) && AV.clean.cleans l) = true
    rw [cleans_vals fun c hc => h c (by simp [hc])]; rfl
theorem Dev.At.clean {d : Dev} {N : Nat} {m : Mem} (h : d.At N m) : ∀ n b, m n = some b → cleanB b := by
  obtain ⟨nl, nL, h1, h2, h3, rfl⟩ := h
  intro n b hb
  unfold Dev.mem Mem.set at hb
  split at hb
  · cases hb; exact rfl
  · split at hb
    · cases hb; exact cleans_vals (vals_row Wr.cells Wr.vals d.list)
    · split at hb
      · cases hb; exact cleans_vals (vals_row Sec.cells Sec.vals d.laid)
      · cases hb
def secAt (l : List UInt8) (k : Nat) : Sec := fillS (l.drop (k * 64))
def laidTo (l : List UInt8) (n : Nat) : Nat → List Sec
  | 0 => List.replicate n Sec.zero
  | i + 1 => (laidTo l n i).set i (secAt l i)
theorem laidTo_len (l : List UInt8) (n : Nat) : ∀ i, (laidTo l n i).length = n
  | 0 => List.length_replicate
  | i + 1 => by unfold laidTo; rw [List.length_set]; exact laidTo_len l n i
theorem laidTo_img {l : List UInt8} {n : Nat} (h : l.length = n * 64) : ∀ i, i ≤ n → imgL (laidTo l n i) = l.take (i * 64) ++ List.replicate ((n - i) * 64) 0
  | 0, _ => by unfold laidTo; rw [img_zero]; simp
  | i + 1, hi => by
    have ih := laidTo_img h i (by omega)
    unfold laidTo
    rw [← upTo_img _ _ _ (by rw [laidTo_len]; omega), ih]
    unfold upTo
    have e1 : (l.take (i * 64)).length = i * 64 := by simp; omega
    have e2 : (secAt l i).l.take 64 = (l.drop (i * 64)).take 64 := by
      rw [List.take_of_length_le (by rw [(secAt l i).h]; exact Nat.le_refl _)]
      unfold secAt fillS
      have : 64 - (l.drop (i * 64)).length = 0 := by simp; omega
      simp only [this, List.replicate_zero, List.append_nil]
    rw [e2, List.take_append_of_le_length (by omega), List.take_of_length_le (by omega)]
    have e3 : (i + 1) * 64 = i * 64 + 64 := by omega
    rw [e3, List.take_add, List.drop_append, e1]
    have e4 : (l.take (i * 64)).drop (i * 64 + 64) = [] := List.drop_eq_nil_of_le (by omega)
    have e5 : i * 64 + 64 - i * 64 = 64 := by omega
    have e6 : (n - i) * 64 - 64 = (n - (i + 1)) * 64 := by omega
    rw [e4, e5, List.nil_append, List.drop_replicate, e6]
def loadD (l : List UInt8) (n : Nat) : Dev := { newDev n with laid := laidTo l n n }
theorem load_ok {l : List UInt8} {n : Nat} (h1 : 1 ≤ n) (h2 : n ≤ 4096) : (loadD l n).Ok :=
  ⟨by show 1 ≤ (laidTo l n n).length; rw [laidTo_len]; exact h1, by show (laidTo l n n).length ≤ _; rw [laidTo_len]; exact h2, fun w hw => (by cases hw), List.nodup_nil, fun h => (by cases h)⟩
theorem load_img {l : List UInt8} {n : Nat} (h : l.length = n * 64) : imgL (loadD l n).laid = l := by
  show imgL (laidTo l n n) = l
  rw [laidTo_img h n (Nat.le_refl _), Nat.sub_self, ← h]; simp
theorem tdiv64 (n : Nat) : ((n : Int)).tdiv 64 = ((n / 64 : Nat) : Int) := rfl
theorem rlo_44d (m : Mem) (l : List UInt8) (x : Bool) (kk : IntKind) (lo : Int) (h0 : 0 ≤ lo) (h1 : lo ≤ l.length) : sliceA Try.prog m 44 (.vs (l.map byteC) x) (some (.val (.int kk lo))) none none = some (.vs ((l.drop lo.toNat).map byteC) x) := T_44.rlo byteC_len m l x kk lo h0 h1
theorem C18 (l : List UInt8) (x : Bool) (n : Nat) (h1 : 1 ≤ n) (h2 : n ≤ 4096) (hl : l.length = n * 64) : C Try.prog 18 [.vs (l.map byteC) x] nomem (fun r m' => ∃ N, r = .ptr N 0 ∧ (loadD l n).At N m') := by
  have hq : n * 64 / 64 = n := by omega
  refine C.turn (C18_of ?_)
  unfold k18
  repeat' first
    | simp -dsimp (disch := omega) only [↓rulesA, rulesB, rulesC, Int.reduceLT, nth, upd, put, storeN, AV.one, Nat.reduceBEq, Nat.reduceBNe, Int.reduceBEq, Int.reduceBNe, Int.reduceLE, Int.reduceEq, Int.reduceMod, Int.reduceNeg, boolBin, strBin, intBin, unA, fillA, ne_eq, reduceCtorEq, Nat.reduceAdd, Nat.reduceSub, Nat.reduceLeDiff, Nat.reduceLT, Nat.reduceEqDiff, Int.reduceToNat, eq_self, rulesT, rulesD, tdiv64, *]
    | (refine allK_intro fun n hn => ?_; try simp only [fresh_set] at hn)
    | (refine ifK_intro (fun h => ?_) (fun h => ?_) <;> (try simp only [rulesE] at h) <;> try (exfalso; (try simp only [rulesF] at h); omega))
    | (refine keeps_sub (Mem.sub_set ?_) ?_; focus (simp [Mem.set_at, nomem, *]; done))
  refine call_at (C8 n h1 h2) (nomem_sub _) fun r m1 M1 ⟨N, hr, a0⟩ s0 _ => ?_
  subst hr
  have hn0 : (newDev n).laid.length = n := by simp [newDev]
  obtain ⟨nl, nL, g1, g2, g3, rfl⟩ := a0
  have g1' := Ne.symm g1
  have g2' := Ne.symm g2
  have g3' := Ne.symm g3
  have a1 : M1 N = some (.cells false 65 ((newDev n).own ((newDev n).row nl) nL)) := s0 _ _ (Mem.set_same _ _ _)
  have k0 : ((n * 64 : Nat) : Int) = (n : Int) * 64 := by omega
  repeat' first
    | simp -dsimp (disch := omega) only [↓rulesA, rulesB, rulesC, Int.reduceLT, nth, upd, put, storeN, AV.one, Nat.reduceBEq, Nat.reduceBNe, Int.reduceBEq, Int.reduceBNe, Int.reduceLE, Int.reduceEq, Int.reduceMod, Int.reduceNeg, boolBin, strBin, intBin, unA, fillA, ne_eq, reduceCtorEq, Nat.reduceAdd, Nat.reduceSub, Nat.reduceLeDiff, Nat.reduceLT, Nat.reduceEqDiff, Int.reduceToNat, eq_self, rulesT, rulesD, Dev.row, Dev.o0, Dev.o1, Dev.o2, Dev.o3, Dev.o4, Dev.o5, Dev.o6, Dev.o7, Dev.olen, Dev.s0, Dev.s1, Dev.s2, Dev.s5, Dev.s6, Dev.s7, hn0, *]
    | (refine allK_intro fun n hn => ?_; try simp only [fresh_set] at hn)
    | (refine ifK_intro (fun h => ?_) (fun h => ?_) <;> (try simp only [rulesE] at h) <;> try (exfalso; (try simp only [rulesF] at h); omega))
    | (refine keeps_sub (Mem.sub_set ?_) ?_; focus (simp [Mem.set_at, nomem, *]; done))
  clear k0
  refine loop_intro (fun j env m => ∃ i : Nat, i ≤ n ∧ j = n - i ∧ (({ newDev n with laid := laidTo l n i } : Dev).mem N nl nL).sub m ∧ env.length = 42 ∧ nth env 0 = .vs (l.map byteC) x ∧ nth env 4 = .ptr N 0 ∧ nth env 24 = .val (.int .i64 n) ∧ nth env 25 = .val (.int .i64 i)) n _ (Mem.sub.refl _) ⟨0, by omega, by omega, s0, rfl, rfl, rfl, rfl, rfl⟩ ?_
  clear a1 s0
  rintro j env m ⟨i, hi, rfl, hsub, hlen, e0, e4, e24, e25⟩
  have hll := laidTo_len l n i
  have a1 : m N = some (.cells false 65 (({ newDev n with laid := laidTo l n i } : Dev).own ((newDev n).row nl) nL)) := hsub _ _ (Mem.set_same _ _ _)
  have a2 : m nL = some (.cells false 76 ((laidTo l n i).map Sec.cells).flatten) := hsub _ _ ((Mem.set_ne _ _ g2').trans ((Mem.set_ne _ _ g3').trans (Mem.set_same _ _ _)))
  have a3 : m nl = some (.cells true 97 (([] : List Wr).map Wr.cells).flatten) := hsub _ _ ((Mem.set_ne _ _ g1').trans (Mem.set_same _ _ _))
  have k1 : (i : Int) * 64 = ((i * 64 : Nat) : Int) := by omega
  repeat' first
    | simp -dsimp (disch := omega) only [↓rulesA, rulesB, rulesC, Int.reduceLT, nth, upd, put, storeN, AV.one, Nat.reduceBEq, Nat.reduceBNe, Int.reduceBEq, Int.reduceBNe, Int.reduceLE, Int.reduceEq, Int.reduceMod, Int.reduceNeg, boolBin, strBin, intBin, unA, fillA, ne_eq, reduceCtorEq, Nat.reduceAdd, Nat.reduceSub, Nat.reduceLeDiff, Nat.reduceLT, Nat.reduceEqDiff, Int.reduceToNat, eq_self, rulesT, rulesD, Dev.row, Dev.o0, Dev.o1, Dev.o2, Dev.o3, Dev.o4, Dev.o5, Dev.o6, Dev.o7, Dev.olen, Dev.s0, Dev.s1, Dev.s2, Dev.s5, Dev.s6, Dev.s7, hn0, rlo_44d, Sec.len, Sec.zr, Sec.all, Sec.take, Sec.drop, Sec.put, Sec.rlen, Sec.rpart, Sec.rin, Sec.rset, *]
    | (refine allK_intro fun n hn => ?_; try simp only [fresh_set] at hn)
    | (refine ifK_intro (fun h => ?_) (fun h => ?_) <;> (try simp only [rulesE] at h) <;> try (exfalso; (try simp only [rulesF] at h); omega))
    | (refine keeps_sub (Mem.sub_set ?_) ?_; focus (simp [Mem.set_at, nomem, *]; done))
  · have hdl : 64 ≤ (l.drop (i * 64)).length := by rw [List.length_drop]; omega
    have ht : (((l.drop (i * 64)).take 64).map byteC).flatten = (secAt l i).cells := by
      unfold secAt Sec.cells fillS
      have : 64 - (l.drop (i * 64)).length = 0 := by omega
      simp only [this, List.replicate_zero, List.append_nil]
    repeat' first
      | simp -dsimp (disch := omega) only [↓rulesA, rulesB, rulesC, Int.reduceLT, nth, upd, put, storeN, AV.one, Nat.reduceBEq, Nat.reduceBNe, Int.reduceBEq, Int.reduceBNe, Int.reduceLE, Int.reduceEq, Int.reduceMod, Int.reduceNeg, boolBin, strBin, intBin, unA, fillA, ne_eq, reduceCtorEq, Nat.reduceAdd, Nat.reduceSub, Nat.reduceLeDiff, Nat.reduceLT, Nat.reduceEqDiff, Int.reduceToNat, eq_self, rulesT, rulesD, Dev.row, Dev.o0, Dev.o1, Dev.o2, Dev.o3, Dev.o4, Dev.o5, Dev.o6, Dev.o7, Dev.olen, Dev.s0, Dev.s1, Dev.s2, Dev.s5, Dev.s6, Dev.s7, hn0, rlo_44d, Sec.len, Sec.zr, Sec.all, Sec.take, Sec.drop, Sec.put, Sec.rlen, Sec.rpart, Sec.rin, Sec.rset, ht, *]
      | (refine allK_intro fun n hn => ?_; try simp only [fresh_set] at hn)
      | (refine ifK_intro (fun h => ?_) (fun h => ?_) <;> (try simp only [rulesE] at h) <;> try (exfalso; (try simp only [rulesF] at h); omega))
      | (refine keeps_sub (Mem.sub_set ?_) ?_; focus (simp [Mem.set_at, nomem, *]; done))
    refine again_intro (n - (i + 1)) (by omega) _ (Mem.sub.refl _) ⟨i + 1, by omega, rfl, ?_, ?_, ?_, ?_, ?_, ?_⟩
    · have e : laidTo l n (i + 1) = (laidTo l n i).set i (secAt l i) := rfl
      unfold Dev.mem
      have er : ({ newDev n with laid := laidTo l n (i + 1) } : Dev).own (Dev.row { newDev n with laid := laidTo l n (i + 1) } nl) nL = ({ newDev n with laid := laidTo l n i } : Dev).own ((newDev n).row nl) nL := by
        unfold Dev.own Dev.row
        simp only [laidTo_len]
      rw [er]
      refine Mem.set_sub (Mem.set_sub (Mem.set_sub (nomem_sub _) ?_) ?_) ?_
      · rw [Mem.set_same]; rfl
      · rw [Mem.set_ne _ _ g3, a3]; rfl
      · rw [Mem.set_ne _ _ g2, a1]
    all_goals try (simp (disch := omega) only [nth_upd, pickB_true, pickB_false, inB_lt, upd_len, cast_succ, Int.cast_ofNat_Int, Nat.reduceBEq, beq_self_eq_true, reduceCtorEq, *]; done)
  · have : i = n := by omega
    subst this
    exact .sub (m' := (loadD l i).mem N nl nL) hsub ⟨N, rfl, nl, nL, g1, g2, g3, rfl⟩
theorem C18_no (l : List UInt8) (x : Bool) (h : ¬ (l.length % 64 = 0 ∧ 64 ≤ l.length ∧ l.length ≤ 262144)) (hl : l.length ≤ 140737488355328) : C Try.prog 18 [.vs (l.map byteC) x] nomem (fun r m' => r = .val (.pointer none) ∧ m' = nomem) := by
  refine C.turn (C18_of ?_)
  unfold k18
  repeat' first
    | simp -dsimp (disch := omega) only [↓rulesA, rulesB, rulesC, Int.reduceLT, nth, upd, put, storeN, AV.one, Nat.reduceBEq, Nat.reduceBNe, Int.reduceBEq, Int.reduceBNe, Int.reduceLE, Int.reduceEq, Int.reduceMod, Int.reduceNeg, boolBin, strBin, intBin, unA, fillA, ne_eq, reduceCtorEq, Nat.reduceAdd, Nat.reduceSub, Nat.reduceLeDiff, Nat.reduceLT, Nat.reduceEqDiff, Int.reduceToNat, eq_self, rulesT, rulesD, tdiv64, *]
    | (refine allK_intro fun n hn => ?_; try simp only [fresh_set] at hn)
    | (refine ifK_intro (fun h => ?_) (fun h => ?_) <;> (try simp only [rulesE] at h) <;> try (exfalso; (try simp only [rulesF] at h); omega))
    | (refine keeps_sub (Mem.sub_set ?_) ?_; focus (simp [Mem.set_at, nomem, *]; done))
  by_cases hq : 1 ≤ l.length / 64 ∧ l.length / 64 ≤ 4096
  · refine call_at (C8 _ hq.1 hq.2) (nomem_sub _) fun r m1 M1 ⟨N, hr, a0⟩ s0 _ => ?_
    subst hr
    repeat' first
      | simp -dsimp (disch := omega) only [↓rulesA, rulesB, rulesC, Int.reduceLT, nth, upd, put, storeN, AV.one, Nat.reduceBEq, Nat.reduceBNe, Int.reduceBEq, Int.reduceBNe, Int.reduceLE, Int.reduceEq, Int.reduceMod, Int.reduceNeg, boolBin, strBin, intBin, unA, fillA, ne_eq, reduceCtorEq, Nat.reduceAdd, Nat.reduceSub, Nat.reduceLeDiff, Nat.reduceLT, Nat.reduceEqDiff, Int.reduceToNat, eq_self, rulesT, rulesD, *]
      | (refine allK_intro fun n hn => ?_; try simp only [fresh_set] at hn)
      | (refine ifK_intro (fun h => ?_) (fun h => ?_) <;> (try simp only [rulesE] at h) <;> try (exfalso; (try simp only [rulesF] at h); omega))
      | (refine keeps_sub (Mem.sub_set ?_) ?_; focus (simp [Mem.set_at, nomem, *]; done))
    exact .sub (nomem_sub _) ⟨rfl, rfl⟩
  · refine call_at (C8_no _ (by omega)) (nomem_sub _) fun r m1 M1 ⟨hr, _⟩ s0 _ => ?_
    subst hr
    repeat' first
      | simp -dsimp (disch := omega) only [↓rulesA, rulesB, rulesC, Int.reduceLT, nth, upd, put, storeN, AV.one, Nat.reduceBEq, Nat.reduceBNe, Int.reduceBEq, Int.reduceBNe, Int.reduceLE, Int.reduceEq, Int.reduceMod, Int.reduceNeg, boolBin, strBin, intBin, unA, fillA, ne_eq, reduceCtorEq, Nat.reduceAdd, Nat.reduceSub, Nat.reduceLeDiff, Nat.reduceLT, Nat.reduceEqDiff, Int.reduceToNat, eq_self, rulesT, rulesD, *]
      | (refine allK_intro fun n hn => ?_; try simp only [fresh_set] at hn)
      | (refine ifK_intro (fun h => ?_) (fun h => ?_) <;> (try simp only [rulesE] at h) <;> try (exfalso; (try simp only [rulesF] at h); omega))
      | (refine keeps_sub (Mem.sub_set ?_) ?_; focus (simp [Mem.set_at, nomem, *]; done))
    exact .sub (nomem_sub _) ⟨rfl, rfl⟩
theorem C19_no (l : List UInt8) (x : Bool) (h : ¬ (l.length % 64 = 0 ∧ 64 ≤ l.length ∧ l.length ≤ 262144)) (hl : l.length ≤ 140737488355328) : C Try.prog 19 [.vs (l.map byteC) x] nomem (fun r m' => r = .val (.pointer none)) := by
  refine C19_of ?_
  unfold k19
  repeat' first
    | simp -dsimp (disch := omega) only [↓rulesA, rulesB, rulesC, Int.reduceLT, nth, upd, put, storeN, AV.one, Nat.reduceBEq, Nat.reduceBNe, Int.reduceBEq, Int.reduceBNe, Int.reduceLE, Int.reduceEq, Int.reduceMod, Int.reduceNeg, boolBin, strBin, intBin, unA, fillA, ne_eq, reduceCtorEq, Nat.reduceAdd, Nat.reduceSub, Nat.reduceLeDiff, Nat.reduceLT, Nat.reduceEqDiff, Int.reduceToNat, eq_self, rulesT, rulesD, tdiv64, tmod64, *]
    | (refine allK_intro fun n hn => ?_; try simp only [fresh_set] at hn)
    | (refine ifK_intro (fun h => ?_) (fun h => ?_) <;> (try simp only [rulesE] at h) <;> try (exfalso; (try simp only [rulesF] at h); omega))
    | (refine keeps_sub (Mem.sub_set ?_) ?_; focus (simp [Mem.set_at, nomem, *]; done))
  have hb : (((l.length % 64 : Nat) : Int) != 0) = false := by assumption
  rw [bne_eq_false_iff_eq] at hb
  refine call_at (C41_no _ (by omega)) (nomem_sub _) fun r m1 M1 ⟨hr, _⟩ s0 _ => ?_
  subst hr
  repeat' first
    | simp -dsimp (disch := omega) only [↓rulesA, rulesB, rulesC, Int.reduceLT, nth, upd, put, storeN, AV.one, Nat.reduceBEq, Nat.reduceBNe, Int.reduceBEq, Int.reduceBNe, Int.reduceLE, Int.reduceEq, Int.reduceMod, Int.reduceNeg, boolBin, strBin, intBin, unA, fillA, ne_eq, reduceCtorEq, Nat.reduceAdd, Nat.reduceSub, Nat.reduceLeDiff, Nat.reduceLT, Nat.reduceEqDiff, Int.reduceToNat, eq_self, rulesT, rulesD, *]
    | (refine allK_intro fun n hn => ?_; try simp only [fresh_set] at hn)
    | (refine ifK_intro (fun h => ?_) (fun h => ?_) <;> (try simp only [rulesE] at h) <;> try (exfalso; (try simp only [rulesF] at h); omega))
    | (refine keeps_sub (Mem.sub_set ?_) ?_; focus (simp [Mem.set_at, nomem, *]; done))
theorem C19 (l : List UInt8) (x : Bool) (n : Nat) (h1 : 1 ≤ n) (h2 : n ≤ 4096) (hl : l.length = n * 64) : C Try.prog 19 [.vs (l.map byteC) x] nomem (fun r m' => ∃ N, r = .ptr N 0 ∧ (loadD l n).RAt N m') := by
  have hq : n * 64 / 64 = n := by omega
  have hz : n * 64 % 64 = 0 := by omega
  refine C.turn (C19_of ?_)
  unfold k19
  repeat' first
    | simp -dsimp (disch := omega) only [↓rulesA, rulesB, rulesC, Int.reduceLT, nth, upd, put, storeN, AV.one, Nat.reduceBEq, Nat.reduceBNe, Int.reduceBEq, Int.reduceBNe, Int.reduceLE, Int.reduceEq, Int.reduceMod, Int.reduceNeg, boolBin, strBin, intBin, unA, fillA, ne_eq, reduceCtorEq, Nat.reduceAdd, Nat.reduceSub, Nat.reduceLeDiff, Nat.reduceLT, Nat.reduceEqDiff, Int.reduceToNat, eq_self, rulesT, rulesD, tdiv64, tmod64, *]
    | (refine allK_intro fun n hn => ?_; try simp only [fresh_set] at hn)
    | (refine ifK_intro (fun h => ?_) (fun h => ?_) <;> (try simp only [rulesE] at h) <;> try (exfalso; (try simp only [rulesF] at h); omega))
    | (refine keeps_sub (Mem.sub_set ?_) ?_; focus (simp [Mem.set_at, nomem, *]; done))
  refine call_at (C41 n h1 h2) (nomem_sub _) fun r m1 M1 ⟨N, hr, a0⟩ s0 _ => ?_
  subst hr
  obtain ⟨nC, nD, pk, g1, g2, g3, -, rfl⟩ := a0
  have hn0 : (newDev n).laid.length = n := by simp [newDev]
  have a1 : M1 N = some (.cells false 80 ((newDev n).ro nD ((newDev n).rrow nC) pk)) := s0 _ _ (Mem.set_same _ _ _)
  have a2 : M1 nD = some (.cells false 5 ((imgL (newDev n).laid).map byteC).flatten) := s0 _ _ ((Mem.set_ne _ _ (Ne.symm g2)).trans ((Mem.set_ne _ _ (Ne.symm g3)).trans (Mem.set_same _ _ _)))
  have a3 : M1 nC = some (.cells true 102 (([] : List Wr).map slotC).flatten) := s0 _ _ ((Mem.set_ne _ _ (Ne.symm g1)).trans (Mem.set_same _ _ _))
  repeat' first
    | simp -dsimp (disch := omega) only [↓rulesA, rulesB, rulesC, Int.reduceLT, nth, upd, put, storeN, AV.one, Nat.reduceBEq, Nat.reduceBNe, Int.reduceBEq, Int.reduceBNe, Int.reduceLE, Int.reduceEq, Int.reduceMod, Int.reduceNeg, boolBin, strBin, intBin, unA, fillA, ne_eq, reduceCtorEq, Nat.reduceAdd, Nat.reduceSub, Nat.reduceLeDiff, Nat.reduceLT, Nat.reduceEqDiff, Int.reduceToNat, eq_self, rulesT, rulesD, Dev.rrow, Dev.ro, Dev.t4, Dev.p0, Dev.p1, Dev.p2, Dev.p3, Dev.p4, Dev.p5, Dev.p6, Dev.p7, Dev.plen, Dev.t2, Dev.t3, Dev.t5, Dev.t6, Dev.t7, hn0, *]
    | (refine allK_intro fun n hn => ?_; try simp only [fresh_set] at hn)
    | (refine ifK_intro (fun h => ?_) (fun h => ?_) <;> (try simp only [rulesE] at h) <;> try (exfalso; (try simp only [rulesF] at h); omega))
    | (refine keeps_sub (Mem.sub_set ?_) ?_; focus (simp [Mem.set_at, nomem, *]; done))
  refine copy_own ti_44 rfl ti_5 (k := n * 64) (q := n * 64) (src := (l.map byteC).flatten) a2 (by simp [lenS, hl]) ?_ ?_ ?_ ?_
  · rw [Nat.min_self]
    simp only [truncA, ← List.map_take, ← hl, List.take_length]
    exact src_44 _ _ _
  · rw [flatten_one, hl, Nat.min_self]; show _ = n * 64 * 1; omega
  · rw [flatten_one, imgL_len, hn0]; show 0 + n * 64 * 1 ≤ n * 64; omega
  · have e : setRange ((imgL (newDev n).laid).map byteC).flatten 0 (l.map byteC).flatten = ((imgL (loadD l n).laid).map byteC).flatten := by
      rw [load_img hl]
      unfold setRange
      rw [List.take_zero, List.nil_append, List.drop_eq_nil_of_le (by rw [flatten_one, flatten_one, imgL_len, hn0, hl]; omega), List.append_nil]
    rw [e]
    repeat' first
      | simp -dsimp (disch := omega) only [↓rulesA, rulesB, rulesC, Int.reduceLT, nth, upd, put, storeN, AV.one, Nat.reduceBEq, Nat.reduceBNe, Int.reduceBEq, Int.reduceBNe, Int.reduceLE, Int.reduceEq, Int.reduceMod, Int.reduceNeg, boolBin, strBin, intBin, unA, fillA, ne_eq, reduceCtorEq, Nat.reduceAdd, Nat.reduceSub, Nat.reduceLeDiff, Nat.reduceLT, Nat.reduceEqDiff, Int.reduceToNat, eq_self, rulesT, rulesD, *]
      | (refine allK_intro fun n hn => ?_; try simp only [fresh_set] at hn)
      | (refine ifK_intro (fun h => ?_) (fun h => ?_) <;> (try simp only [rulesE] at h) <;> try (exfalso; (try simp only [rulesF] at h); omega))
      | (refine keeps_sub (Mem.sub_set ?_) ?_; focus (simp [Mem.set_at, nomem, *]; done))
    refine .sub (m' := (loadD l n).rmem N nC nD pk) ?_ ⟨N, rfl, nC, nD, pk, g1, g2, g3, fun h => (by cases h), rfl⟩
    unfold Dev.rmem
    have er : (loadD l n).ro nD ((loadD l n).rrow nC) pk = (newDev n).ro nD ((newDev n).rrow nC) pk := by
      unfold Dev.ro Dev.rl
      have e1 : (loadD l n).laid.length = (newDev n).laid.length := by rw [hn0]; exact laidTo_len l n n
      rw [e1]; rfl
    rw [er]
    refine Mem.set_sub (Mem.set_sub (Mem.set_sub (nomem_sub _) ?_) ?_) ?_
    · rw [Mem.set_same]
    · rw [Mem.set_ne _ _ g3, a3]; rfl
    · rw [Mem.set_ne _ _ g2, a1]
end Go.Proofs.Ytlkeailgccbmbaa
