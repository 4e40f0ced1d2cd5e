/- Package 20: the dups of a log (P20.5). -/
import Derived.Test.YtoankcclbnnfiaaD17
import Derived.Test.YtoankcclbnnfiaaA24
set_option maxRecDepth 100000
set_option maxHeartbeats 1000000
set_option linter.unusedSimpArgs false
set_option linter.unusedVariables false
namespace Go.Proofs.Ytoankcclbnnfiaa
open Go.Abs
attribute [local irreducible] C X CC Y CV CW binK litK AppK PureC PureCV againK loopV rangeV allK ifK got onB condK V stepsK planK opK firstK seeE keepsK

structure Entry where
  epoch : Int
  ver : Int
  client : Int
  inst : Int
  tid : Int
  kind : Int
  name : ByteArray
  off : Int
  num : Int
  data : ByteArray
  err : Int
  rnum : Int
  rinst : Int
  rdata : ByteArray
instance : Inhabited Entry := ⟨⟨0, 0, 0, 0, 0, 0, .empty, 0, 0, .empty, 0, 0, 0, .empty⟩⟩
def Entry.cells (d : Entry) : List AV := [.val (.int .i64 d.epoch), .val (.int .i64 d.ver), .val (.int .i64 d.client), .val (.int .i64 d.inst), .val (.int .i64 d.tid), .val (.int .i64 d.kind), .val (.string d.name), .val (.int .i64 d.off), .val (.int .i64 d.num), .val (.string d.data), .val (.int .i64 d.err), .val (.int .i64 d.rnum), .val (.int .i64 d.rinst), .val (.string d.rdata)]
theorem Entry.g0 (d : Entry) : d.cells[0]? = some (.val (.int .i64 d.epoch)) := rfl
theorem Entry.s0 (d : Entry) (v : Int) : setRange d.cells 0 [.val (.int .i64 v)] = ({ d with epoch := v } : Entry).cells := rfl
theorem Entry.g1 (d : Entry) : d.cells[1]? = some (.val (.int .i64 d.ver)) := rfl
theorem Entry.s1 (d : Entry) (v : Int) : setRange d.cells 1 [.val (.int .i64 v)] = ({ d with ver := v } : Entry).cells := rfl
theorem Entry.g2 (d : Entry) : d.cells[2]? = some (.val (.int .i64 d.client)) := rfl
theorem Entry.s2 (d : Entry) (v : Int) : setRange d.cells 2 [.val (.int .i64 v)] = ({ d with client := v } : Entry).cells := rfl
theorem Entry.g3 (d : Entry) : d.cells[3]? = some (.val (.int .i64 d.inst)) := rfl
theorem Entry.s3 (d : Entry) (v : Int) : setRange d.cells 3 [.val (.int .i64 v)] = ({ d with inst := v } : Entry).cells := rfl
theorem Entry.g4 (d : Entry) : d.cells[4]? = some (.val (.int .i64 d.tid)) := rfl
theorem Entry.s4 (d : Entry) (v : Int) : setRange d.cells 4 [.val (.int .i64 v)] = ({ d with tid := v } : Entry).cells := rfl
theorem Entry.g5 (d : Entry) : d.cells[5]? = some (.val (.int .i64 d.kind)) := rfl
theorem Entry.s5 (d : Entry) (v : Int) : setRange d.cells 5 [.val (.int .i64 v)] = ({ d with kind := v } : Entry).cells := rfl
theorem Entry.g6 (d : Entry) : d.cells[6]? = some (.val (.string d.name)) := rfl
theorem Entry.s6 (d : Entry) (v : ByteArray) : setRange d.cells 6 [.val (.string v)] = ({ d with name := v } : Entry).cells := rfl
theorem Entry.g7 (d : Entry) : d.cells[7]? = some (.val (.int .i64 d.off)) := rfl
theorem Entry.s7 (d : Entry) (v : Int) : setRange d.cells 7 [.val (.int .i64 v)] = ({ d with off := v } : Entry).cells := rfl
theorem Entry.g8 (d : Entry) : d.cells[8]? = some (.val (.int .i64 d.num)) := rfl
theorem Entry.s8 (d : Entry) (v : Int) : setRange d.cells 8 [.val (.int .i64 v)] = ({ d with num := v } : Entry).cells := rfl
theorem Entry.g9 (d : Entry) : d.cells[9]? = some (.val (.string d.data)) := rfl
theorem Entry.s9 (d : Entry) (v : ByteArray) : setRange d.cells 9 [.val (.string v)] = ({ d with data := v } : Entry).cells := rfl
theorem Entry.g10 (d : Entry) : d.cells[10]? = some (.val (.int .i64 d.err)) := rfl
theorem Entry.s10 (d : Entry) (v : Int) : setRange d.cells 10 [.val (.int .i64 v)] = ({ d with err := v } : Entry).cells := rfl
theorem Entry.g11 (d : Entry) : d.cells[11]? = some (.val (.int .i64 d.rnum)) := rfl
theorem Entry.s11 (d : Entry) (v : Int) : setRange d.cells 11 [.val (.int .i64 v)] = ({ d with rnum := v } : Entry).cells := rfl
theorem Entry.g12 (d : Entry) : d.cells[12]? = some (.val (.int .i64 d.rinst)) := rfl
theorem Entry.s12 (d : Entry) (v : Int) : setRange d.cells 12 [.val (.int .i64 v)] = ({ d with rinst := v } : Entry).cells := rfl
theorem Entry.g13 (d : Entry) : d.cells[13]? = some (.val (.string d.rdata)) := rfl
theorem Entry.s13 (d : Entry) (v : ByteArray) : setRange d.cells 13 [.val (.string v)] = ({ d with rdata := v } : Entry).cells := rfl
theorem Entry.len (d : Entry) : d.cells.length = 14 := rfl
theorem Entry.take (d : Entry) : d.cells.take 14 = d.cells := rfl
theorem Entry.rall (l : List Entry) : (l.map Entry.cells).flatten.all AV.one = true := by
  rw [List.all_eq_true]
  intro x hx
  obtain ⟨e, he, hx⟩ := List.mem_flatten.1 hx
  obtain ⟨a, _, rfl⟩ := List.mem_map.1 he
  exact List.all_eq_true.1 (show a.cells.all AV.one = true from rfl) x hx
theorem Entry.rlen (l : List Entry) : (l.map Entry.cells).flatten.length = l.length * 14 := row_len Entry.cells (fun _ => rfl) l
theorem Entry.rat (l : List Entry) (k j : Nat) (hk : k < l.length) (hj : j < 14) : (l.map Entry.cells).flatten[k * 14 + j]? = (l.getD k default).cells[j]? := row_at Entry.cells (fun _ => rfl) l hk hj
theorem Entry.rat0 (l : List Entry) (k : Nat) (hk : k < l.length) : (l.map Entry.cells).flatten[k * 14]? = (l.getD k default).cells[0]? := row_at Entry.cells (s := 14) (fun _ => rfl) l (j := 0) hk (Nat.zero_lt_succ _)
theorem Entry.rpart (l : List Entry) (k : Nat) (hk : k < l.length) : ((l.map Entry.cells).flatten.drop (k * 14)).take 14 = (l.getD k default).cells := row_part Entry.cells (fun _ => rfl) l hk
theorem Entry.rin (l : List Entry) (k j : Nat) (hk : k < l.length) (hj : j ≤ 14) : (k * 14 + j ≤ (l.map Entry.cells).flatten.length) = True := eq_true (row_in Entry.cells (fun _ => rfl) l hk hj)
theorem Entry.rset (l : List Entry) (k : Nat) (hk : k < l.length) (d : Entry) : setRange (l.map Entry.cells).flatten (k * 14) d.cells = ((l.set k d).map Entry.cells).flatten := row_set Entry.cells (fun _ => rfl) l hk d
theorem Entry.rf0 (l : List Entry) (k : Nat) (hk : k < l.length) (v : Int) : setRange (l.map Entry.cells).flatten (k * 14 + 0) [.val (.int .i64 v)] = ((l.set k { l.getD k default with epoch := v }).map Entry.cells).flatten := row_field Entry.cells (s := 14) (fun _ => rfl) l hk _ _ rfl (by decide)
theorem Entry.rfz (l : List Entry) (k : Nat) (hk : k < l.length) (v : Int) : setRange (l.map Entry.cells).flatten (k * 14) [.val (.int .i64 v)] = ((l.set k { l.getD k default with epoch := v }).map Entry.cells).flatten := row_field Entry.cells (s := 14) (j := 0) (fun _ => rfl) l hk _ _ rfl (by decide)
theorem Entry.rf1 (l : List Entry) (k : Nat) (hk : k < l.length) (v : Int) : setRange (l.map Entry.cells).flatten (k * 14 + 1) [.val (.int .i64 v)] = ((l.set k { l.getD k default with ver := v }).map Entry.cells).flatten := row_field Entry.cells (s := 14) (fun _ => rfl) l hk _ _ rfl (by decide)
theorem Entry.rf2 (l : List Entry) (k : Nat) (hk : k < l.length) (v : Int) : setRange (l.map Entry.cells).flatten (k * 14 + 2) [.val (.int .i64 v)] = ((l.set k { l.getD k default with client := v }).map Entry.cells).flatten := row_field Entry.cells (s := 14) (fun _ => rfl) l hk _ _ rfl (by decide)
theorem Entry.rf3 (l : List Entry) (k : Nat) (hk : k < l.length) (v : Int) : setRange (l.map Entry.cells).flatten (k * 14 + 3) [.val (.int .i64 v)] = ((l.set k { l.getD k default with inst := v }).map Entry.cells).flatten := row_field Entry.cells (s := 14) (fun _ => rfl) l hk _ _ rfl (by decide)
theorem Entry.rf4 (l : List Entry) (k : Nat) (hk : k < l.length) (v : Int) : setRange (l.map Entry.cells).flatten (k * 14 + 4) [.val (.int .i64 v)] = ((l.set k { l.getD k default with tid := v }).map Entry.cells).flatten := row_field Entry.cells (s := 14) (fun _ => rfl) l hk _ _ rfl (by decide)
theorem Entry.rf5 (l : List Entry) (k : Nat) (hk : k < l.length) (v : Int) : setRange (l.map Entry.cells).flatten (k * 14 + 5) [.val (.int .i64 v)] = ((l.set k { l.getD k default with kind := v }).map Entry.cells).flatten := row_field Entry.cells (s := 14) (fun _ => rfl) l hk _ _ rfl (by decide)
theorem Entry.rf6 (l : List Entry) (k : Nat) (hk : k < l.length) (v : ByteArray) : setRange (l.map Entry.cells).flatten (k * 14 + 6) [.val (.string v)] = ((l.set k { l.getD k default with name := v }).map Entry.cells).flatten := row_field Entry.cells (s := 14) (fun _ => rfl) l hk _ _ rfl (by decide)
theorem Entry.rf7 (l : List Entry) (k : Nat) (hk : k < l.length) (v : Int) : setRange (l.map Entry.cells).flatten (k * 14 + 7) [.val (.int .i64 v)] = ((l.set k { l.getD k default with off := v }).map Entry.cells).flatten := row_field Entry.cells (s := 14) (fun _ => rfl) l hk _ _ rfl (by decide)
theorem Entry.rf8 (l : List Entry) (k : Nat) (hk : k < l.length) (v : Int) : setRange (l.map Entry.cells).flatten (k * 14 + 8) [.val (.int .i64 v)] = ((l.set k { l.getD k default with num := v }).map Entry.cells).flatten := row_field Entry.cells (s := 14) (fun _ => rfl) l hk _ _ rfl (by decide)
theorem Entry.rf9 (l : List Entry) (k : Nat) (hk : k < l.length) (v : ByteArray) : setRange (l.map Entry.cells).flatten (k * 14 + 9) [.val (.string v)] = ((l.set k { l.getD k default with data := v }).map Entry.cells).flatten := row_field Entry.cells (s := 14) (fun _ => rfl) l hk _ _ rfl (by decide)
theorem Entry.rf10 (l : List Entry) (k : Nat) (hk : k < l.length) (v : Int) : setRange (l.map Entry.cells).flatten (k * 14 + 10) [.val (.int .i64 v)] = ((l.set k { l.getD k default with err := v }).map Entry.cells).flatten := row_field Entry.cells (s := 14) (fun _ => rfl) l hk _ _ rfl (by decide)
theorem Entry.rf11 (l : List Entry) (k : Nat) (hk : k < l.length) (v : Int) : setRange (l.map Entry.cells).flatten (k * 14 + 11) [.val (.int .i64 v)] = ((l.set k { l.getD k default with rnum := v }).map Entry.cells).flatten := row_field Entry.cells (s := 14) (fun _ => rfl) l hk _ _ rfl (by decide)
theorem Entry.rf12 (l : List Entry) (k : Nat) (hk : k < l.length) (v : Int) : setRange (l.map Entry.cells).flatten (k * 14 + 12) [.val (.int .i64 v)] = ((l.set k { l.getD k default with rinst := v }).map Entry.cells).flatten := row_field Entry.cells (s := 14) (fun _ => rfl) l hk _ _ rfl (by decide)
theorem Entry.rf13 (l : List Entry) (k : Nat) (hk : k < l.length) (v : ByteArray) : setRange (l.map Entry.cells).flatten (k * 14 + 13) [.val (.string v)] = ((l.set k { l.getD k default with rdata := v }).map Entry.cells).flatten := row_field Entry.cells (s := 14) (fun _ => rfl) l hk _ _ rfl (by decide)
theorem Entry.sall (d e : Entry) : setRange d.cells 0 e.cells = e.cells := rfl
theorem Entry.slit (d : Entry) (a0 a1 a2 a3 a4 a5 a6 a7 a8 a9 a10 a11 a12 a13 : AV) : setRange d.cells 0 [a0, a1, a2, a3, a4, a5, a6, a7, a8, a9, a10, a11, a12, a13] = [a0, a1, a2, a3, a4, a5, a6, a7, a8, a9, a10, a11, a12, a13] := rfl
theorem Entry.drop (d : Entry) : d.cells.drop 14 = [] := rfl
theorem Entry.all (d : Entry) : d.cells.all AV.one = true := rfl
theorem Entry.mk_agg (epoch : Int) (ver : Int) (client : Int) (inst : Int) (tid : Int) (kind : Int) (name : ByteArray) (off : Int) (num : Int) (data : ByteArray) (err : Int) (rnum : Int) (rinst : Int) (rdata : ByteArray) : AV.agg [.val (.int .i64 epoch), .val (.int .i64 ver), .val (.int .i64 client), .val (.int .i64 inst), .val (.int .i64 tid), .val (.int .i64 kind), .val (.string name), .val (.int .i64 off), .val (.int .i64 num), .val (.string data), .val (.int .i64 err), .val (.int .i64 rnum), .val (.int .i64 rinst), .val (.string rdata)] = .agg (Entry.cells ⟨epoch, ver, client, inst, tid, kind, name, off, num, data, err, rnum, rinst, rdata⟩) := rfl
def Entry.ok (d : Entry) : Prop := (-9223372036854775808 ≤ d.epoch ∧ d.epoch ≤ 9223372036854775807) ∧ (-9223372036854775808 ≤ d.ver ∧ d.ver ≤ 9223372036854775807) ∧ (-9223372036854775808 ≤ d.client ∧ d.client ≤ 9223372036854775807) ∧ (-9223372036854775808 ≤ d.inst ∧ d.inst ≤ 9223372036854775807) ∧ (-9223372036854775808 ≤ d.tid ∧ d.tid ≤ 9223372036854775807) ∧ (-9223372036854775808 ≤ d.kind ∧ d.kind ≤ 9223372036854775807) ∧ d.name.size ≤ 140737488351232 ∧ (-9223372036854775808 ≤ d.off ∧ d.off ≤ 9223372036854775807) ∧ (-9223372036854775808 ≤ d.num ∧ d.num ≤ 9223372036854775807) ∧ d.data.size ≤ 140737488351232 ∧ (-9223372036854775808 ≤ d.err ∧ d.err ≤ 9223372036854775807) ∧ (-9223372036854775808 ≤ d.rnum ∧ d.rnum ≤ 9223372036854775807) ∧ (-9223372036854775808 ≤ d.rinst ∧ d.rinst ≤ 9223372036854775807) ∧ d.rdata.size ≤ 140737488351232
theorem Entry.of_shaped {cs : List AV} (h : Shaped Try.prog 58 cs) (hc : cs.length = 14) : ∃ d : Entry, cs = d.cells ∧ d.ok := by
  have h := Shaped.leaves laidOut 8 58 [2, 2, 3, 2, 2, 3, 9, 2, 2, 9, 27, 2, 2, 9] cs (of_decide_eq_true (by kernel_rfl)) (by kernel_rfl) h (hc.trans (cells_size ti_58).symm)
  match cs, h with
  | [c0, c1, c2, c3, c4, c5, c6, c7, c8, c9, c10, c11, c12, c13], ⟨h0, h1, h2, h3, h4, h5, h6, h7, h8, h9, h10, h11, h12, h13, _⟩ =>
    obtain ⟨x0, rfl, w0⟩ := h0.i64 ti_2 rfl
    obtain ⟨x1, rfl, w1⟩ := h1.i64 ti_2 rfl
    obtain ⟨x2, rfl, w2⟩ := h2.i64 ti_3 rfl
    obtain ⟨x3, rfl, w3⟩ := h3.i64 ti_2 rfl
    obtain ⟨x4, rfl, w4⟩ := h4.i64 ti_2 rfl
    obtain ⟨x5, rfl, w5⟩ := h5.i64 ti_3 rfl
    obtain ⟨x6, rfl, w6⟩ := h6.str ti_9 rfl
    obtain ⟨x7, rfl, w7⟩ := h7.i64 ti_2 rfl
    obtain ⟨x8, rfl, w8⟩ := h8.i64 ti_2 rfl
    obtain ⟨x9, rfl, w9⟩ := h9.str ti_9 rfl
    obtain ⟨x10, rfl, w10⟩ := h10.i64 ti_27 rfl
    obtain ⟨x11, rfl, w11⟩ := h11.i64 ti_2 rfl
    obtain ⟨x12, rfl, w12⟩ := h12.i64 ti_2 rfl
    obtain ⟨x13, rfl, w13⟩ := h13.str ti_9 rfl
    exact ⟨⟨x0, x1, x2, x3, x4, x5, x6, x7, x8, x9, x10, x11, x12, x13⟩, rfl, w0, w1, w2, w3, w4, w5, w6, w7, w8, w9, w10, w11, w12, w13⟩
def Entry.req (e : Entry) : Req := ⟨e.client, e.inst, e.tid, e.kind, e.name, e.off, e.num, e.data⟩
def Entry.res (e : Entry) : Res := ⟨e.err, e.rnum, e.rinst, e.rdata⟩
theorem Entry.part2 (e : Entry) : List.take 8 (List.drop 2 e.cells) = e.req.cells := rfl
theorem Entry.part10 (e : Entry) : List.take 4 (List.drop 10 e.cells) = e.res.cells := rfl
theorem ix_51 (l : List Entry) (x : Bool) (kk : IntKind) (k : Int) (h0 : 0 ≤ k) (h1 : k < l.length) : indexAddrA Try.prog 51 (.vs (l.map Entry.cells) x) (.val (.int kk k)) = some (.vp (Entry.cells (l.getD k.toNat default)) 0) := index_vs Entry.cells ti_51 rfl ti_58 (fun _ => rfl) l x kk k h0 h1
def ofTo (l : List Dup) (es : List Entry) : Nat → List Dup
  | 0 => l
  | i + 1 => if reqB (es.getD i default).req then note (ofTo l es i) (es.getD i default).req (es.getD i default).res else ofTo l es i
theorem of_fit {l : List Dup} (h : Fit l) (es : List Entry) : ∀ i, Fit (ofTo l es i)
  | 0 => h
  | i + 1 => by
    unfold ofTo
    split
    · rename_i hr; exact note_Fit (of_fit h es i) hr
    · exact of_fit h es i
theorem ofTo_yes {l : List Dup} {es : List Entry} {i : Nat} (h : reqB (es.getD i default).req = true) : ofTo l es (i + 1) = note (ofTo l es i) (es.getD i default).req (es.getD i default).res := if_pos h
theorem ofTo_no {l : List Dup} {es : List Entry} {i : Nat} (h : reqB (es.getD i default).req = false) : ofTo l es (i + 1) = ofTo l es i := if_neg (by rw [h]; simp)
theorem req_stamp (r : Req) : stampB r.client r.inst r.tid = reqB r := rfl
theorem F25 {l : List Dup} (h : Fit l) (x : Bool) (es : List Entry) (y : Bool) (hes : es.length ≤ 140737488355320) :
    F Try.prog 25 [.vs (l.map Dup.cells) x, .vs (es.map Entry.cells) y] (.vs ((ofTo l es es.length).map Dup.cells) false) := by
  refine F25_of ?_
  unfold k25
  repeat' first
    | simp -dsimp (disch := omega) only [↓rulesA, rulesB, rulesC, Int.reduceLT, nth, upd, put, storeN, AV.one, Nat.reduceBEq, Nat.reduceBNe, Int.reduceBEq, Int.reduceBNe, Int.reduceLE, boolBin, strBin, intBin, unA, buildA, placesA, fillA, ne_eq, reduceCtorEq, Nat.reduceAdd, Nat.reduceSub, Nat.reduceLeDiff, Nat.reduceLT, Nat.reduceEqDiff, Int.reduceToNat, eq_self, rulesT, *]
    | (refine allK_intro fun n hn => ?_; try simp only [fresh_set] at hn)
    | (refine ifK_intro (fun h => ?_) (fun h => ?_) <;> (try simp only [decide_eq_true_eq, decide_eq_false_iff_not, Bool.not_eq_true', Bool.not_eq_false'] at h) <;> try (exfalso; (try simp only [beq_iff_eq, beq_eq_false_iff_ne, bne_iff_ne, bne_eq_false_iff_eq, ne_eq] at h); omega))
    | (refine keeps_sub (Mem.sub_set (by simp [Mem.set_at, nomem, *])) ?_)
  refine call_O (O34 l x (by have := h.1; omega)) (Seens.refl _ _) (dup_vals _) fun n1 hn1 => ?_
  repeat' first
    | simp -dsimp (disch := omega) only [↓rulesA, rulesB, rulesC, Int.reduceLT, nth, upd, put, storeN, AV.one, Nat.reduceBEq, Nat.reduceBNe, Int.reduceBEq, Int.reduceBNe, Int.reduceLE, boolBin, strBin, intBin, unA, buildA, placesA, fillA, ne_eq, reduceCtorEq, Nat.reduceAdd, Nat.reduceSub, Nat.reduceLeDiff, Nat.reduceLT, Nat.reduceEqDiff, Int.reduceToNat, eq_self, rulesT, *]
    | (refine allK_intro fun n hn => ?_; try simp only [fresh_set] at hn)
    | (refine ifK_intro (fun h => ?_) (fun h => ?_) <;> (try simp only [decide_eq_true_eq, decide_eq_false_iff_not, Bool.not_eq_true', Bool.not_eq_false'] at h) <;> try (exfalso; (try simp only [beq_iff_eq, beq_eq_false_iff_ne, bne_iff_ne, bne_eq_false_iff_eq, ne_eq] at h); omega))
    | (refine keeps_sub (Mem.sub_set (by simp [Mem.set_at, nomem, *])) ?_)
  refine loop_intro (fun j env m => ∃ (i n1 : Nat), i ≤ es.length ∧ j = es.length - i ∧ m = nomem.set n1 (.cells true 39 ((ofTo l es i).map Dup.cells).flatten) ∧ env.length = 28 ∧
    nth env 5 = .sl n1 0 (ofTo l es i).length (ofTo l es i).length ∧ nth env 10 = .vs (es.map Entry.cells) y ∧ nth env 11 = .val (.int .i64 es.length) ∧ nth env 12 = .val (.int .i64 i)) es.length _ (fun _ _ h => h) ⟨0, n1, by omega, by omega, rfl, rfl, rfl, rfl, rfl, rfl⟩ ?_
  clear hn1 n1
  rintro j env m ⟨i, n1, hi, rfl, rfl, hlen, e5, e10, e11, e12⟩
  have hpf := of_fit h es i
  repeat' first
    | simp -dsimp (disch := omega) only [↓rulesA, rulesB, rulesC, Int.reduceLT, nth, upd, put, storeN, AV.one, Nat.reduceBEq, Nat.reduceBNe, Int.reduceBEq, Int.reduceBNe, Int.reduceLE, boolBin, strBin, intBin, unA, buildA, placesA, fillA, ne_eq, reduceCtorEq, Nat.reduceAdd, Nat.reduceSub, Nat.reduceLeDiff, Nat.reduceLT, Nat.reduceEqDiff, Int.reduceToNat, eq_self, rulesT, ix_51, Entry.len, Entry.take, Entry.all, Entry.drop, Entry.part2, Entry.part10, Req.g0, Req.g1, Req.g2, Req.g3, Req.g4, Req.g5, Req.g6, Req.g7, Req.len, Req.take, Req.all, Req.drop, Req.sall, Req.slit, Res.g0, Res.g1, Res.g2, Res.g3, Res.len, Res.all, Res.take, Res.drop, Res.sall, Res.slit, req_stamp, *]
    | (refine allK_intro fun n hn => ?_; try simp only [fresh_set] at hn)
    | (refine ifK_intro (fun h => ?_) (fun h => ?_) <;> (try simp only [decide_eq_true_eq, decide_eq_false_iff_not, Bool.not_eq_true', Bool.not_eq_false'] at h) <;> try (exfalso; (try simp only [beq_iff_eq, beq_eq_false_iff_ne, bne_iff_ne, bne_eq_false_iff_eq, ne_eq] at h); omega))
    | (refine keeps_sub (Mem.sub_set (by simp [Mem.set_at, nomem, *])) ?_)
    | (refine call_F (F30 _) (Seens.refl _ _) ?_)
    | (refine pure_F (F30 _) (Seens.refl _ _) ?_)
    | (refine call_F (F38 _ _ _) (Seens.refl _ _) ?_)
    | (refine pure_F (F38 _ _ _) (Seens.refl _ _) ?_)
  · have e := ofTo_yes (l := l) ‹reqB (es.getD i default).req = true›
    refine call_O (N15 hpf false (es.getD i default).req (es.getD i default).res) (Seens.cons (Seen.row Dup.cells (s := 7) (opn := true) (t := 39) (fun _ => rfl) _ (by simp [Mem.set_at, *])) (Seens.refl _ _)) (dup_vals _) fun n4 hn4 => ?_
    simp only [fresh_set] at hn4
    repeat' first
      | simp -dsimp (disch := omega) only [↓rulesA, rulesB, rulesC, Int.reduceLT, nth, upd, put, storeN, AV.one, Nat.reduceBEq, Nat.reduceBNe, Int.reduceBEq, Int.reduceBNe, Int.reduceLE, boolBin, strBin, intBin, unA, buildA, placesA, fillA, ne_eq, reduceCtorEq, Nat.reduceAdd, Nat.reduceSub, Nat.reduceLeDiff, Nat.reduceLT, Nat.reduceEqDiff, Int.reduceToNat, eq_self, rulesT, *]
      | (refine allK_intro fun n hn => ?_; try simp only [fresh_set] at hn)
      | (refine ifK_intro (fun h => ?_) (fun h => ?_) <;> (try simp only [decide_eq_true_eq, decide_eq_false_iff_not, Bool.not_eq_true', Bool.not_eq_false'] at h) <;> try (exfalso; (try simp only [beq_iff_eq, beq_eq_false_iff_ne, bne_iff_ne, bne_eq_false_iff_eq, ne_eq] at h); omega))
      | (refine keeps_sub (Mem.sub_set (by simp [Mem.set_at, nomem, *])) ?_)
    refine again_intro (es.length - (i + 1)) (by omega) (nomem.set n4 (.cells true 39 ((ofTo l es (i + 1)).map Dup.cells).flatten)) ?_ ⟨i + 1, n4, by omega, rfl, rfl, ?_, ?_, ?_, ?_, ?_⟩
    · refine nomem_set_sub ?_; simp [Mem.set_at, *]
    all_goals try (simp (disch := omega) only [nth_upd, pickB_true, pickB_false, inB_lt, upd_len, cast_succ, Nat.reduceBEq, beq_self_eq_true, reduceCtorEq, *]; done)
  · have e := ofTo_no (l := l) ‹reqB (es.getD i default).req = false›
    refine again_intro (es.length - (i + 1)) (by omega) (nomem.set n1 (.cells true 39 ((ofTo l es (i + 1)).map Dup.cells).flatten)) ?_ ⟨i + 1, n1, by omega, rfl, rfl, ?_, ?_, ?_, ?_, ?_⟩
    · refine nomem_set_sub ?_; simp [Mem.set_at, *]
    all_goals try (simp (disch := omega) only [nth_upd, pickB_true, pickB_false, inB_lt, upd_len, cast_succ, Nat.reduceBEq, beq_self_eq_true, reduceCtorEq, *]; done)
  · have : i = es.length := by omega
    subst this
    exact New.row Dup.cells (s := 7) (opn := true) (t := 39) (fun _ => rfl) (fun _ => rfl) _ (Mem.set_same _ _ _)
theorem F26 {l : List Dup} (h : Fit l) (x : Bool) (es : List Entry) (y : Bool) (hes : es.length ≤ 140737488355320) :
    F Try.prog 26 [.vs (l.map Dup.cells) x, .vs (es.map Entry.cells) y] (.vs ((ofTo l es es.length).map Dup.cells) false) := by
  refine F26_of ?_
  unfold k26
  repeat' first
    | simp -dsimp (disch := omega) only [↓rulesA, rulesB, rulesC, Int.reduceLT, nth, upd, put, storeN, AV.one, Nat.reduceBEq, Nat.reduceBNe, Int.reduceBEq, Int.reduceBNe, Int.reduceLE, boolBin, strBin, intBin, unA, buildA, placesA, fillA, ne_eq, reduceCtorEq, Nat.reduceAdd, Nat.reduceSub, Nat.reduceLeDiff, Nat.reduceLT, Nat.reduceEqDiff, Int.reduceToNat, eq_self, rulesT, *]
    | (refine allK_intro fun n hn => ?_; try simp only [fresh_set] at hn)
    | (refine ifK_intro (fun h => ?_) (fun h => ?_) <;> (try simp only [decide_eq_true_eq, decide_eq_false_iff_not, Bool.not_eq_true', Bool.not_eq_false'] at h) <;> try (exfalso; (try simp only [beq_iff_eq, beq_eq_false_iff_ne, bne_iff_ne, bne_eq_false_iff_eq, ne_eq] at h); omega))
    | (refine keeps_sub (Mem.sub_set (by simp [Mem.set_at, nomem, *])) ?_)
  refine append_nil app_22 (src_22 _ l x) (show l.length * 64 ≤ 140737488355328 by have := h.1; omega) fun n1 hn1 => ?_
  repeat' first
    | simp -dsimp (disch := omega) only [↓rulesA, rulesB, rulesC, Int.reduceLT, nth, upd, put, storeN, AV.one, Nat.reduceBEq, Nat.reduceBNe, Int.reduceBEq, Int.reduceBNe, Int.reduceLE, boolBin, strBin, intBin, unA, buildA, placesA, fillA, ne_eq, reduceCtorEq, Nat.reduceAdd, Nat.reduceSub, Nat.reduceLeDiff, Nat.reduceLT, Nat.reduceEqDiff, Int.reduceToNat, eq_self, rulesT, *]
    | (refine allK_intro fun n hn => ?_; try simp only [fresh_set] at hn)
    | (refine ifK_intro (fun h => ?_) (fun h => ?_) <;> (try simp only [decide_eq_true_eq, decide_eq_false_iff_not, Bool.not_eq_true', Bool.not_eq_false'] at h) <;> try (exfalso; (try simp only [beq_iff_eq, beq_eq_false_iff_ne, bne_iff_ne, bne_eq_false_iff_eq, ne_eq] at h); omega))
    | (refine keeps_sub (Mem.sub_set (by simp [Mem.set_at, nomem, *])) ?_)
  refine loop_intro (fun j env m => ∃ (i n1 : Nat), i ≤ es.length ∧ j = es.length - i ∧ m = nomem.set n1 (.cells true 39 ((ofTo l es i).map Dup.cells).flatten) ∧ env.length = 35 ∧
    nth env 5 = .sl n1 0 (ofTo l es i).length (ofTo l es i).length ∧ nth env 1 = .vs (es.map Entry.cells) y ∧ nth env 6 = .val (.int .i64 i)) es.length _ (fun _ _ h => h) ⟨0, n1, by omega, by omega, rfl, rfl, rfl, rfl, rfl⟩ ?_
  clear hn1 n1
  rintro j env m ⟨i, n1, hi, rfl, rfl, hlen, e5, e1, e6⟩
  have hpf := of_fit h es i
  repeat' first
    | simp -dsimp (disch := omega) only [↓rulesA, rulesB, rulesC, Int.reduceLT, nth, upd, put, storeN, AV.one, Nat.reduceBEq, Nat.reduceBNe, Int.reduceBEq, Int.reduceBNe, Int.reduceLE, boolBin, strBin, intBin, unA, buildA, placesA, fillA, ne_eq, reduceCtorEq, Nat.reduceAdd, Nat.reduceSub, Nat.reduceLeDiff, Nat.reduceLT, Nat.reduceEqDiff, Int.reduceToNat, eq_self, rulesT, ix_51, Entry.len, Entry.take, Entry.all, Entry.drop, Entry.part2, Entry.part10, Req.g0, Req.g1, Req.g2, Req.g3, Req.g4, Req.g5, Req.g6, Req.g7, Req.len, Req.take, Req.all, Req.drop, Req.sall, Req.slit, Res.g0, Res.g1, Res.g2, Res.g3, Res.len, Res.all, Res.take, Res.drop, Res.sall, Res.slit, *]
    | (refine allK_intro fun n hn => ?_; try simp only [fresh_set] at hn)
    | (refine ifK_intro (fun h => ?_) (fun h => ?_) <;> (try simp only [decide_eq_true_eq, decide_eq_false_iff_not, Bool.not_eq_true', Bool.not_eq_false'] at h) <;> try (exfalso; (try simp only [beq_iff_eq, beq_eq_false_iff_ne, bne_iff_ne, bne_eq_false_iff_eq, ne_eq] at h); omega))
    | (refine keeps_sub (Mem.sub_set (by simp [Mem.set_at, nomem, *])) ?_)
    | (refine call_F (F10 _) (Seens.refl _ _) ?_)
    | (refine pure_F (F10 _) (Seens.refl _ _) ?_)
  · have e := ofTo_yes (l := l) ‹reqB (es.getD i default).req = true›
    refine call_O (N17 hpf false (es.getD i default).req (es.getD i default).res) (Seens.cons (Seen.row Dup.cells (s := 7) (opn := true) (t := 39) (fun _ => rfl) _ (by simp [Mem.set_at, *])) (Seens.refl _ _)) (dup_vals _) fun n4 hn4 => ?_
    simp only [fresh_set] at hn4
    repeat' first
      | simp -dsimp (disch := omega) only [↓rulesA, rulesB, rulesC, Int.reduceLT, nth, upd, put, storeN, AV.one, Nat.reduceBEq, Nat.reduceBNe, Int.reduceBEq, Int.reduceBNe, Int.reduceLE, boolBin, strBin, intBin, unA, buildA, placesA, fillA, ne_eq, reduceCtorEq, Nat.reduceAdd, Nat.reduceSub, Nat.reduceLeDiff, Nat.reduceLT, Nat.reduceEqDiff, Int.reduceToNat, eq_self, rulesT, *]
      | (refine allK_intro fun n hn => ?_; try simp only [fresh_set] at hn)
      | (refine ifK_intro (fun h => ?_) (fun h => ?_) <;> (try simp only [decide_eq_true_eq, decide_eq_false_iff_not, Bool.not_eq_true', Bool.not_eq_false'] at h) <;> try (exfalso; (try simp only [beq_iff_eq, beq_eq_false_iff_ne, bne_iff_ne, bne_eq_false_iff_eq, ne_eq] at h); omega))
      | (refine keeps_sub (Mem.sub_set (by simp [Mem.set_at, nomem, *])) ?_)
    refine again_intro (es.length - (i + 1)) (by omega) (nomem.set n4 (.cells true 39 ((ofTo l es (i + 1)).map Dup.cells).flatten)) ?_ ⟨i + 1, n4, by omega, rfl, rfl, ?_, ?_, ?_, ?_⟩
    · refine nomem_set_sub ?_; simp [Mem.set_at, *]
    all_goals try (simp (disch := omega) only [nth_upd, pickB_true, pickB_false, inB_lt, upd_len, cast_succ, Nat.reduceBEq, beq_self_eq_true, reduceCtorEq, *]; done)
  · have e := ofTo_no (l := l) ‹reqB (es.getD i default).req = false›
    refine again_intro (es.length - (i + 1)) (by omega) (nomem.set n1 (.cells true 39 ((ofTo l es (i + 1)).map Dup.cells).flatten)) ?_ ⟨i + 1, n1, by omega, rfl, rfl, ?_, ?_, ?_, ?_⟩
    · refine nomem_set_sub ?_; simp [Mem.set_at, *]
    all_goals try (simp (disch := omega) only [nth_upd, pickB_true, pickB_false, inB_lt, upd_len, cast_succ, Nat.reduceBEq, beq_self_eq_true, reduceCtorEq, *]; done)
  · have : i = es.length := by omega
    subst this
    exact New.row Dup.cells (s := 7) (opn := true) (t := 39) (fun _ => rfl) (fun _ => rfl) _ (Mem.set_same _ _ _)
end Go.Proofs.Ytoankcclbnnfiaa

