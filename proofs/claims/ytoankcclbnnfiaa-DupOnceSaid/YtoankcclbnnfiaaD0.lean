/- Package 20: the data. -/
import Derived.Test.YtoankcclbnnfiaaTy
import Derived.Test.YtoankcclbnnfiaaKode
import Derived.Test.YtoankcclbnnfiaaA21
set_option maxRecDepth 100000
set_option maxHeartbeats 1000000
set_option linter.unusedSimpArgs false
set_option linter.unusedVariables false
namespace Go.Proofs.Ytoankcclbnnfiaa
open Go.Abs
attribute [local irreducible] C X CC Y CV CW binK litK AppK PureC PureCV againK loopV rangeV allK ifK got onB condK V stepsK planK opK firstK seeE keepsK

theorem laidOut : laidOutB Try.prog = true := by kernel_rfl
structure Dup where
  client : Int
  inst : Int
  tid : Int
  err : Int
  num : Int
  rinst : Int
  data : ByteArray
instance : Inhabited Dup := ⟨⟨0, 0, 0, 0, 0, 0, .empty⟩⟩
def Dup.cells (d : Dup) : List AV := [.val (.int .i64 d.client), .val (.int .i64 d.inst), .val (.int .i64 d.tid), .val (.int .i64 d.err), .val (.int .i64 d.num), .val (.int .i64 d.rinst), .val (.string d.data)]
theorem Dup.g0 (d : Dup) : d.cells[0]? = some (.val (.int .i64 d.client)) := rfl
theorem Dup.s0 (d : Dup) (v : Int) : setRange d.cells 0 [.val (.int .i64 v)] = ({ d with client := v } : Dup).cells := rfl
theorem Dup.g1 (d : Dup) : d.cells[1]? = some (.val (.int .i64 d.inst)) := rfl
theorem Dup.s1 (d : Dup) (v : Int) : setRange d.cells 1 [.val (.int .i64 v)] = ({ d with inst := v } : Dup).cells := rfl
theorem Dup.g2 (d : Dup) : d.cells[2]? = some (.val (.int .i64 d.tid)) := rfl
theorem Dup.s2 (d : Dup) (v : Int) : setRange d.cells 2 [.val (.int .i64 v)] = ({ d with tid := v } : Dup).cells := rfl
theorem Dup.g3 (d : Dup) : d.cells[3]? = some (.val (.int .i64 d.err)) := rfl
theorem Dup.s3 (d : Dup) (v : Int) : setRange d.cells 3 [.val (.int .i64 v)] = ({ d with err := v } : Dup).cells := rfl
theorem Dup.g4 (d : Dup) : d.cells[4]? = some (.val (.int .i64 d.num)) := rfl
theorem Dup.s4 (d : Dup) (v : Int) : setRange d.cells 4 [.val (.int .i64 v)] = ({ d with num := v } : Dup).cells := rfl
theorem Dup.g5 (d : Dup) : d.cells[5]? = some (.val (.int .i64 d.rinst)) := rfl
theorem Dup.s5 (d : Dup) (v : Int) : setRange d.cells 5 [.val (.int .i64 v)] = ({ d with rinst := v } : Dup).cells := rfl
theorem Dup.g6 (d : Dup) : d.cells[6]? = some (.val (.string d.data)) := rfl
theorem Dup.s6 (d : Dup) (v : ByteArray) : setRange d.cells 6 [.val (.string v)] = ({ d with data := v } : Dup).cells := rfl
theorem Dup.len (d : Dup) : d.cells.length = 7 := rfl
theorem Dup.take (d : Dup) : d.cells.take 7 = d.cells := rfl
theorem Dup.rall (l : List Dup) : (l.map Dup.cells).flatten.all AV.one = true := by
  rw [List.all_eq_true]
  intro x hx
  obtain ⟨e, he, hx⟩ := List.mem_flatten.1 hx
  obtain ⟨a, _, rfl⟩ := List.mem_map.1 he
  exact List.all_eq_true.1 (show a.cells.all AV.one = true from rfl) x hx
theorem Dup.rlen (l : List Dup) : (l.map Dup.cells).flatten.length = l.length * 7 := row_len Dup.cells (fun _ => rfl) l
theorem Dup.rat (l : List Dup) (k j : Nat) (hk : k < l.length) (hj : j < 7) : (l.map Dup.cells).flatten[k * 7 + j]? = (l.getD k default).cells[j]? := row_at Dup.cells (fun _ => rfl) l hk hj
theorem Dup.rat0 (l : List Dup) (k : Nat) (hk : k < l.length) : (l.map Dup.cells).flatten[k * 7]? = (l.getD k default).cells[0]? := row_at Dup.cells (s := 7) (fun _ => rfl) l (j := 0) hk (Nat.zero_lt_succ _)
theorem Dup.rpart (l : List Dup) (k : Nat) (hk : k < l.length) : ((l.map Dup.cells).flatten.drop (k * 7)).take 7 = (l.getD k default).cells := row_part Dup.cells (fun _ => rfl) l hk
theorem Dup.rin (l : List Dup) (k j : Nat) (hk : k < l.length) (hj : j ≤ 7) : (k * 7 + j ≤ (l.map Dup.cells).flatten.length) = True := eq_true (row_in Dup.cells (fun _ => rfl) l hk hj)
theorem Dup.rset (l : List Dup) (k : Nat) (hk : k < l.length) (d : Dup) : setRange (l.map Dup.cells).flatten (k * 7) d.cells = ((l.set k d).map Dup.cells).flatten := row_set Dup.cells (fun _ => rfl) l hk d
theorem Dup.rf0 (l : List Dup) (k : Nat) (hk : k < l.length) (v : Int) : setRange (l.map Dup.cells).flatten (k * 7 + 0) [.val (.int .i64 v)] = ((l.set k { l.getD k default with client := v }).map Dup.cells).flatten := row_field Dup.cells (s := 7) (fun _ => rfl) l hk _ _ rfl (by decide)
theorem Dup.rfz (l : List Dup) (k : Nat) (hk : k < l.length) (v : Int) : setRange (l.map Dup.cells).flatten (k * 7) [.val (.int .i64 v)] = ((l.set k { l.getD k default with client := v }).map Dup.cells).flatten := row_field Dup.cells (s := 7) (j := 0) (fun _ => rfl) l hk _ _ rfl (by decide)
theorem Dup.rf1 (l : List Dup) (k : Nat) (hk : k < l.length) (v : Int) : setRange (l.map Dup.cells).flatten (k * 7 + 1) [.val (.int .i64 v)] = ((l.set k { l.getD k default with inst := v }).map Dup.cells).flatten := row_field Dup.cells (s := 7) (fun _ => rfl) l hk _ _ rfl (by decide)
theorem Dup.rf2 (l : List Dup) (k : Nat) (hk : k < l.length) (v : Int) : setRange (l.map Dup.cells).flatten (k * 7 + 2) [.val (.int .i64 v)] = ((l.set k { l.getD k default with tid := v }).map Dup.cells).flatten := row_field Dup.cells (s := 7) (fun _ => rfl) l hk _ _ rfl (by decide)
theorem Dup.rf3 (l : List Dup) (k : Nat) (hk : k < l.length) (v : Int) : setRange (l.map Dup.cells).flatten (k * 7 + 3) [.val (.int .i64 v)] = ((l.set k { l.getD k default with err := v }).map Dup.cells).flatten := row_field Dup.cells (s := 7) (fun _ => rfl) l hk _ _ rfl (by decide)
theorem Dup.rf4 (l : List Dup) (k : Nat) (hk : k < l.length) (v : Int) : setRange (l.map Dup.cells).flatten (k * 7 + 4) [.val (.int .i64 v)] = ((l.set k { l.getD k default with num := v }).map Dup.cells).flatten := row_field Dup.cells (s := 7) (fun _ => rfl) l hk _ _ rfl (by decide)
theorem Dup.rf5 (l : List Dup) (k : Nat) (hk : k < l.length) (v : Int) : setRange (l.map Dup.cells).flatten (k * 7 + 5) [.val (.int .i64 v)] = ((l.set k { l.getD k default with rinst := v }).map Dup.cells).flatten := row_field Dup.cells (s := 7) (fun _ => rfl) l hk _ _ rfl (by decide)
theorem Dup.rf6 (l : List Dup) (k : Nat) (hk : k < l.length) (v : ByteArray) : setRange (l.map Dup.cells).flatten (k * 7 + 6) [.val (.string v)] = ((l.set k { l.getD k default with data := v }).map Dup.cells).flatten := row_field Dup.cells (s := 7) (fun _ => rfl) l hk _ _ rfl (by decide)
theorem Dup.sall (d e : Dup) : setRange d.cells 0 e.cells = e.cells := rfl
theorem Dup.slit (d : Dup) (a0 a1 a2 a3 a4 a5 a6 : AV) : setRange d.cells 0 [a0, a1, a2, a3, a4, a5, a6] = [a0, a1, a2, a3, a4, a5, a6] := rfl
theorem Dup.drop (d : Dup) : d.cells.drop 7 = [] := rfl
theorem Dup.all (d : Dup) : d.cells.all AV.one = true := rfl
theorem Dup.mk_agg (client : Int) (inst : Int) (tid : Int) (err : Int) (num : Int) (rinst : Int) (data : ByteArray) : AV.agg [.val (.int .i64 client), .val (.int .i64 inst), .val (.int .i64 tid), .val (.int .i64 err), .val (.int .i64 num), .val (.int .i64 rinst), .val (.string data)] = .agg (Dup.cells ⟨client, inst, tid, err, num, rinst, data⟩) := rfl
def Dup.ok (d : Dup) : Prop := (-9223372036854775808 ≤ d.client ∧ d.client ≤ 9223372036854775807) ∧ (-9223372036854775808 ≤ d.inst ∧ d.inst ≤ 9223372036854775807) ∧ (-9223372036854775808 ≤ d.tid ∧ d.tid ≤ 9223372036854775807) ∧ (-9223372036854775808 ≤ d.err ∧ d.err ≤ 9223372036854775807) ∧ (-9223372036854775808 ≤ d.num ∧ d.num ≤ 9223372036854775807) ∧ (-9223372036854775808 ≤ d.rinst ∧ d.rinst ≤ 9223372036854775807) ∧ d.data.size ≤ 140737488351232
theorem Dup.of_shaped {cs : List AV} (h : Shaped Try.prog 39 cs) (hc : cs.length = 7) : ∃ d : Dup, cs = d.cells ∧ d.ok := by
  have h := Shaped.leaves laidOut 8 39 [3, 2, 2, 27, 2, 2, 9] cs (of_decide_eq_true (by kernel_rfl)) (by kernel_rfl) h (hc.trans (cells_size ti_39).symm)
  match cs, h with
  | [c0, c1, c2, c3, c4, c5, c6], ⟨h0, h1, h2, h3, h4, h5, h6, _⟩ =>
    obtain ⟨x0, rfl, w0⟩ := h0.i64 ti_3 rfl
    obtain ⟨x1, rfl, w1⟩ := h1.i64 ti_2 rfl
    obtain ⟨x2, rfl, w2⟩ := h2.i64 ti_2 rfl
    obtain ⟨x3, rfl, w3⟩ := h3.i64 ti_27 rfl
    obtain ⟨x4, rfl, w4⟩ := h4.i64 ti_2 rfl
    obtain ⟨x5, rfl, w5⟩ := h5.i64 ti_2 rfl
    obtain ⟨x6, rfl, w6⟩ := h6.str ti_9 rfl
    exact ⟨⟨x0, x1, x2, x3, x4, x5, x6⟩, rfl, w0, w1, w2, w3, w4, w5, w6⟩
structure Res where
  err : Int
  num : Int
  inst : Int
  data : ByteArray
instance : Inhabited Res := ⟨⟨0, 0, 0, .empty⟩⟩
def Res.cells (d : Res) : List AV := [.val (.int .i64 d.err), .val (.int .i64 d.num), .val (.int .i64 d.inst), .val (.string d.data)]
theorem Res.g0 (d : Res) : d.cells[0]? = some (.val (.int .i64 d.err)) := rfl
theorem Res.s0 (d : Res) (v : Int) : setRange d.cells 0 [.val (.int .i64 v)] = ({ d with err := v } : Res).cells := rfl
theorem Res.g1 (d : Res) : d.cells[1]? = some (.val (.int .i64 d.num)) := rfl
theorem Res.s1 (d : Res) (v : Int) : setRange d.cells 1 [.val (.int .i64 v)] = ({ d with num := v } : Res).cells := rfl
theorem Res.g2 (d : Res) : d.cells[2]? = some (.val (.int .i64 d.inst)) := rfl
theorem Res.s2 (d : Res) (v : Int) : setRange d.cells 2 [.val (.int .i64 v)] = ({ d with inst := v } : Res).cells := rfl
theorem Res.g3 (d : Res) : d.cells[3]? = some (.val (.string d.data)) := rfl
theorem Res.s3 (d : Res) (v : ByteArray) : setRange d.cells 3 [.val (.string v)] = ({ d with data := v } : Res).cells := rfl
theorem Res.len (d : Res) : d.cells.length = 4 := rfl
theorem Res.take (d : Res) : d.cells.take 4 = d.cells := rfl
theorem Res.rall (l : List Res) : (l.map Res.cells).flatten.all AV.one = true := by
  rw [List.all_eq_true]
  intro x hx
  obtain ⟨e, he, hx⟩ := List.mem_flatten.1 hx
  obtain ⟨a, _, rfl⟩ := List.mem_map.1 he
  exact List.all_eq_true.1 (show a.cells.all AV.one = true from rfl) x hx
theorem Res.rlen (l : List Res) : (l.map Res.cells).flatten.length = l.length * 4 := row_len Res.cells (fun _ => rfl) l
theorem Res.rat (l : List Res) (k j : Nat) (hk : k < l.length) (hj : j < 4) : (l.map Res.cells).flatten[k * 4 + j]? = (l.getD k default).cells[j]? := row_at Res.cells (fun _ => rfl) l hk hj
theorem Res.rat0 (l : List Res) (k : Nat) (hk : k < l.length) : (l.map Res.cells).flatten[k * 4]? = (l.getD k default).cells[0]? := row_at Res.cells (s := 4) (fun _ => rfl) l (j := 0) hk (Nat.zero_lt_succ _)
theorem Res.rpart (l : List Res) (k : Nat) (hk : k < l.length) : ((l.map Res.cells).flatten.drop (k * 4)).take 4 = (l.getD k default).cells := row_part Res.cells (fun _ => rfl) l hk
theorem Res.rin (l : List Res) (k j : Nat) (hk : k < l.length) (hj : j ≤ 4) : (k * 4 + j ≤ (l.map Res.cells).flatten.length) = True := eq_true (row_in Res.cells (fun _ => rfl) l hk hj)
theorem Res.rset (l : List Res) (k : Nat) (hk : k < l.length) (d : Res) : setRange (l.map Res.cells).flatten (k * 4) d.cells = ((l.set k d).map Res.cells).flatten := row_set Res.cells (fun _ => rfl) l hk d
theorem Res.rf0 (l : List Res) (k : Nat) (hk : k < l.length) (v : Int) : setRange (l.map Res.cells).flatten (k * 4 + 0) [.val (.int .i64 v)] = ((l.set k { l.getD k default with err := v }).map Res.cells).flatten := row_field Res.cells (s := 4) (fun _ => rfl) l hk _ _ rfl (by decide)
theorem Res.rfz (l : List Res) (k : Nat) (hk : k < l.length) (v : Int) : setRange (l.map Res.cells).flatten (k * 4) [.val (.int .i64 v)] = ((l.set k { l.getD k default with err := v }).map Res.cells).flatten := row_field Res.cells (s := 4) (j := 0) (fun _ => rfl) l hk _ _ rfl (by decide)
theorem Res.rf1 (l : List Res) (k : Nat) (hk : k < l.length) (v : Int) : setRange (l.map Res.cells).flatten (k * 4 + 1) [.val (.int .i64 v)] = ((l.set k { l.getD k default with num := v }).map Res.cells).flatten := row_field Res.cells (s := 4) (fun _ => rfl) l hk _ _ rfl (by decide)
theorem Res.rf2 (l : List Res) (k : Nat) (hk : k < l.length) (v : Int) : setRange (l.map Res.cells).flatten (k * 4 + 2) [.val (.int .i64 v)] = ((l.set k { l.getD k default with inst := v }).map Res.cells).flatten := row_field Res.cells (s := 4) (fun _ => rfl) l hk _ _ rfl (by decide)
theorem Res.rf3 (l : List Res) (k : Nat) (hk : k < l.length) (v : ByteArray) : setRange (l.map Res.cells).flatten (k * 4 + 3) [.val (.string v)] = ((l.set k { l.getD k default with data := v }).map Res.cells).flatten := row_field Res.cells (s := 4) (fun _ => rfl) l hk _ _ rfl (by decide)
theorem Res.sall (d e : Res) : setRange d.cells 0 e.cells = e.cells := rfl
theorem Res.slit (d : Res) (a0 a1 a2 a3 : AV) : setRange d.cells 0 [a0, a1, a2, a3] = [a0, a1, a2, a3] := rfl
theorem Res.drop (d : Res) : d.cells.drop 4 = [] := rfl
theorem Res.all (d : Res) : d.cells.all AV.one = true := rfl
theorem Res.mk_agg (err : Int) (num : Int) (inst : Int) (data : ByteArray) : AV.agg [.val (.int .i64 err), .val (.int .i64 num), .val (.int .i64 inst), .val (.string data)] = .agg (Res.cells ⟨err, num, inst, data⟩) := rfl
def Res.ok (d : Res) : Prop := (-9223372036854775808 ≤ d.err ∧ d.err ≤ 9223372036854775807) ∧ (-9223372036854775808 ≤ d.num ∧ d.num ≤ 9223372036854775807) ∧ (-9223372036854775808 ≤ d.inst ∧ d.inst ≤ 9223372036854775807) ∧ d.data.size ≤ 140737488351232
theorem Res.of_shaped {cs : List AV} (h : Shaped Try.prog 29 cs) (hc : cs.length = 4) : ∃ d : Res, cs = d.cells ∧ d.ok := by
  have h := Shaped.leaves laidOut 8 29 [27, 2, 2, 9] cs (of_decide_eq_true (by kernel_rfl)) (by kernel_rfl) h (hc.trans (cells_size ti_29).symm)
  match cs, h with
  | [c0, c1, c2, c3], ⟨h0, h1, h2, h3, _⟩ =>
    obtain ⟨x0, rfl, w0⟩ := h0.i64 ti_27 rfl
    obtain ⟨x1, rfl, w1⟩ := h1.i64 ti_2 rfl
    obtain ⟨x2, rfl, w2⟩ := h2.i64 ti_2 rfl
    obtain ⟨x3, rfl, w3⟩ := h3.str ti_9 rfl
    exact ⟨⟨x0, x1, x2, x3⟩, rfl, w0, w1, w2, w3⟩
structure Req where
  client : Int
  inst : Int
  tid : Int
  kind : Int
  name : ByteArray
  off : Int
  num : Int
  data : ByteArray
instance : Inhabited Req := ⟨⟨0, 0, 0, 0, .empty, 0, 0, .empty⟩⟩
def Req.cells (d : Req) : List AV := [.val (.int .i64 d.client), .val (.int .i64 d.inst), .val (.int .i64 d.tid), .val (.int .i64 d.kind), .val (.string d.name), .val (.int .i64 d.off), .val (.int .i64 d.num), .val (.string d.data)]
theorem Req.g0 (d : Req) : d.cells[0]? = some (.val (.int .i64 d.client)) := rfl
theorem Req.s0 (d : Req) (v : Int) : setRange d.cells 0 [.val (.int .i64 v)] = ({ d with client := v } : Req).cells := rfl
theorem Req.g1 (d : Req) : d.cells[1]? = some (.val (.int .i64 d.inst)) := rfl
theorem Req.s1 (d : Req) (v : Int) : setRange d.cells 1 [.val (.int .i64 v)] = ({ d with inst := v } : Req).cells := rfl
theorem Req.g2 (d : Req) : d.cells[2]? = some (.val (.int .i64 d.tid)) := rfl
theorem Req.s2 (d : Req) (v : Int) : setRange d.cells 2 [.val (.int .i64 v)] = ({ d with tid := v } : Req).cells := rfl
theorem Req.g3 (d : Req) : d.cells[3]? = some (.val (.int .i64 d.kind)) := rfl
theorem Req.s3 (d : Req) (v : Int) : setRange d.cells 3 [.val (.int .i64 v)] = ({ d with kind := v } : Req).cells := rfl
theorem Req.g4 (d : Req) : d.cells[4]? = some (.val (.string d.name)) := rfl
theorem Req.s4 (d : Req) (v : ByteArray) : setRange d.cells 4 [.val (.string v)] = ({ d with name := v } : Req).cells := rfl
theorem Req.g5 (d : Req) : d.cells[5]? = some (.val (.int .i64 d.off)) := rfl
theorem Req.s5 (d : Req) (v : Int) : setRange d.cells 5 [.val (.int .i64 v)] = ({ d with off := v } : Req).cells := rfl
theorem Req.g6 (d : Req) : d.cells[6]? = some (.val (.int .i64 d.num)) := rfl
theorem Req.s6 (d : Req) (v : Int) : setRange d.cells 6 [.val (.int .i64 v)] = ({ d with num := v } : Req).cells := rfl
theorem Req.g7 (d : Req) : d.cells[7]? = some (.val (.string d.data)) := rfl
theorem Req.s7 (d : Req) (v : ByteArray) : setRange d.cells 7 [.val (.string v)] = ({ d with data := v } : Req).cells := rfl
theorem Req.len (d : Req) : d.cells.length = 8 := rfl
theorem Req.take (d : Req) : d.cells.take 8 = d.cells := rfl
theorem Req.rall (l : List Req) : (l.map Req.cells).flatten.all AV.one = true := by
  rw [List.all_eq_true]
  intro x hx
  obtain ⟨e, he, hx⟩ := List.mem_flatten.1 hx
  obtain ⟨a, _, rfl⟩ := List.mem_map.1 he
  exact List.all_eq_true.1 (show a.cells.all AV.one = true from rfl) x hx
theorem Req.rlen (l : List Req) : (l.map Req.cells).flatten.length = l.length * 8 := row_len Req.cells (fun _ => rfl) l
theorem Req.rat (l : List Req) (k j : Nat) (hk : k < l.length) (hj : j < 8) : (l.map Req.cells).flatten[k * 8 + j]? = (l.getD k default).cells[j]? := row_at Req.cells (fun _ => rfl) l hk hj
theorem Req.rat0 (l : List Req) (k : Nat) (hk : k < l.length) : (l.map Req.cells).flatten[k * 8]? = (l.getD k default).cells[0]? := row_at Req.cells (s := 8) (fun _ => rfl) l (j := 0) hk (Nat.zero_lt_succ _)
theorem Req.rpart (l : List Req) (k : Nat) (hk : k < l.length) : ((l.map Req.cells).flatten.drop (k * 8)).take 8 = (l.getD k default).cells := row_part Req.cells (fun _ => rfl) l hk
theorem Req.rin (l : List Req) (k j : Nat) (hk : k < l.length) (hj : j ≤ 8) : (k * 8 + j ≤ (l.map Req.cells).flatten.length) = True := eq_true (row_in Req.cells (fun _ => rfl) l hk hj)
theorem Req.rset (l : List Req) (k : Nat) (hk : k < l.length) (d : Req) : setRange (l.map Req.cells).flatten (k * 8) d.cells = ((l.set k d).map Req.cells).flatten := row_set Req.cells (fun _ => rfl) l hk d
theorem Req.rf0 (l : List Req) (k : Nat) (hk : k < l.length) (v : Int) : setRange (l.map Req.cells).flatten (k * 8 + 0) [.val (.int .i64 v)] = ((l.set k { l.getD k default with client := v }).map Req.cells).flatten := row_field Req.cells (s := 8) (fun _ => rfl) l hk _ _ rfl (by decide)
theorem Req.rfz (l : List Req) (k : Nat) (hk : k < l.length) (v : Int) : setRange (l.map Req.cells).flatten (k * 8) [.val (.int .i64 v)] = ((l.set k { l.getD k default with client := v }).map Req.cells).flatten := row_field Req.cells (s := 8) (j := 0) (fun _ => rfl) l hk _ _ rfl (by decide)
theorem Req.rf1 (l : List Req) (k : Nat) (hk : k < l.length) (v : Int) : setRange (l.map Req.cells).flatten (k * 8 + 1) [.val (.int .i64 v)] = ((l.set k { l.getD k default with inst := v }).map Req.cells).flatten := row_field Req.cells (s := 8) (fun _ => rfl) l hk _ _ rfl (by decide)
theorem Req.rf2 (l : List Req) (k : Nat) (hk : k < l.length) (v : Int) : setRange (l.map Req.cells).flatten (k * 8 + 2) [.val (.int .i64 v)] = ((l.set k { l.getD k default with tid := v }).map Req.cells).flatten := row_field Req.cells (s := 8) (fun _ => rfl) l hk _ _ rfl (by decide)
theorem Req.rf3 (l : List Req) (k : Nat) (hk : k < l.length) (v : Int) : setRange (l.map Req.cells).flatten (k * 8 + 3) [.val (.int .i64 v)] = ((l.set k { l.getD k default with kind := v }).map Req.cells).flatten := row_field Req.cells (s := 8) (fun _ => rfl) l hk _ _ rfl (by decide)
theorem Req.rf4 (l : List Req) (k : Nat) (hk : k < l.length) (v : ByteArray) : setRange (l.map Req.cells).flatten (k * 8 + 4) [.val (.string v)] = ((l.set k { l.getD k default with name := v }).map Req.cells).flatten := row_field Req.cells (s := 8) (fun _ => rfl) l hk _ _ rfl (by decide)
theorem Req.rf5 (l : List Req) (k : Nat) (hk : k < l.length) (v : Int) : setRange (l.map Req.cells).flatten (k * 8 + 5) [.val (.int .i64 v)] = ((l.set k { l.getD k default with off := v }).map Req.cells).flatten := row_field Req.cells (s := 8) (fun _ => rfl) l hk _ _ rfl (by decide)
theorem Req.rf6 (l : List Req) (k : Nat) (hk : k < l.length) (v : Int) : setRange (l.map Req.cells).flatten (k * 8 + 6) [.val (.int .i64 v)] = ((l.set k { l.getD k default with num := v }).map Req.cells).flatten := row_field Req.cells (s := 8) (fun _ => rfl) l hk _ _ rfl (by decide)
theorem Req.rf7 (l : List Req) (k : Nat) (hk : k < l.length) (v : ByteArray) : setRange (l.map Req.cells).flatten (k * 8 + 7) [.val (.string v)] = ((l.set k { l.getD k default with data := v }).map Req.cells).flatten := row_field Req.cells (s := 8) (fun _ => rfl) l hk _ _ rfl (by decide)
theorem Req.sall (d e : Req) : setRange d.cells 0 e.cells = e.cells := rfl
theorem Req.slit (d : Req) (a0 a1 a2 a3 a4 a5 a6 a7 : AV) : setRange d.cells 0 [a0, a1, a2, a3, a4, a5, a6, a7] = [a0, a1, a2, a3, a4, a5, a6, a7] := rfl
theorem Req.drop (d : Req) : d.cells.drop 8 = [] := rfl
theorem Req.all (d : Req) : d.cells.all AV.one = true := rfl
theorem Req.mk_agg (client : Int) (inst : Int) (tid : Int) (kind : Int) (name : ByteArray) (off : Int) (num : Int) (data : ByteArray) : AV.agg [.val (.int .i64 client), .val (.int .i64 inst), .val (.int .i64 tid), .val (.int .i64 kind), .val (.string name), .val (.int .i64 off), .val (.int .i64 num), .val (.string data)] = .agg (Req.cells ⟨client, inst, tid, kind, name, off, num, data⟩) := rfl
def Req.ok (d : Req) : Prop := (-9223372036854775808 ≤ d.client ∧ d.client ≤ 9223372036854775807) ∧ (-9223372036854775808 ≤ d.inst ∧ d.inst ≤ 9223372036854775807) ∧ (-9223372036854775808 ≤ d.tid ∧ d.tid ≤ 9223372036854775807) ∧ (-9223372036854775808 ≤ d.kind ∧ d.kind ≤ 9223372036854775807) ∧ d.name.size ≤ 140737488351232 ∧ (-9223372036854775808 ≤ d.off ∧ d.off ≤ 9223372036854775807) ∧ (-9223372036854775808 ≤ d.num ∧ d.num ≤ 9223372036854775807) ∧ d.data.size ≤ 140737488351232
theorem Req.of_shaped {cs : List AV} (h : Shaped Try.prog 26 cs) (hc : cs.length = 8) : ∃ d : Req, cs = d.cells ∧ d.ok := by
  have h := Shaped.leaves laidOut 8 26 [3, 2, 2, 3, 9, 2, 2, 9] cs (of_decide_eq_true (by kernel_rfl)) (by kernel_rfl) h (hc.trans (cells_size ti_26).symm)
  match cs, h with
  | [c0, c1, c2, c3, c4, c5, c6, c7], ⟨h0, h1, h2, h3, h4, h5, h6, h7, _⟩ =>
    obtain ⟨x0, rfl, w0⟩ := h0.i64 ti_3 rfl
    obtain ⟨x1, rfl, w1⟩ := h1.i64 ti_2 rfl
    obtain ⟨x2, rfl, w2⟩ := h2.i64 ti_2 rfl
    obtain ⟨x3, rfl, w3⟩ := h3.i64 ti_3 rfl
    obtain ⟨x4, rfl, w4⟩ := h4.str ti_9 rfl
    obtain ⟨x5, rfl, w5⟩ := h5.i64 ti_2 rfl
    obtain ⟨x6, rfl, w6⟩ := h6.i64 ti_2 rfl
    obtain ⟨x7, rfl, w7⟩ := h7.str ti_9 rfl
    exact ⟨⟨x0, x1, x2, x3, x4, x5, x6, x7⟩, rfl, w0, w1, w2, w3, w4, w5, w6, w7⟩
end Go.Proofs.Ytoankcclbnnfiaa

