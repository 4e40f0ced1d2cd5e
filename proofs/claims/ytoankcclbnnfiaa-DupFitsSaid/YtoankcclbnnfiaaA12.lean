/- The abstract layer, twelfth part: contracts of calls, operations, and rows of operations. -/
import Derived.Test.YtoankcclbnnfiaaA11
set_option linter.unusedVariables false
set_option linter.unusedSimpArgs false
namespace Go.Abs
variable {P : Program}

/-- The fence that lets all in, at a function's activation or at a round's. -/
def Fr (rd : Option Nat) : Fence := { Fence.wide with round := rd }
theorem Fr_room (rd : Option Nat) (n : Nat) : (Fr rd).room n := fun _ h => by simp [Fr, Fence.wide] at h
theorem Fr_depth (rd : Option Nat) {p : Prop} : (Fr rd).depth.isSome = true → p := fun h => by simp [Fr, Fence.wide] at h

/-- A call of function f returns, and K holds of its result and the memory behind it. -/
def C (P : Program) (f : FuncId) (args : List AV) (m : Mem) (K' : AV → Mem → Prop) : Prop :=
  (∃ fn, P.funcs[f]? = some fn ∧ fn.body.isNone = false ∧ (fn.name == "runtime.NumGoroutine") = false) ∧
  ∀ κ w cargs, Sim P κ m w → Rels κ args cargs → CallsIn Fence.wide 0 P f cargs w fun e w' => ∃ cv r m' κ', e = .returned cv ∧ K' r m' ∧ Step P κ m w κ' m' w' ∧ Rel κ' r cv

/-- A call of 'yield' of the loop n. -/
def Y (P : Program) (n : Nat) (args : List AV) (m : Mem) (K' : AV → Mem → Prop) : Prop :=
  ∀ κ w l cargs, Sim P κ m w → κ.rho n = some l → Rels κ args cargs → ∃ f tmps asg body, (Instr.yield l.blk cargs).run P w = .ok (.round l.blk f tmps asg body) w ∧
    RoundIn Fence.wide 0 P l.blk f tmps asg body w fun e w' => ∃ cv r m' κ', e = .returned cv ∧ K' r m' ∧ Step P κ m w κ' m' w' ∧ Rel κ' r cv

def CV (P : Program) (f : AV) (args : List AV) (m : Mem) (K' : AV → Mem → Prop) : Prop :=
  match f with
  | .fn (.func g) first caps => C P g (first ++ args ++ caps) m K'
  | .yld n => Y P n args m K'
  | _ => False

theorem C.mono {f : FuncId} {args : List AV} {m : Mem} {K' K'' : AV → Mem → Prop} (h : C P f args m K') (hk : ∀ r m', K' r m' → K'' r m') : C P f args m K'' :=
  ⟨h.1, fun κ w cargs hs hr => (h.2 κ w cargs hs hr).mono fun e w' ⟨cv, r, m', κ', a, b, c⟩ => ⟨cv, r, m', κ', a, hk _ _ b, c⟩⟩
theorem Y.mono {n : Nat} {args : List AV} {m : Mem} {K' K'' : AV → Mem → Prop} (h : Y P n args m K') (hk : ∀ r m', K' r m' → K'' r m') : Y P n args m K'' :=
  fun κ w l cargs hs hl hr => let ⟨f, t, a, b, h1, h2⟩ := h κ w l cargs hs hl hr; ⟨f, t, a, b, h1, h2.mono fun e w' ⟨cv, r, m', κ', a, b, c⟩ => ⟨cv, r, m', κ', a, hk _ _ b, c⟩⟩
theorem CV.mono {f : AV} {args : List AV} {m : Mem} {K' K'' : AV → Mem → Prop} (h : CV P f args m K') (hk : ∀ r m', K' r m' → K'' r m') : CV P f args m K'' := by
  unfold CV at *
  cases f with
  | fn g a b => cases g with
    | func g => exact C.mono h hk
    | _ => exact h.elim
  | yld n => exact Y.mono h hk
  | _ => exact h.elim

def chunk (s : Nat) : Nat → List AV → List (List AV)
  | 0, _ => []
  | n + 1, l => l.take s :: chunk s n (l.drop s)
theorem chunk_spec (s : Nat) : ∀ (n : Nat) (l : List AV), l.length = n * s → (chunk s n l).flatten = l ∧ (chunk s n l).length = n ∧ ∀ e ∈ chunk s n l, e.length = s
  | 0, l, h => by simp at h; subst h; exact ⟨rfl, rfl, fun e he => by simp [chunk] at he⟩
  | n + 1, l, h => by
    rw [Nat.add_mul] at h
    obtain ⟨h1, h2, h3⟩ := chunk_spec s n (l.drop s) (by simp; omega)
    refine ⟨by simp [chunk, h1], by simp [chunk, h2], fun e he => ?_⟩
    simp only [chunk, List.mem_cons] at he
    rcases he with rfl | he
    · simp; omega
    · exact h3 e he

/-- make([]T, l, c) -/
def mkSliceA (P : Program) (t : TypeId) (l c : AV) : Option (TypeId × Nat × Nat × List AV) :=
  match ti P t, l, c with
  | some i, .val (.int _ a), .val (.int _ b) => match i.desc with
    | .slice e => match ti P e, zeroA P e with
      | some j, some z => if 0 ≤ a ∧ a ≤ b ∧ j.bytes * b ≤ 281474976710656 ∧ b ≤ 9223372036854775807 ∧ z.length = j.size ∧ 0 < j.size then some (e, a.toNat, b.toNat, (List.replicate b.toNat z).flatten) else none
      | _, _ => none
    | _ => none
  | _, _, _ => none

/-- What a copy writes: how many, their cells. -/
def copyA (P : Program) (m : Mem) (t xt : TypeId) (d x : AV) : Option (Nat × Mem) :=
  match ti P t with
  | some i => match i.desc with
    | .slice e => match ti P e with
      | some j => match d, srcA P m xt j.size x with
        | .sl n off len _, some (k, src) => match m n with
          | some (.cells opn bt cs) => if off + len * j.size ≤ cs.length then some (min k len, m.set n (.cells opn bt (setRange cs off (src.take (min k len * j.size))))) else none
          | _ => none
        | _, _ => none
      | none => none
    | _ => none
  | none => none

def loudK (P : Program) (op : Op) (ev : Operand → AV) (m : Mem) (K' : AV → Mem → Prop) : Prop :=
  match op with
  | .store t a x => ∃ m', storeA P m t (ev a) (ev x) = some m' ∧ K' (.tup []) m'
  | .alloc t => ∃ cs, zeroA P t = some cs ∧ ∀ n, m n = none → K' (.ptr n 0) (m.set n (.cells false t cs))
  | .box t x => ∃ cs, (ev x).cells = some cs ∧ ∀ n, m n = none → K' (.ptr n 0) (m.set n (.cells false t cs))
  | .buildSlice t len ps => ∃ e s cs, litA P t len (ps.toList.map fun p => (p.1, ev p.2)) = some (e, s, cs) ∧ cs.length = len * s ∧
      (K' (.vs (chunk s len cs) true) m ∨ ∀ n, m n = none → K' (.sl n 0 len len) (m.set n (.cells false e cs)))
  | .makeSlice t l c => ∃ e a b cs, mkSliceA P t (ev l) (ev c) = some (e, a, b, cs) ∧ ∀ n, m n = none → K' (.sl n 0 a b) (m.set n (.cells false e cs))
  | .makeMap t none => ∀ n, m n = none → K' (.map n) (m.set n (.map []))
  | .call { callee := .value f, args, .. } => CV P (ev f) (args.toList.map ev) m K'
  | .call { callee := .builtin .append, args, argTypes } => match args.toList, argTypes.toList with
    | [s, x], [t, xt] => AppK P t xt (ev s) (ev x) m K'
    | _, _ => False
  | _ => False

def opK (P : Program) (op : Op) (ev : Operand → AV) (m : Mem) (K' : AV → Mem → Prop) : Prop :=
  match quietA P m ev op with
  | some r => K' r m
  | none => loudK P op ev m K'

theorem array_two {α : Type} {a : Array α} {x y : α} (h : a.toList = [x, y]) : a = #[x, y] := by cases a; simpa using h
/-- One operation, in a world. -/
theorem opK_sound {κ : K} {m : Mem} {w : World} (hs : Sim P κ m w) {o : Oper} {ev : Operand → AV} {a : Act} (hev : ∀ x, Rel κ (ev x) (a.eval x)) {K' : AV → Mem → Prop} (h : opK P o.op ev m K') (rd : Option Nat)
    {next : Act → World → Prop} {Q : Exit → Act → World → Prop} (hn : ∀ r m' κ' cv w', K' r m' → Step P κ m w κ' m' w' → Rel κ' r cv → next (a.put o.dst cv) w') : o.wpIn (Fr rd) 0 P a w next Q := by
  have hsem : ∀ s : Sem Next, (∀ c, o.op ≠ .defer c) → o.semAt rd a.eval = execOp a.eval o := fun _ hd => Oper.semAt_eq rd a.eval o hd
  refine ⟨fun _ _ => trivial, ?_⟩
  show o.uponIn (Fr rd) 0 P a next Q ((o.semAt rd a.eval).run P w)
  unfold opK at h
  split at h
  · rename_i r hq
    have hnd : ∀ c, o.op ≠ .defer c := fun c e => by rw [e] at hq; simp [quietA] at hq
    obtain ⟨cv, h1, h2⟩ := quietA_sound hs hev hq
    rw [Oper.semAt_eq rd a.eval o hnd, h2 w (Ext.refl w)]
    exact hn r m κ cv w h (Step.refl hs) h1
  · rename_i hqn
    clear hqn
    have hnd : ∀ c, o.op ≠ .defer c := fun c e => by rw [e] at h; simp [loudK] at h
    rw [Oper.semAt_eq rd a.eval o hnd]
    obtain ⟨dst, op, type, pos, after, guard⟩ := o
    simp only at h hn
    clear hsem hnd
    unfold loudK at h
    split at h
    case _ t x y =>
      obtain ⟨m', h1, h2⟩ := h
      obtain ⟨w', g1, g2⟩ := storeA_sound hs h1 (hev x) (hev y)
      simp only [execOp, Sem.run_bind, g1, Result.andThen_ok, Sem.run_pure]
      exact hn _ m' κ undef w' h2 g2 (.tup rfl fun i h => by simp at h)
    case _ t =>
      obtain ⟨cs, h1, h2⟩ := h
      obtain ⟨z, z1, z2, _⟩ := zeroA_sound (κ := κ) h1
      obtain ⟨n, g1, κ', g2, g3⟩ := new_box hs (t := t) z2
      have : (Instr.alloc t true (.tuple #[])).run P w = .ok (.pointer (some ⟨w.heap.size, 0, none⟩)) (w.alloc (.cells z.cells t)) := by
        simp only [Instr.alloc, Sem.run_bind, z1, Result.andThen_ok, newVar, newRow, run_newObj, Sem.run_pure]; rfl
      simp only [execOp, Sem.run_bind, this, Result.andThen_ok, Sem.run_pure]
      exact hn _ _ κ' _ _ (h2 n g1) g2 g3
    case _ t x =>
      obtain ⟨cs, h1, h2⟩ := h
      obtain ⟨z2, _⟩ := (hev x).cells h1
      obtain ⟨n, g1, κ', g2, g3⟩ := new_box hs (t := t) z2
      have : (Instr.box t (a.eval x)).run P w = .ok (.pointer (some ⟨w.heap.size, 0, none⟩)) (w.alloc (.cells (a.eval x).cells t)) := by
        simp only [Instr.box, Sem.run_bind, newVar, newRow, run_newObj, Sem.run_pure, Result.andThen_ok]; rfl
      simp only [execOp, Sem.run_bind, this, Result.andThen_ok, Sem.run_pure]
      exact hn _ _ κ' _ _ (h2 n g1) g2 g3
    case _ t len ps =>
      obtain ⟨e, s, cs, h1, hl, h2⟩ := h
      obtain ⟨ca, g1, g2⟩ := litA_sound (κ := κ) h1 (cparts := ps.map fun (i, x) => (i, a.eval x)) (by simp) (fun i p q => by simpa using hev _)
      simp only [execOp, Sem.run_bind, g2 w, Result.andThen_ok, Sem.run_pure]
      rcases h2 with h2 | h2
      · obtain ⟨c1, c2, c3⟩ := chunk_spec s len cs hl
        obtain ⟨κ', q1, q2⟩ := new_lit hs (t := e) (es := chunk s len cs) (s := s) c3 (ca := ca) (by rw [c1]; exact g1)
        rw [c2] at q2
        exact hn _ _ κ' _ _ h2 q1 q2
      · obtain ⟨n, hr, hm⟩ := hs.fresh
        have hst := new_cells (w' := w.alloc (.cells ca e)) hs hm hr (opn := false) (t := e) g1 0 #[] (fun _ => rfl) (by simp) (fz := (0, 0)) (fun i _ => by simp) (But.alloc w _ _) (by rw [heap_alloc_new']; simp)
        exact hn _ _ _ _ _ (h2 n hm) hst (.sl (K.add_same ..) (.inl rfl) (Nat.le_refl _) (.inr ⟨rfl, rfl⟩))
    case _ t l c =>
      obtain ⟨e, la, lb, cs, h1, h2⟩ := h
      have hl := hev l
      have hc := hev c
      unfold mkSliceA at h1
      split at h1
      · rename_i i k1 va k2 vb hi el ec
        rw [el] at hl
        rw [ec] at hc
        obtain ⟨el', _⟩ := hl.val_inv
        obtain ⟨ec', _⟩ := hc.val_inv
        split at h1
        · rename_i e' hd
          split at h1
          · rename_i j z hj hz
            split at h1
            · rename_i hcond
              cases h1
              obtain ⟨c1, c2, c3, c4, c5, c6⟩ := hcond
              obtain ⟨zv, z1, z2, _⟩ := zeroA_sound (κ := κ) hz
              obtain ⟨_, i3, h31, h32, h33, h34⟩ := ti_spec hj
              have hz2 := rels_zeros z2 (by omega) vb.toNat
              have w1 : IntKind.i64.wrap va = va := IntWalk.i64_in _ (by omega)
              have w2 : IntKind.i64.wrap vb = vb := IntWalk.i64_in _ (by omega)
              have hno : ¬ ((decide (vb < 0) || decide (((i3.bytes : Nat) : Int) * vb > 2 ^ 48) || decide (va < 0) || decide (va > vb)) = true) := by
                rw [h33]
                simp only [Bool.or_eq_true, decide_eq_true_eq, not_or]
                refine ⟨⟨⟨by omega, ?_⟩, by omega⟩, by omega⟩
                have : ((2 : Int) ^ 48) = 281474976710656 := by decide
                omega
              have run : (Instr.makeSlice t (a.eval l) (a.eval c)).run P w = .ok (.slice (some ⟨w.heap.size, 0, none⟩) va.toNat vb.toNat) (w.alloc (.cells ((Array.range (vb.toNat * j.size)).map (zv.cells[· % zv.cells.size]!)) e)) := by
                simp only [Instr.makeSlice, Sem.run_bind, run_underlying' hi, hd, Result.andThen_ok, el', ec', asInt, asIntOf, Sem.run_pure, typeInfo, run_program, h31, w1, w2]
                rw [if_neg hno]
                simp only [Sem.run_bind, run_askRoom, Result.andThen_ok, run_sizeOf hj, Sem.run_pure]
                by_cases h0 : vb.toNat * j.size = 0
                · simp only [h0, if_true, Sem.run_pure, Result.andThen_ok, Array.range_zero', List.map_toArray, List.map_nil, newRow, run_newObj]; rfl
                · simp only [if_neg h0, Sem.run_bind, z1, Sem.run_pure, Result.andThen_ok, newRow, run_newObj]; rfl
              simp only [execOp, Sem.run_bind, run, Result.andThen_ok, Sem.run_pure]
              obtain ⟨n, hr, hm⟩ := hs.fresh
              rw [c5] at hz2
              have hst := new_cells (w' := w.alloc (.cells ((Array.range (vb.toNat * j.size)).map (zv.cells[· % zv.cells.size]!)) e)) hs hm hr (opn := false) (t := e) hz2 0 #[] (fun _ => rfl) (by simp) (fz := (0, 0)) (fun i _ => by simp) (But.alloc w _ _) (by rw [heap_alloc_new']; simp)
              exact hn _ _ _ _ _ (h2 n hm) hst (.sl (K.add_same ..) (.inl rfl) (by omega) (.inr ⟨rfl, rfl⟩))
            · cases h1
          · cases h1
        · cases h1
      · cases h1
    case _ t =>
      obtain ⟨n, hr, hm⟩ := hs.fresh
      have hst := Step.alloc (w' := w.alloc (.map #[] 0)) hs hm hr (l := ⟨w.heap.size, 0, 0, 0, 0⟩) (Nat.le_refl _) (by simp) (But.alloc w _ _) (.map []) ⟨#[], 0, heap_alloc_new' w _, rfl, fun i h => by simp at h⟩
      have : (Instr.makeMap t (Option.map a.eval none)).run P w = .ok (.map (some w.heap.size)) (w.alloc (.map #[] 0)) := by
        simp only [Instr.makeMap, Option.map_none, Sem.run_bind, Sem.run_pure, Result.andThen_ok, run_newObj]; rfl
      simp only [execOp, Sem.run_bind, this, Result.andThen_ok, Sem.run_pure]
      exact hn _ _ _ _ _ (h n hm) hst (.map (K.add_same ..))
    case _ f args ats =>
      have hf := hev f
      unfold CV at h
      split at h
      · rename_i g first caps ef
        rw [ef] at hf
        generalize hcf : a.eval f = cf at hf
        cases hf with
        | @fn _ _ _ fa ca g0 g1 g2 g3 g4 =>
          obtain ⟨⟨fn, hfn, hb, hname⟩, hC⟩ := h
          obtain ⟨a1, a2⟩ := relsMap hev args
          have hrels : Rels κ (first ++ args.toList.map ev ++ caps) ((fa ++ args.map a.eval) ++ ca) := rels_append (rels_append ⟨g1, g2⟩ ⟨a1, a2⟩) ⟨g3, g4⟩
          have hcall := hC κ w _ hs hrels
          have hrun : (execOp a.eval { dst := dst, op := .call { callee := .value f, args := args, argTypes := ats }, type := type, pos := pos, after := after, guard := guard }).run P w = .ok (.enter g ((fa ++ args.map a.eval) ++ ca)) w := by
            simp only [execOp, resolve, hcf, Deferred.ofValue, Sem.run_bind, Sem.run_pure, Result.andThen_ok, invoke, callFunc, run_program, hfn, hname, hb, Bool.false_eq_true, if_false]
          rw [hrun]
          refine ⟨Fr_depth rd, ?_⟩
          have hcall' : CallsIn (Fr rd) (0 - 1) P g ((fa ++ args.map a.eval) ++ ca) w _ := hcall
          refine hcall'.mono ?_
          rintro e w' ⟨cv, r, m', κ', rfl, hk, hst, hrel⟩
          exact hn r m' κ' cv w' hk hst hrel
      · rename_i n ef
        rw [ef] at hf
        generalize hcf : a.eval f = cf at hf
        cases hf with
        | @yld _ l hl =>
          obtain ⟨f', tmps, asg, body, h1, h2⟩ := h κ w l (args.map a.eval) hs hl (relsMap hev args)
          have hrun : (execOp a.eval { dst := dst, op := .call { callee := .value f, args := args, argTypes := ats }, type := type, pos := pos, after := after, guard := guard }).run P w = .ok (.round l.blk f' tmps asg body) w := by
            simp only [execOp, resolve, hcf, Deferred.ofValue, Sem.run_bind, Sem.run_pure, Result.andThen_ok, invoke, Array.empty_append, h1]
          rw [hrun]
          refine ⟨Fr_depth rd, ?_⟩
          have h2' : RoundIn (Fr rd) (0 - 1) P l.blk f' tmps asg body w _ := h2
          refine h2'.mono ?_
          rintro e w' ⟨cv, r, m', κ', rfl, hk, hst, hrel⟩
          exact hn r m' κ' cv w' hk hst hrel
      · exact h.elim
    case _ args ats =>
      split at h
      · rename_i s x t xt e1 e2
        obtain rfl := array_two e1
        obtain rfl := array_two e2
        obtain ⟨cv, r, m', κ', w', g1, g2, g3, g4⟩ := appK_sound (ty := type) hs h (hev s) (hev x)
        have hrun : (execOp a.eval { dst := dst, op := .call { callee := .builtin .append, args := #[s, x], argTypes := #[t, xt] }, type := type, pos := pos, after := after, guard := guard }).run P w = .ok (.value cv) w' := by
          simp only [execOp, resolve, invoke, builtin, Sem.run_bind, Sem.run_pure, Result.andThen_ok, List.map_toArray, List.map_cons, List.map_nil, g1]
        rw [hrun]
        exact hn r m' κ' cv w' g2 g3 g4
      · exact h.elim
    case _ => exact h.elim
end Go.Abs
