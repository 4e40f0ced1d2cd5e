/- The abstract layer, fourteenth part: contracts out of bodies, loops over functions, and cells told for good. -/
import Derived.Test.YteilhoojlcpbpaaA13
set_option linter.unusedVariables false
set_option linter.unusedSimpArgs false
namespace Go.Abs
variable {P : Program}

/-! ### Results -/
def resOne (P : Program) (m : Mem) (env : List AV) : ResultVar → Option AV
  | .tmp t => some (nth env t)
  | .cell a t => loadA P m t (nth env a)
def resA (P : Program) (fn : Func) (env : List AV) (m : Mem) : Option AV :=
  match fn.results.toList.mapM (resOne P m env) with
  | some [v] => some v
  | some vs => some (.tup vs)
  | none => none
def resC (tmps : Array Value) : ResultVar → Sem Value
  | .tmp t => pure (tmps.getD t undef)
  | .cell a t => do loadVar t (← asAddr (tmps.getD a undef))
theorem resOne_sound {κ : K} {m : Mem} {w : World} (hs : Sim P κ m w) {env : List AV} {tmps : Array Value} (hr : Rels κ env tmps) {x : ResultVar} {v : AV} (h : resOne P m env x = some v) :
    ∃ cv, Rel κ v cv ∧ (resC tmps x).run P w = .ok cv w := by
  cases x with
  | tmp t => simp only [resOne] at h; cases h; exact ⟨_, hr.nth t, rfl⟩
  | cell a t =>
    simp only [resOne] at h
    obtain ⟨cv, h1, h2⟩ := loadA_sound hs h (hr.nth a)
    refine ⟨cv, h1, ?_⟩
    have h2 := h2 w (Ext.refl w)
    simp only [resC]
    generalize tmps.getD a undef = p at h2
    cases p with
    | pointer ad => cases ad with
      | some ad => simpa [Instr.loadAt, Instr.sureAddr, asAddr] using h2
      | none => simp [Instr.loadAt, Instr.sureAddr] at h2
    | _ => simp [Instr.loadAt, Instr.sureAddr] at h2
theorem resAll_sound {κ : K} {m : Mem} {w : World} (hs : Sim P κ m w) {env : List AV} {tmps : Array Value} (hr : Rels κ env tmps) : ∀ (l : List ResultVar) (vs : List AV), l.mapM (resOne P m env) = some vs →
    ∃ cs : List Value, (l.mapM (resC tmps)).run P w = .ok cs w ∧ vs.length = cs.length ∧
      ∀ i (h : i < vs.length) (h' : i < cs.length), Rel κ vs[i] cs[i]
  | [], vs, h => by simp at h; subst h; exact ⟨[], rfl, rfl, fun i h => by simp at h⟩
  | x :: l, vs, h => by
    simp only [List.mapM_cons, Option.bind_eq_bind, Option.bind_eq_some_iff, Option.pure_def, Option.some.injEq] at h
    obtain ⟨v, h1, vs', h2, rfl⟩ := h
    obtain ⟨cv, g1, g2⟩ := resOne_sound hs hr h1
    obtain ⟨cs, q1, q2, q3⟩ := resAll_sound hs hr l vs' h2
    refine ⟨cv :: cs, ?_, by simp [q2], fun i a b => ?_⟩
    · rw [List.mapM_cons, Sem.run_bind, g2]
      simp only [Result.andThen_ok, Sem.run_bind, q1, Sem.run_pure]
    · cases i with
      | zero => exact g1
      | succ i => exact q3 i (by simpa using a) (by simpa using b)
theorem resA_sound {κ : K} {m : Mem} {w : World} (hs : Sim P κ m w) {env : List AV} {tmps : Array Value} (hr : Rels κ env tmps) {fn : Func} {r : AV} (h : resA P fn env m = some r) :
    ∃ cv, Rel κ r cv ∧ (results fn tmps).run P w = .ok cv w := by
  unfold resA at h
  have run : ∀ vs, fn.results.toList.mapM (resOne P m env) = some vs → ∃ cs : List Value, (results fn tmps).run P w = .ok (if h : cs.toArray.size = 1 then cs.toArray[0] else .tuple cs.toArray) w ∧ vs.length = cs.length ∧
      ∀ i (h : i < vs.length) (h' : i < cs.length), Rel κ vs[i] cs[i] := fun vs hv => by
    obtain ⟨cs, q1, q2, q3⟩ := resAll_sound hs hr _ _ hv
    refine ⟨cs, ?_, q2, q3⟩
    have e : results fn tmps = (fn.results.mapM (resC tmps) >>= fun vs => pure (if h : vs.size = 1 then vs[0] else .tuple vs)) := by
      unfold results
      congr 1
      all_goals (try (congr 1; funext x; cases x <;> rfl))
    rw [e, Sem.run_bind, Array.mapM_eq_mapM_toList, Sem.run_map, q1]
    simp only [Result.andThen_ok, Sem.run_pure]
  split at h
  · rename_i v hv
    cases h
    obtain ⟨cs, q1, q2, q3⟩ := run _ hv
    cases cs with
    | nil => simp at q2
    | cons c cs =>
      cases cs with
      | cons _ _ => simp at q2
      | nil => exact ⟨c, q3 0 (by simp) (by simp), by rw [q1]; rfl⟩
  · rename_i vs hne hv
    cases h
    obtain ⟨cs, q1, q2, q3⟩ := run _ hv
    refine ⟨.tuple cs.toArray, .tup (by simp [q2]) (fun i a b => by simpa using q3 i a (by simpa using b)), ?_⟩
    rw [q1]
    have : ¬ (cs.toArray.size = 1) := fun e => by
      have : vs.length = 1 := by rw [q2]; simpa using e
      match vs, this with
      | [v], _ => exact hne v rfl
    rw [dif_neg this]
  · cases h

/-! ### Leaving a function -/
/-- The blocks of the loops' deferred calls have been shut. -/
structure Shut (rs : List Nat) (w w' : World) : Prop where
  size : w'.heap.size = w.heap.size
  blk : ∀ c, c ∉ rs → w'.heap[c]? = w.heap[c]?
  os : w'.os = w.os
  tape : w'.tape = w.tape
  output : w'.output = w.output
theorem leaves_marks {F : Fence} {n : Nat} {fn : Func} {tmps : Array Value} {R : Ending → World → Prop} : ∀ (rs : List Nat) (w : World), rs.Nodup → (∀ r ∈ rs, w.heap[r]? = some (.deferred (some []))) →
    (∀ w', Shut rs w w' → LeavesIn F n P fn tmps R [] .returning w') → LeavesInM F n P fn tmps R (rs.map markOf) .returning w
  | [], w, _, _, h => h w ⟨rfl, fun _ _ => rfl, rfl, rfl, rfl⟩
  | r :: rs, w, hn, hd, h => by
    have hr := hd r (by simp)
    have hlt := (Array.getElem?_eq_some_iff.1 hr).1
    rw [List.nodup_cons] at hn
    refine ⟨by simp, .inl ⟨r, { w with heap := w.heap.setIfInBounds r (.deferred none) }, rfl, ?_, ?_⟩⟩
    · simp [Instr.takeDeferred, getObj, setObj, Sem.run, hr]
    · refine leaves_marks rs _ hn.2 (fun q hq => ?_) fun w' hw' => h w' ⟨by rw [hw'.size]; simp, fun c hc => ?_, hw'.os, hw'.tape, hw'.output⟩
      · have : r ≠ q := fun e => hn.1 (e ▸ hq)
        simp only [Array.getElem?_setIfInBounds_ne this]
        exact hd q (by simp [hq])
      · rw [hw'.blk c (fun h => hc (by simp [h]))]
        have : r ≠ c := fun e => hc (by simp [e])
        simp only [Array.getElem?_setIfInBounds_ne this]
theorem Step.shut {κ κ' : K} {m m' : Mem} {w w1 w2 : World} {rs : List Nat} (h : Step P κ m w κ' m' w1) (hs : Shut rs w1 w2) (hd : ∀ r ∈ rs, w.heap.size ≤ r ∧ w1.heap[r]? = some (.deferred (some []))) : Step P κ m w κ' m' w2 := by
  refine ⟨h.le, ⟨?_, ?_, ?_, h.sim.excl, h.sim.fin⟩, by rw [hs.size]; exact h.size, ?_, h.origin, hs.os.trans h.os, hs.tape.trans h.tape, hs.output.trans h.output, h.porigin, h.dead⟩
  · intro c o v hp
    have hc := h.sim.prot c o v hp
    have hne : c ∉ rs := fun hr => by
      have := (hd c hr).2
      simp [World.cell?, this] at hc
    rw [cell_of_heap (hs.blk c hne)]
    exact hc
  · intro k b hk
    rcases h.sim.blk k b hk with ⟨l, h1, h2, h3⟩ | h'
    · refine .inl ⟨l, h1, h2.congr (hs.blk _ fun hr => ?_), h3⟩
      exact h.sim.notBacks (hd _ hr).2 ⟨k, l, h1, by rw [hk]; simp, rfl⟩
    · exact .inr h'
  · exact fun k l hk => by rw [hs.size]; exact h.sim.lt k l hk
  · intro c hc hb
    rw [hs.blk c (fun hr => by have := (hd c hr).1; omega)]
    exact h.frame c hc hb

theorem rels_start {κ : K} {args : List AV} {cargs : Array Value} (h : Rels κ args cargs) (n : Nat) : Rels κ (args ++ List.replicate (n - args.length) (.tup [])) (cargs ++ Array.replicate (n - cargs.size) undef) := by
  rw [h.1]
  exact rels_append h ⟨by simp, fun i a b => by simp; exact .tup rfl fun i h => by simp at h⟩

/-- A function's contract, out of its body. -/
theorem C.of_W {f : FuncId} {fn : Func} {c : Code} {args : List AV} {m : Mem} {K' : AV → Mem → Prop} (hf : P.funcs[f]? = some fn) (hb : fn.body = some c) (hnm : (fn.name == "runtime.NumGoroutine") = false)
    (h : W P none c (fun e env' m' => (match e with | .normal | .ret => True | _ => False) ∧ ∃ r, resA P fn env' m' = some r ∧ K' r m') (args ++ List.replicate (fn.ntmps - args.length) (.tup [])) m) : C P f args m K' := by
  refine ⟨⟨fn, hf, by rw [hb]; rfl, hnm⟩, fun κ w cargs hs hr => ?_⟩
  refine callsIn_of_wp_marks (F := Fence.wide) hf hb trivial ?_
  have hw := h κ w { tmps := cargs ++ Array.replicate (fn.ntmps - cargs.size) undef, defers := [] } none hs (rels_start hr fn.ntmps) trivial
  refine wpIn_mono hw ?_
  rintro e a' w' ⟨env', m', κ', h0, ⟨h1, r, h2, h3⟩, h4, h5, rs, h6, h7, h8⟩
  have done : LeavesInM Fence.wide 0 P fn a'.tmps (fun e w' => ∃ cv r m' κ', e = .returned cv ∧ K' r m' ∧ Step P κ m w κ' m' w' ∧ Rel κ' r cv) a'.defers .returning w' := by
    rw [h6, List.append_nil]
    refine leaves_marks rs w' h7 (fun r hr => (h8 r hr).2) fun w2 hw2 => ?_
    have hst := h4.shut hw2 h8
    obtain ⟨cv, g1, g2⟩ := resA_sound hst.sim h5 h2
    exact ⟨cv, g2, cv, r, m', κ', rfl, h3, hst, g1⟩
  cases e with
  | normal => exact done
  | ret => exact done
  | exit id => exact h1.elim
  | goto l => exact h1.elim
  | panic c => exact h0.elim
  | outgrown => exact h0.elim

/-! ### Loops over functions -/
def startA (env : List AV) (ps : Array Tmp) (args : List AV) : List AV := (ps.toList.zip args).foldl (fun env x => upd env x.1 x.2) env
theorem startA_rels {κ : K} : ∀ (l : List Nat) (args : List AV) (cl : List Value) (env : List AV) (tmps : Array Value), args.length = cl.length → (∀ i (h : i < args.length) (h' : i < cl.length), Rel κ args[i] cl[i]) → Rels κ env tmps →
    Rels κ ((l.zip args).foldl (fun env x => upd env x.1 x.2) env) ((l.zip cl).foldl (fun tmps x => tmps.setIfInBounds x.1 x.2) tmps)
  | [], _, _, env, tmps, _, _, h => by simpa using h
  | t :: l, [], cl, env, tmps, hl, _, h => by
    have : cl = [] := List.eq_nil_of_length_eq_zero hl.symm
    subst this; simpa using h
  | t :: l, v :: args, [], env, tmps, hl, _, h => by simp at hl
  | t :: l, v :: args, c :: cl, env, tmps, hl, hr, h => by
    simp only [List.zip_cons_cons, List.foldl_cons]
    exact startA_rels l args cl _ _ (by simpa using hl) (fun i a b => hr (i + 1) (by simpa using a) (by simpa using b)) (h.upd t (hr 0 (by simp) (by simp)))

/-- What a round's end comes to. -/
def roundK (n : Nat) (env : List AV) (ps : Array Tmp) (asg body : Code) (K' : AV → Mem → Prop) (e : Exit) (m : Mem) : Prop :=
  m n = some (.loop .busy none env ps asg body) ∧ match e with
  | .normal => K' (.val (.bool true)) (m.set n (.loop .ready none env ps asg body))
  | .ret => K' (.val (.bool false)) (m.set n (.loop .done (some .ret) env ps asg body))
  | .exit id => K' (.val (.bool false)) (m.set n (.loop .done (some (.exit id)) env ps asg body))
  | .goto t => K' (.val (.bool false)) (m.set n (.loop .done (some (.goto t)) env ps asg body))
  | _ => False

theorem Sim.loop {κ : K} {m : Mem} {w : World} (hs : Sim P κ m w) {n : Nat} {st : LoopState} {pend : Option Code} {env : List AV} {ps : Array Tmp} {asg body : Code} (hm : m n = some (.loop st pend env ps asg body)) {l : Loc} (hl : κ.rho n = some (some l)) :
    (∃ r : Loop, w.heap[l.blk]? = some (.loop r) ∧ r.state = st ∧ r.pending = pend ∧ Rels κ env r.tmps ∧ r.params = ps ∧ r.assign = asg ∧ r.body = body) ∧ ∀ o, κ.prot l.blk o = none := by
  rcases hs.blk n _ hm with ⟨l', e1, e2, e3⟩ | ⟨e1, _⟩
  · rw [hl] at e1; cases e1; exact ⟨e2, e3⟩
  · rw [hl] at e1; cases e1
theorem But.setObj (w : World) (r : Nat) (o : Obj) : But w { w with heap := w.heap.setIfInBounds r o } r :=
  ⟨by simp, fun c hc hne => by simp [Array.getElem?_setIfInBounds_ne (Ne.symm hne)], rfl, rfl, rfl⟩
/-- The loop's record turns. -/
theorem Step.loopSet {κ : K} {m : Mem} {w : World} (hs : Sim P κ m w) {n : Nat} {l : Loc} (hl : κ.rho n = some (some l)) {st : LoopState} {pend : Option Code} {env : List AV} {ps : Array Tmp} {asg body : Code} (hm : m n = some (.loop st pend env ps asg body))
    {r : Loop} (hr : w.heap[l.blk]? = some (.loop r)) (h3 : Rels κ env r.tmps) (h4 : r.params = ps) (h5 : r.assign = asg) (h6 : r.body = body) (st' : LoopState) (pend' : Option Code) :
    Step P κ m w κ (m.set n (.loop st' pend' env ps asg body)) { w with heap := w.heap.setIfInBounds l.blk (.loop { r with state := st', pending := pend' }) } := by
  obtain ⟨_, hp⟩ := hs.loop hm hl
  have hlt := (Array.getElem?_eq_some_iff.1 hr).1
  refine Step.change hs (by rw [hm]; simp) hl hp (But.setObj w l.blk _) _ ⟨{ r with state := st', pending := pend' }, ?_, rfl, rfl, h3, h4, h5, h6⟩
  simp [Array.getElem?_setIfInBounds_self, hlt]

/-- A round of the loop n. -/
theorem Y.of_W {n : Nat} {args : List AV} {m : Mem} {K' : AV → Mem → Prop} {env : List AV} {ps : Array Tmp} {asg body : Code} (hm : m n = some (.loop .ready none env ps asg body)) (hps : args.length = ps.size)
    (h : W P (some n) asg (fun e env1 m1 => e = .normal ∧ m1 n = some (.loop .ready none env ps asg body) ∧ W P (some n) body (fun e2 _ m2 => roundK n env ps asg body K' e2 m2) env1 (m1.set n (.loop .busy none env ps asg body)))
      (startA env ps args) m) : Y P n args m K' := by
  intro κ w l cargs hs hl hr
  obtain ⟨⟨r, z1, z2, z3, z4, z5, z6, z7⟩, hp⟩ := hs.loop hm hl
  refine ⟨r.fn, (r.params.zip cargs).foldl (fun tmps (t, a) => tmps.setIfInBounds t a) r.tmps, r.assign, r.body, ?_, ?_⟩
  · have hsz : ¬ (cargs.size ≠ r.params.size) := by rw [z5, ← hps, hr.1]; simp
    simp only [Instr.yield, Instr.getLoop, Sem.run_bind, getObj, Sem.run, z1, Result.andThen_ok, if_neg hsz, Sem.run_pure]
  · refine roundIn_of_wpIn (F := Fence.wide) trivial ?_
    have hstart : Rels κ (startA env ps args) ((r.params.zip cargs).foldl (fun tmps (t, a) => tmps.setIfInBounds t a) r.tmps) := by
      have := startA_rels (κ := κ) ps.toList args cargs.toList env r.tmps (by simpa using hr.1) (fun i a b => by simpa using hr.2 i a (by simpa using b)) z4
      rw [← z5] at this
      rw [show (r.params.zip cargs).foldl (fun tmps (t, a) => tmps.setIfInBounds t a) r.tmps = (r.params.toList.zip cargs.toList).foldl (fun tmps x => tmps.setIfInBounds x.1 x.2) r.tmps from by
        rw [← Array.foldl_toList, Array.toList_zip]]
      rw [startA, ← z5]
      exact this
    have h1 := h κ w { tmps := (r.params.zip cargs).foldl (fun tmps (t, a) => tmps.setIfInBounds t a) r.tmps, defers := [] } (some l.blk) hs hstart ⟨l, hl, rfl⟩
    obtain rfl := z6
    obtain rfl := z7
    refine wpIn_mono h1 ?_
    rintro e a1 w1 ⟨env1, m1, κ1, h0, ⟨rfl, hm1, hW⟩, hst, hr1, hmk⟩
    have hl1 := hst.le.rho _ _ hl
    obtain ⟨⟨r1, y1, y2, y3, y4, y5, y6, y7⟩, hp1⟩ := hst.sim.loop hm1 hl1
    have hst2 := Step.loopSet hst.sim hl1 hm1 y1 y4 y5 y6 y7 .busy none
    refine ⟨{ w1 with heap := w1.heap.setIfInBounds l.blk (.loop { r1 with state := .busy, pending := none }) }, ?_, ?_⟩
    · simp [Instr.beginRound, Instr.getLoop, getObj, setObj, Sem.run, y1, y2, ← y3]
    · have h2 := hW κ1 _ a1 (some l.blk) hst2.sim hr1 ⟨l, hl1, rfl⟩
      refine wpIn_mono h2 ?_
      rintro e2 a2 w2 ⟨env2, m2, κ2, g0, ⟨gm, g1⟩, g2, g3, g4⟩
      have hl2 := g2.le.rho _ _ hl1
      obtain ⟨⟨r2, x1, x2, x3, x4, x5, x6, x7⟩, hp2⟩ := g2.sim.loop gm hl2
      have fin : ∀ (jump : Option Code), ∃ w3, (Instr.endRound l.blk jump).run P w2 = .ok (.bool jump.isNone) w3 ∧
          Step P κ m w κ2 (m2.set n (.loop (if jump.isNone then .ready else .done) jump env ps r.assign r.body)) w3 := fun jump =>
        ⟨_, by simp only [Instr.endRound, Instr.getLoop, Sem.run_bind, getObj, setObj, Sem.run, x1, Result.andThen_ok, Sem.run_pure],
          (hst.trans (hst2.trans g2)).trans (Step.loopSet g2.sim hl2 gm x1 x4 x5 x6 x7 _ jump)⟩
      cases e2 with
      | normal =>
        obtain ⟨w3, q1, q2⟩ := fin none
        exact ⟨.bool true, w3, q1, .bool true, _, _, κ2, rfl, g1, q2, .val rfl⟩
      | ret =>
        obtain ⟨w3, q1, q2⟩ := fin (some .ret)
        exact ⟨.bool false, w3, q1, .bool false, _, _, κ2, rfl, g1, q2, .val rfl⟩
      | exit id =>
        obtain ⟨w3, q1, q2⟩ := fin (some (.exit id))
        exact ⟨.bool false, w3, q1, .bool false, _, _, κ2, rfl, g1, q2, .val rfl⟩
      | goto t =>
        obtain ⟨w3, q1, q2⟩ := fin (some (.goto t))
        exact ⟨.bool false, w3, q1, .bool false, _, _, κ2, rfl, g1, q2, .val rfl⟩
      | panic c => exact g0.elim
      | outgrown => exact g0.elim

/-- What is asked behind the function that was ranged over. -/
def rangeK (n : Nat) (env : List AV) (ps : Array Tmp) (asg body : Code) (Q : Exit → List AV → Mem → Prop) (m : Mem) : Prop :=
  ∃ st pend, m n = some (.loop st pend env ps asg body) ∧ (st == .busy) = false ∧ match pend with
  | none => Q .normal env (m.del n)
  | some .ret => Q .ret env (m.del n)
  | some (.exit id) => Q (.exit id) env (m.del n)
  | some (.goto t) => Q (.goto t) env (m.del n)
  | _ => False

/-- for .. := range g { .. } -/
theorem W.range {rd : Option Nat} {Q : Exit → List AV → Mem → Prop} {env : List AV} {m : Mem} {g : Operand} {ps : Array Tmp} {asg body : Code} {f : FuncId} {first caps : List AV} (hg : evA env g = .fn (.func f) first caps)
    (hrd : ∀ n, rd = some n → ∃ st pend env ps asg body, m n = some (.loop st pend env ps asg body))
    (h : ∀ n, m n = none → C P f (first ++ [.yld n] ++ caps) (m.set n (.loop .ready none env ps asg body)) (fun _ m' => rangeK n env ps asg body Q m')) : W P rd (.rangeFunc g ps asg body) Q env m := by
  intro κ w a crd hs hr hd
  refine wpIn_rangeFunc ?_
  intro fn _
  obtain ⟨n, hrn, hmn⟩ := hs.fresh
  obtain ⟨⟨fnc, hfn, hbn, hname⟩, hC⟩ := h n hmn
  -- the record, and what it lies on
  have enter : ∃ (mark : List Deferred) (w1 : World) (l : Nat) (wm : World) (rec : Loop), (Instr.enterLoop fn a.tmps ps asg body crd).run P w = .ok (l, mark) w1 ∧ Step P κ m w κ m wm ∧ l = wm.heap.size ∧ w1 = wm.alloc (.loop rec) ∧
      rec.state = .ready ∧ rec.pending = none ∧ rec.tmps = a.tmps ∧ rec.params = ps ∧ rec.assign = asg ∧ rec.body = body ∧
      (mark = [] ∨ ∃ r, mark = [markOf r] ∧ w.heap.size ≤ r ∧ r < wm.heap.size ∧ wm.heap[r]? = some (.deferred (some []))) := by
    cases crd with
    | none =>
      refine ⟨[markOf w.heap.size], _, _, w.alloc (.deferred (some [])), { state := .ready, pending := none, fn, tmps := a.tmps, params := ps, assign := asg, body, defers := w.heap.size }, ?_, ?_, rfl, rfl, rfl, rfl, rfl, rfl, rfl, rfl, .inr ⟨w.heap.size, rfl, Nat.le_refl _, by simp, heap_alloc_new' w _⟩⟩
      · simp only [Instr.enterLoop, Sem.run_bind, run_newObj, Result.andThen_ok, Sem.run_pure]; rfl
      · exact Step.quiet hs fun g => But.alloc w _ g
    | some c =>
      cases rd with
      | none => exact hd.elim
      | some n0 =>
        obtain ⟨l0, e1, e2⟩ := hd
        obtain ⟨st, pend, env0, ps0, asg0, body0, hm0⟩ := hrd n0 rfl
        obtain ⟨⟨r0, z1, _⟩, _⟩ := hs.loop hm0 e1
        rw [e2] at z1
        refine ⟨[], _, _, w, { state := .ready, pending := none, fn, tmps := a.tmps, params := ps, assign := asg, body, defers := r0.defers }, ?_, Step.refl hs, rfl, rfl, rfl, rfl, rfl, rfl, rfl, rfl, .inl rfl⟩
        simp only [Instr.enterLoop, Instr.getLoop, Sem.run_bind, getObj, Sem.run, z1, Result.andThen_ok, Sem.run_pure, run_newObj]; rfl
  obtain ⟨mark, w1, l, wm, rec, he, hstm, hl, hw1, r1, r2, r3, r4, r5, r6, hmark⟩ := enter
  subst hl hw1
  have hst1 := Step.alloc (w' := wm.alloc (.loop rec)) hstm.sim hmn hrn (l := ⟨wm.heap.size, 0, 0, 0, 0⟩) (Nat.le_refl _) (by simp) (But.alloc wm _ _) (.loop .ready none env ps asg body)
    ⟨rec, heap_alloc_new' wm _, r1, r2, by rw [r3]; exact hr.mono (K.le_add hrn), r4, r5, r6⟩
  have hfv := evA_rel hr g
  rw [hg] at hfv
  generalize hcf : a.eval g = cf at hfv
  cases hfv with
  | @fn _ _ _ fa ca g0 g1 g2 g3 g4 =>
    have hle1 : κ.le (κ.add n ⟨wm.heap.size, 0, 0, 0, 0⟩) := K.le_add hrn
    have hyld : Rels (κ.add n ⟨wm.heap.size, 0, 0, 0, 0⟩) [AV.yld n] #[.func (.yield wm.heap.size) #[] #[]] :=
      ⟨rfl, fun i h1 h2 => by
        have : i = 0 := by simpa using h1
        subst this; exact .yld (K.add_same ..)⟩
    have hargs : Rels (κ.add n ⟨wm.heap.size, 0, 0, 0, 0⟩) (first ++ [.yld n] ++ caps) ((fa ++ #[.func (.yield wm.heap.size) #[] #[]]) ++ ca) :=
      rels_append (rels_append (Rels.mono hle1 ⟨g1, g2⟩) hyld) (Rels.mono hle1 ⟨g3, g4⟩)
    have hcall := hC _ _ _ hst1.sim hargs
    refine ⟨wm.heap.size, mark, wm.alloc (.loop rec), { target := .fn (.func f) ca, args := fa ++ #[.func (.yield wm.heap.size) #[] #[]] }, wm.alloc (.loop rec), f, (fa ++ #[.func (.yield wm.heap.size) #[] #[]]) ++ ca, wm.alloc (.loop rec), he, ?_, fun _ _ => trivial, ?_, Fr_depth crd, ?_⟩
    · simp only [resolve, rangeCall, hcf, Deferred.ofValue, Sem.run_pure, List.map_toArray, List.map_cons, List.map_nil]
      rfl
    · simp only [invoke, callFunc, Sem.run_bind, run_program, Result.andThen_ok, hfn, hname, hbn, Bool.false_eq_true, if_false, Sem.run_pure]
    · have hcall' : CallsIn (Fr crd) (0 - 1) P f ((fa ++ #[.func (.yield wm.heap.size) #[] #[]]) ++ ca) (wm.alloc (.loop rec)) _ := hcall
      refine hcall'.mono ?_
      rintro e w2 ⟨cv, r, m2, κ2, rfl, ⟨st, pend, k1, k2, k3⟩, hst2, _⟩
      have hl2 := hst2.le.rho _ _ (K.add_same κ n ⟨wm.heap.size, 0, 0, 0, 0⟩)
      obtain ⟨⟨r2', x1, x2, x3, x4, x5, x6, x7⟩, hp2⟩ := hst2.sim.loop k1 hl2
      have hst3 := Step.loopSet hst2.sim hl2 k1 x1 x4 x5 x6 x7 .exhausted pend
      have hall := ((hstm.trans hst1).trans (hst2.trans hst3)).sub (m'' := m2.del n) (fun q b hq => by
        by_cases e : q = n
        · subst e; simp at hq
        · rw [Mem.set_ne _ _ e]; exact Mem.del_sub m2 n q b hq)
      have hnb : (r2'.state == LoopState.busy) = false := by rw [x2]; exact k2
      refine ⟨pend, { w2 with heap := w2.heap.setIfInBounds wm.heap.size (.loop { r2' with state := .exhausted, pending := pend }) }, ?_, ?_⟩
      · simp only [Instr.endLoop, Instr.getLoop, Sem.run_bind, getObj, setObj, Sem.run, x1, Result.andThen_ok, hnb, Bool.false_eq_true, if_false, Sem.run_pure, x3]
      · have hrel : Rels κ2 env a.tmps := hr.mono (hle1.trans hst2.le)
        have hmk : Marks w { w2 with heap := w2.heap.setIfInBounds wm.heap.size (.loop { r2' with state := .exhausted, pending := pend }) } a.defers (mark ++ a.defers) := by
          rcases hmark with rfl | ⟨r, rfl, q1, q2, q3⟩
          · exact Marks.refl ..
          · refine ⟨[r], rfl, by simp, fun r' hr' => ?_⟩
            have : r' = r := by simpa using hr'
            subst this
            refine ⟨q1, ?_⟩
            have e1 : (wm.alloc (.loop rec)).heap[r']? = some (.deferred (some [])) := by
              show (wm.heap.push _)[r']? = _
              rw [Array.getElem?_push, if_neg (by omega)]; exact q3
            have e2 := (hst2.frame r' (by simp; omega) (hst1.sim.notBacks e1)).trans e1
            have : wm.heap.size ≠ r' := by omega
            simp only [Array.getElem?_setIfInBounds_ne this]
            exact e2
        have fin : ∀ e, calm e → Q e env (m2.del n) → _ := fun e hc hq =>
          (⟨env, m2.del n, κ2, hc, hq, hall, hrel, hmk⟩ : ∃ env' m' κ', calm e ∧ Q e env' m' ∧ Step P κ m w κ' m' { w2 with heap := w2.heap.setIfInBounds wm.heap.size (.loop { r2' with state := .exhausted, pending := pend }) } ∧ Rels κ' env' a.tmps ∧ Marks w { w2 with heap := w2.heap.setIfInBounds wm.heap.size (.loop { r2' with state := .exhausted, pending := pend }) } a.defers (mark ++ a.defers))
        cases pend with
        | none => exact fin .normal trivial k3
        | some c =>
          simp only
          cases c with
          | ret => exact wpIn_ret (fin .ret trivial k3)
          | exit id => exact wpIn_exit (fin (.exit id) trivial k3)
          | goto t => exact wpIn_goto (fin (.goto t) trivial k3)
          | _ => exact k3.elim
end Go.Abs
