/- The texts A14 A15 A16 A17 A18 A19 A20 A21 A22 A23 A24 A25 A26 A27 A28 A29 A30 A31: what is proved on the way to the law. No conditions but those each theorem states. -/
import Derived.Test.YtdhbonjbjnodhaaM1
import Derived.WalkKit
import Derived.ProofKit
import Derived.OpenShut
import Derived.ChangeOld
import Derived.Below
import Derived.Carry
import Derived.SizedLaws
import Derived.Lib.Overlaps
import Derived.Deep.CondSized
set_option linter.unusedVariables false
set_option linter.unusedSimpArgs false
namespace Go.Abs
variable {P : Program}
def resOne (P : Program) (m : Mem) (env : List AV) : ResultVar → Option AV
  | .tmp t => some (nth env t)
  | .cell a t => loadA P m t (nth env a)
def resA (P : Program) (fn : Func) (env : List AV) (m : Mem) : Option AV :=
  match fn.results.toList.mapM (resOne P m env) with
  | some [v] => some v
  | some vs => some (.tup vs)
  | none => none
def resC (tmps : Array Value) : ResultVar → Sem Value
  | .tmp t => pure (tmps.getD t undef)
  | .cell a t => do loadVar t (← asAddr (tmps.getD a undef))
theorem resOne_sound {κ : K} {m : Mem} {w : World} (hs : Sim P κ m w) {env : List AV} {tmps : Array Value} (hr : Rels κ env tmps) {x : ResultVar} {v : AV} (h : resOne P m env x = some v) :
    ∃ cv, Rel κ v cv ∧ (resC tmps x).run P w = .ok cv w := by
  cases x with
  | tmp t => simp only [resOne] at h; cases h; exact ⟨_, hr.nth t, rfl⟩
  | cell a t =>
    simp only [resOne] at h
    obtain ⟨cv, h1, h2⟩ := loadA_sound hs h (hr.nth a)
    refine ⟨cv, h1, ?_⟩
    have h2 := h2 w (Ext.refl w)
    simp only [resC]
    generalize tmps.getD a undef = p at h2
    cases p with
    | pointer ad => cases ad with
      | some ad => simpa [Instr.loadAt, Instr.sureAddr, asAddr] using h2
      | none => simp [Instr.loadAt, Instr.sureAddr] at h2
    | _ => simp [Instr.loadAt, Instr.sureAddr] at h2
theorem resAll_sound {κ : K} {m : Mem} {w : World} (hs : Sim P κ m w) {env : List AV} {tmps : Array Value} (hr : Rels κ env tmps) : ∀ (l : List ResultVar) (vs : List AV), l.mapM (resOne P m env) = some vs →
    ∃ cs : List Value, (l.mapM (resC tmps)).run P w = .ok cs w ∧ vs.length = cs.length ∧
      ∀ i (h : i < vs.length) (h' : i < cs.length), Rel κ vs[i] cs[i]
  | [], vs, h => by simp at h; subst h; exact ⟨[], rfl, rfl, fun i h => by simp at h⟩
  | x :: l, vs, h => by
    simp only [List.mapM_cons, Option.bind_eq_bind, Option.bind_eq_some_iff, Option.pure_def, Option.some.injEq] at h
    obtain ⟨v, h1, vs', h2, rfl⟩ := h
    obtain ⟨cv, g1, g2⟩ := resOne_sound hs hr h1
    obtain ⟨cs, q1, q2, q3⟩ := resAll_sound hs hr l vs' h2
    refine ⟨cv :: cs, ?_, by simp [q2], fun i a b => ?_⟩
    · rw [List.mapM_cons, Sem.run_bind, g2]
      simp only [Result.andThen_ok, Sem.run_bind, q1, Sem.run_pure]
    · cases i with
      | zero => exact g1
      | succ i => exact q3 i (by simpa using a) (by simpa using b)
theorem resA_sound {κ : K} {m : Mem} {w : World} (hs : Sim P κ m w) {env : List AV} {tmps : Array Value} (hr : Rels κ env tmps) {fn : Func} {r : AV} (h : resA P fn env m = some r) :
    ∃ cv, Rel κ r cv ∧ (results fn tmps).run P w = .ok cv w := by
  unfold resA at h
  have run : ∀ vs, fn.results.toList.mapM (resOne P m env) = some vs → ∃ cs : List Value, (results fn tmps).run P w = .ok (if h : cs.toArray.size = 1 then cs.toArray[0] else .tuple cs.toArray) w ∧ vs.length = cs.length ∧
      ∀ i (h : i < vs.length) (h' : i < cs.length), Rel κ vs[i] cs[i] := fun vs hv => by
    obtain ⟨cs, q1, q2, q3⟩ := resAll_sound hs hr _ _ hv
    refine ⟨cs, ?_, q2, q3⟩
    have e : results fn tmps = (fn.results.mapM (resC tmps) >>= fun vs => pure (if h : vs.size = 1 then vs[0] else .tuple vs)) := by
      unfold results
      congr 1
      all_goals (try (congr 1; funext x; cases x <;> rfl))
    rw [e, Sem.run_bind, Array.mapM_eq_mapM_toList, Sem.run_map, q1]
    simp only [Result.andThen_ok, Sem.run_pure]
  split at h
  · rename_i v hv
    cases h
    obtain ⟨cs, q1, q2, q3⟩ := run _ hv
    cases cs with
    | nil => simp at q2
    | cons c cs =>
      cases cs with
      | cons _ _ => simp at q2
      | nil => exact ⟨c, q3 0 (by simp) (by simp), by rw [q1]; rfl⟩
  · rename_i vs hne hv
    cases h
    obtain ⟨cs, q1, q2, q3⟩ := run _ hv
    refine ⟨.tuple cs.toArray, .tup (by simp [q2]) (fun i a b => by simpa using q3 i a (by simpa using b)), ?_⟩
    rw [q1]
    have : ¬ (cs.toArray.size = 1) := fun e => by
      have : vs.length = 1 := by rw [q2]; simpa using e
      match vs, this with
      | [v], _ => exact hne v rfl
    rw [dif_neg this]
  · cases h
structure Shut (rs : List Nat) (w w' : World) : Prop where
  size : w'.heap.size = w.heap.size
  blk : ∀ c, c ∉ rs → w'.heap[c]? = w.heap[c]?
  os : w'.os = w.os
  tape : w'.tape = w.tape
  output : w'.output = w.output
theorem leaves_marks {F : Fence} {n : Nat} {fn : Func} {tmps : Array Value} {R : Ending → World → Prop} : ∀ (rs : List Nat) (w : World), rs.Nodup → (∀ r ∈ rs, w.heap[r]? = some (.deferred (some []))) →
    (∀ w', Shut rs w w' → LeavesIn F n P fn tmps R [] .returning w') → LeavesInM F n P fn tmps R (rs.map markOf) .returning w
  | [], w, _, _, h => h w ⟨rfl, fun _ _ => rfl, rfl, rfl, rfl⟩
  | r :: rs, w, hn, hd, h => by
    have hr := hd r (by simp)
    have hlt := (Array.getElem?_eq_some_iff.1 hr).1
    rw [List.nodup_cons] at hn
    refine ⟨by simp, .inl ⟨r, { w with heap := w.heap.setIfInBounds r (.deferred none) }, rfl, ?_, ?_⟩⟩
    · simp [Instr.takeDeferred, getObj, setObj, Sem.run, hr]
    · refine leaves_marks rs _ hn.2 (fun q hq => ?_) fun w' hw' => h w' ⟨by rw [hw'.size]; simp, fun c hc => ?_, hw'.os, hw'.tape, hw'.output⟩
      · have : r ≠ q := fun e => hn.1 (e ▸ hq)
        simp only [Array.getElem?_setIfInBounds_ne this]
        exact hd q (by simp [hq])
      · rw [hw'.blk c (fun h => hc (by simp [h]))]
        have : r ≠ c := fun e => hc (by simp [e])
        simp only [Array.getElem?_setIfInBounds_ne this]
theorem Step.shut {κ κ' : K} {m m' : Mem} {w w1 w2 : World} {rs : List Nat} (h : Step P κ m w κ' m' w1) (hs : Shut rs w1 w2) (hd : ∀ r ∈ rs, w.heap.size ≤ r ∧ w1.heap[r]? = some (.deferred (some []))) : Step P κ m w κ' m' w2 := by
  refine ⟨h.le, ⟨?_, ?_, ?_, h.sim.excl, h.sim.fin⟩, by rw [hs.size]; exact h.size, ?_, h.origin, hs.os.trans h.os, hs.tape.trans h.tape, hs.output.trans h.output, h.porigin, h.dead⟩
  · intro c o v hp
    have hc := h.sim.prot c o v hp
    have hne : c ∉ rs := fun hr => by
      have := (hd c hr).2
      simp [World.cell?, this] at hc
    rw [cell_of_heap (hs.blk c hne)]
    exact hc
  · intro k b hk
    rcases h.sim.blk k b hk with ⟨l, h1, h2, h3⟩ | h'
    · refine .inl ⟨l, h1, h2.congr (hs.blk _ fun hr => ?_), h3⟩
      exact h.sim.notBacks (hd _ hr).2 ⟨k, l, h1, by rw [hk]; simp, rfl⟩
    · exact .inr h'
  · exact fun k l hk => by rw [hs.size]; exact h.sim.lt k l hk
  · intro c hc hb
    rw [hs.blk c (fun hr => by have := (hd c hr).1; omega)]
    exact h.frame c hc hb
theorem rels_start {κ : K} {args : List AV} {cargs : Array Value} (h : Rels κ args cargs) (n : Nat) : Rels κ (args ++ List.replicate (n - args.length) (.tup [])) (cargs ++ Array.replicate (n - cargs.size) undef) := by
  rw [h.1]
  exact rels_append h ⟨by simp, fun i a b => by simp; exact .tup rfl fun i h => by simp at h⟩
theorem C.of_W {f : FuncId} {fn : Func} {c : Code} {args : List AV} {m : Mem} {K' : AV → Mem → Prop} (hf : P.funcs[f]? = some fn) (hb : fn.body = some c) (hnm : (fn.name == "runtime.NumGoroutine") = false)
    (h : W P none c (fun e env' m' => (match e with | .normal | .ret => True | _ => False) ∧ ∃ r, resA P fn env' m' = some r ∧ K' r m') (args ++ List.replicate (fn.ntmps - args.length) (.tup [])) m) : C P f args m K' := by
  refine ⟨⟨fn, hf, by rw [hb]; rfl, hnm⟩, fun κ w cargs hs hr => ?_⟩
  refine callsIn_of_wp_marks (F := Fence.wide) hf hb trivial ?_
  have hw := h κ w { tmps := cargs ++ Array.replicate (fn.ntmps - cargs.size) undef, defers := [] } none hs (rels_start hr fn.ntmps) trivial
  refine wpIn_mono hw ?_
  rintro e a' w' ⟨env', m', κ', h0, ⟨h1, r, h2, h3⟩, h4, h5, rs, h6, h7, h8⟩
  have done : LeavesInM Fence.wide 0 P fn a'.tmps (fun e w' => ∃ cv r m' κ', e = .returned cv ∧ K' r m' ∧ Step P κ m w κ' m' w' ∧ Rel κ' r cv) a'.defers .returning w' := by
    rw [h6, List.append_nil]
    refine leaves_marks rs w' h7 (fun r hr => (h8 r hr).2) fun w2 hw2 => ?_
    have hst := h4.shut hw2 h8
    obtain ⟨cv, g1, g2⟩ := resA_sound hst.sim h5 h2
    exact ⟨cv, g2, cv, r, m', κ', rfl, h3, hst, g1⟩
  cases e with
  | normal => exact done
  | ret => exact done
  | exit id => exact h1.elim
  | goto l => exact h1.elim
  | panic c => exact h0.elim
  | outgrown => exact h0.elim
def startA (env : List AV) (ps : Array Tmp) (args : List AV) : List AV := (ps.toList.zip args).foldl (fun env x => upd env x.1 x.2) env
theorem startA_rels {κ : K} : ∀ (l : List Nat) (args : List AV) (cl : List Value) (env : List AV) (tmps : Array Value), args.length = cl.length → (∀ i (h : i < args.length) (h' : i < cl.length), Rel κ args[i] cl[i]) → Rels κ env tmps →
    Rels κ ((l.zip args).foldl (fun env x => upd env x.1 x.2) env) ((l.zip cl).foldl (fun tmps x => tmps.setIfInBounds x.1 x.2) tmps)
  | [], _, _, env, tmps, _, _, h => by simpa using h
  | t :: l, [], cl, env, tmps, hl, _, h => by
    have : cl = [] := List.eq_nil_of_length_eq_zero hl.symm
    subst this; simpa using h
  | t :: l, v :: args, [], env, tmps, hl, _, h => by simp at hl
  | t :: l, v :: args, c :: cl, env, tmps, hl, hr, h => by
    simp only [List.zip_cons_cons, List.foldl_cons]
    exact startA_rels l args cl _ _ (by simpa using hl) (fun i a b => hr (i + 1) (by simpa using a) (by simpa using b)) (h.upd t (hr 0 (by simp) (by simp)))
def roundK (n : Nat) (env : List AV) (ps : Array Tmp) (asg body : Code) (K' : AV → Mem → Prop) (e : Exit) (m : Mem) : Prop :=
  m n = some (.loop .busy none env ps asg body) ∧ match e with
  | .normal => K' (.val (.bool true)) (m.set n (.loop .ready none env ps asg body))
  | .ret => K' (.val (.bool false)) (m.set n (.loop .done (some .ret) env ps asg body))
  | .exit id => K' (.val (.bool false)) (m.set n (.loop .done (some (.exit id)) env ps asg body))
  | .goto t => K' (.val (.bool false)) (m.set n (.loop .done (some (.goto t)) env ps asg body))
  | _ => False
theorem Sim.loop {κ : K} {m : Mem} {w : World} (hs : Sim P κ m w) {n : Nat} {st : LoopState} {pend : Option Code} {env : List AV} {ps : Array Tmp} {asg body : Code} (hm : m n = some (.loop st pend env ps asg body)) {l : Loc} (hl : κ.rho n = some (some l)) :
    (∃ r : Loop, w.heap[l.blk]? = some (.loop r) ∧ r.state = st ∧ r.pending = pend ∧ Rels κ env r.tmps ∧ r.params = ps ∧ r.assign = asg ∧ r.body = body) ∧ ∀ o, κ.prot l.blk o = none := by
  rcases hs.blk n _ hm with ⟨l', e1, e2, e3⟩ | ⟨e1, _⟩
  · rw [hl] at e1; cases e1; exact ⟨e2, e3⟩
  · rw [hl] at e1; cases e1
theorem But.setObj (w : World) (r : Nat) (o : Obj) : But w { w with heap := w.heap.setIfInBounds r o } r :=
  ⟨by simp, fun c hc hne => by simp [Array.getElem?_setIfInBounds_ne (Ne.symm hne)], rfl, rfl, rfl⟩
theorem Step.loopSet {κ : K} {m : Mem} {w : World} (hs : Sim P κ m w) {n : Nat} {l : Loc} (hl : κ.rho n = some (some l)) {st : LoopState} {pend : Option Code} {env : List AV} {ps : Array Tmp} {asg body : Code} (hm : m n = some (.loop st pend env ps asg body))
    {r : Loop} (hr : w.heap[l.blk]? = some (.loop r)) (h3 : Rels κ env r.tmps) (h4 : r.params = ps) (h5 : r.assign = asg) (h6 : r.body = body) (st' : LoopState) (pend' : Option Code) :
    Step P κ m w κ (m.set n (.loop st' pend' env ps asg body)) { w with heap := w.heap.setIfInBounds l.blk (.loop { r with state := st', pending := pend' }) } := by
  obtain ⟨_, hp⟩ := hs.loop hm hl
  have hlt := (Array.getElem?_eq_some_iff.1 hr).1
  refine Step.change hs (by rw [hm]; simp) hl hp (But.setObj w l.blk _) _ ⟨{ r with state := st', pending := pend' }, ?_, rfl, rfl, h3, h4, h5, h6⟩
  simp [Array.getElem?_setIfInBounds_self, hlt]
theorem Y.of_W {n : Nat} {args : List AV} {m : Mem} {K' : AV → Mem → Prop} {env : List AV} {ps : Array Tmp} {asg body : Code} (hm : m n = some (.loop .ready none env ps asg body)) (hps : args.length = ps.size)
    (h : W P (some n) asg (fun e env1 m1 => e = .normal ∧ m1 n = some (.loop .ready none env ps asg body) ∧ W P (some n) body (fun e2 _ m2 => roundK n env ps asg body K' e2 m2) env1 (m1.set n (.loop .busy none env ps asg body)))
      (startA env ps args) m) : Y P n args m K' := by
  intro κ w l cargs hs hl hr
  obtain ⟨⟨r, z1, z2, z3, z4, z5, z6, z7⟩, hp⟩ := hs.loop hm hl
  refine ⟨r.fn, (r.params.zip cargs).foldl (fun tmps (t, a) => tmps.setIfInBounds t a) r.tmps, r.assign, r.body, ?_, ?_⟩
  · have hsz : ¬ (cargs.size ≠ r.params.size) := by rw [z5, ← hps, hr.1]; simp
    simp only [Instr.yield, Instr.getLoop, Sem.run_bind, getObj, Sem.run, z1, Result.andThen_ok, if_neg hsz, Sem.run_pure]
  · refine roundIn_of_wpIn (F := Fence.wide) trivial ?_
    have hstart : Rels κ (startA env ps args) ((r.params.zip cargs).foldl (fun tmps (t, a) => tmps.setIfInBounds t a) r.tmps) := by
      have := startA_rels (κ := κ) ps.toList args cargs.toList env r.tmps (by simpa using hr.1) (fun i a b => by simpa using hr.2 i a (by simpa using b)) z4
      rw [← z5] at this
      rw [show (r.params.zip cargs).foldl (fun tmps (t, a) => tmps.setIfInBounds t a) r.tmps = (r.params.toList.zip cargs.toList).foldl (fun tmps x => tmps.setIfInBounds x.1 x.2) r.tmps from by
        rw [← Array.foldl_toList, Array.toList_zip]]
      rw [startA, ← z5]
      exact this
    have h1 := h κ w { tmps := (r.params.zip cargs).foldl (fun tmps (t, a) => tmps.setIfInBounds t a) r.tmps, defers := [] } (some l.blk) hs hstart ⟨l, hl, rfl⟩
    obtain rfl := z6
    obtain rfl := z7
    refine wpIn_mono h1 ?_
    rintro e a1 w1 ⟨env1, m1, κ1, h0, ⟨rfl, hm1, hW⟩, hst, hr1, hmk⟩
    have hl1 := hst.le.rho _ _ hl
    obtain ⟨⟨r1, y1, y2, y3, y4, y5, y6, y7⟩, hp1⟩ := hst.sim.loop hm1 hl1
    have hst2 := Step.loopSet hst.sim hl1 hm1 y1 y4 y5 y6 y7 .busy none
    refine ⟨{ w1 with heap := w1.heap.setIfInBounds l.blk (.loop { r1 with state := .busy, pending := none }) }, ?_, ?_⟩
    · simp [Instr.beginRound, Instr.getLoop, getObj, setObj, Sem.run, y1, y2, ← y3]
    · have h2 := hW κ1 _ a1 (some l.blk) hst2.sim hr1 ⟨l, hl1, rfl⟩
      refine wpIn_mono h2 ?_
      rintro e2 a2 w2 ⟨env2, m2, κ2, g0, ⟨gm, g1⟩, g2, g3, g4⟩
      have hl2 := g2.le.rho _ _ hl1
      obtain ⟨⟨r2, x1, x2, x3, x4, x5, x6, x7⟩, hp2⟩ := g2.sim.loop gm hl2
      have fin : ∀ (jump : Option Code), ∃ w3, (Instr.endRound l.blk jump).run P w2 = .ok (.bool jump.isNone) w3 ∧
          Step P κ m w κ2 (m2.set n (.loop (if jump.isNone then .ready else .done) jump env ps r.assign r.body)) w3 := fun jump =>
        ⟨_, by simp only [Instr.endRound, Instr.getLoop, Sem.run_bind, getObj, setObj, Sem.run, x1, Result.andThen_ok, Sem.run_pure],
          (hst.trans (hst2.trans g2)).trans (Step.loopSet g2.sim hl2 gm x1 x4 x5 x6 x7 _ jump)⟩
      cases e2 with
      | normal =>
        obtain ⟨w3, q1, q2⟩ := fin none
        exact ⟨.bool true, w3, q1, .bool true, _, _, κ2, rfl, g1, q2, .val rfl⟩
      | ret =>
        obtain ⟨w3, q1, q2⟩ := fin (some .ret)
        exact ⟨.bool false, w3, q1, .bool false, _, _, κ2, rfl, g1, q2, .val rfl⟩
      | exit id =>
        obtain ⟨w3, q1, q2⟩ := fin (some (.exit id))
        exact ⟨.bool false, w3, q1, .bool false, _, _, κ2, rfl, g1, q2, .val rfl⟩
      | goto t =>
        obtain ⟨w3, q1, q2⟩ := fin (some (.goto t))
        exact ⟨.bool false, w3, q1, .bool false, _, _, κ2, rfl, g1, q2, .val rfl⟩
      | panic c => exact g0.elim
      | outgrown => exact g0.elim
def rangeK (n : Nat) (env : List AV) (ps : Array Tmp) (asg body : Code) (Q : Exit → List AV → Mem → Prop) (m : Mem) : Prop :=
  ∃ st pend, m n = some (.loop st pend env ps asg body) ∧ (st == .busy) = false ∧ match pend with
  | none => Q .normal env (m.del n)
  | some .ret => Q .ret env (m.del n)
  | some (.exit id) => Q (.exit id) env (m.del n)
  | some (.goto t) => Q (.goto t) env (m.del n)
  | _ => False
theorem W.range {rd : Option Nat} {Q : Exit → List AV → Mem → Prop} {env : List AV} {m : Mem} {g : Operand} {ps : Array Tmp} {asg body : Code} {f : FuncId} {first caps : List AV} (hg : evA env g = .fn (.func f) first caps)
    (hrd : ∀ n, rd = some n → ∃ st pend env ps asg body, m n = some (.loop st pend env ps asg body))
    (h : ∀ n, m n = none → C P f (first ++ [.yld n] ++ caps) (m.set n (.loop .ready none env ps asg body)) (fun _ m' => rangeK n env ps asg body Q m')) : W P rd (.rangeFunc g ps asg body) Q env m := by
  intro κ w a crd hs hr hd
  refine wpIn_rangeFunc ?_
  intro fn _
  obtain ⟨n, hrn, hmn⟩ := hs.fresh
  obtain ⟨⟨fnc, hfn, hbn, hname⟩, hC⟩ := h n hmn
  -- the record, and what it lies on
  have enter : ∃ (mark : List Deferred) (w1 : World) (l : Nat) (wm : World) (rec : Loop), (Instr.enterLoop fn a.tmps ps asg body crd).run P w = .ok (l, mark) w1 ∧ Step P κ m w κ m wm ∧ l = wm.heap.size ∧ w1 = wm.alloc (.loop rec) ∧
      rec.state = .ready ∧ rec.pending = none ∧ rec.tmps = a.tmps ∧ rec.params = ps ∧ rec.assign = asg ∧ rec.body = body ∧
      (mark = [] ∨ ∃ r, mark = [markOf r] ∧ w.heap.size ≤ r ∧ r < wm.heap.size ∧ wm.heap[r]? = some (.deferred (some []))) := by
    cases crd with
    | none =>
      refine ⟨[markOf w.heap.size], _, _, w.alloc (.deferred (some [])), { state := .ready, pending := none, fn, tmps := a.tmps, params := ps, assign := asg, body, defers := w.heap.size }, ?_, ?_, rfl, rfl, rfl, rfl, rfl, rfl, rfl, rfl, .inr ⟨w.heap.size, rfl, Nat.le_refl _, by simp, heap_alloc_new' w _⟩⟩
      · simp only [Instr.enterLoop, Sem.run_bind, run_newObj, Result.andThen_ok, Sem.run_pure]; rfl
      · exact Step.quiet hs fun g => But.alloc w _ g
    | some c =>
      cases rd with
      | none => exact hd.elim
      | some n0 =>
        obtain ⟨l0, e1, e2⟩ := hd
        obtain ⟨st, pend, env0, ps0, asg0, body0, hm0⟩ := hrd n0 rfl
        obtain ⟨⟨r0, z1, _⟩, _⟩ := hs.loop hm0 e1
        rw [e2] at z1
        refine ⟨[], _, _, w, { state := .ready, pending := none, fn, tmps := a.tmps, params := ps, assign := asg, body, defers := r0.defers }, ?_, Step.refl hs, rfl, rfl, rfl, rfl, rfl, rfl, rfl, rfl, .inl rfl⟩
        simp only [Instr.enterLoop, Instr.getLoop, Sem.run_bind, getObj, Sem.run, z1, Result.andThen_ok, Sem.run_pure, run_newObj]; rfl
  obtain ⟨mark, w1, l, wm, rec, he, hstm, hl, hw1, r1, r2, r3, r4, r5, r6, hmark⟩ := enter
  subst hl hw1
  have hst1 := Step.alloc (w' := wm.alloc (.loop rec)) hstm.sim hmn hrn (l := ⟨wm.heap.size, 0, 0, 0, 0⟩) (Nat.le_refl _) (by simp) (But.alloc wm _ _) (.loop .ready none env ps asg body)
    ⟨rec, heap_alloc_new' wm _, r1, r2, by rw [r3]; exact hr.mono (K.le_add hrn), r4, r5, r6⟩
  have hfv := evA_rel hr g
  rw [hg] at hfv
  generalize hcf : a.eval g = cf at hfv
  cases hfv with
  | @fn _ _ _ fa ca g0 g1 g2 g3 g4 =>
    have hle1 : κ.le (κ.add n ⟨wm.heap.size, 0, 0, 0, 0⟩) := K.le_add hrn
    have hyld : Rels (κ.add n ⟨wm.heap.size, 0, 0, 0, 0⟩) [AV.yld n] #[.func (.yield wm.heap.size) #[] #[]] :=
      ⟨rfl, fun i h1 h2 => by
        have : i = 0 := by simpa using h1
        subst this; exact .yld (K.add_same ..)⟩
    have hargs : Rels (κ.add n ⟨wm.heap.size, 0, 0, 0, 0⟩) (first ++ [.yld n] ++ caps) ((fa ++ #[.func (.yield wm.heap.size) #[] #[]]) ++ ca) :=
      rels_append (rels_append (Rels.mono hle1 ⟨g1, g2⟩) hyld) (Rels.mono hle1 ⟨g3, g4⟩)
    have hcall := hC _ _ _ hst1.sim hargs
    refine ⟨wm.heap.size, mark, wm.alloc (.loop rec), { target := .fn (.func f) ca, args := fa ++ #[.func (.yield wm.heap.size) #[] #[]] }, wm.alloc (.loop rec), f, (fa ++ #[.func (.yield wm.heap.size) #[] #[]]) ++ ca, wm.alloc (.loop rec), he, ?_, fun _ _ => trivial, ?_, Fr_depth crd, ?_⟩
    · simp only [resolve, rangeCall, hcf, Deferred.ofValue, Sem.run_pure, List.map_toArray, List.map_cons, List.map_nil]
      rfl
    · simp only [invoke, callFunc, Sem.run_bind, run_program, Result.andThen_ok, hfn, hname, hbn, Bool.false_eq_true, if_false, Sem.run_pure]
    · have hcall' : CallsIn (Fr crd) (0 - 1) P f ((fa ++ #[.func (.yield wm.heap.size) #[] #[]]) ++ ca) (wm.alloc (.loop rec)) _ := hcall
      refine hcall'.mono ?_
      rintro e w2 ⟨cv, r, m2, κ2, rfl, ⟨st, pend, k1, k2, k3⟩, hst2, _⟩
      have hl2 := hst2.le.rho _ _ (K.add_same κ n ⟨wm.heap.size, 0, 0, 0, 0⟩)
      obtain ⟨⟨r2', x1, x2, x3, x4, x5, x6, x7⟩, hp2⟩ := hst2.sim.loop k1 hl2
      have hst3 := Step.loopSet hst2.sim hl2 k1 x1 x4 x5 x6 x7 .exhausted pend
      have hall := ((hstm.trans hst1).trans (hst2.trans hst3)).sub (m'' := m2.del n) (fun q b hq => by
        by_cases e : q = n
        · subst e; simp at hq
        · rw [Mem.set_ne _ _ e]; exact Mem.del_sub m2 n q b hq)
      have hnb : (r2'.state == LoopState.busy) = false := by rw [x2]; exact k2
      refine ⟨pend, { w2 with heap := w2.heap.setIfInBounds wm.heap.size (.loop { r2' with state := .exhausted, pending := pend }) }, ?_, ?_⟩
      · simp only [Instr.endLoop, Instr.getLoop, Sem.run_bind, getObj, setObj, Sem.run, x1, Result.andThen_ok, hnb, Bool.false_eq_true, if_false, Sem.run_pure, x3]
      · have hrel : Rels κ2 env a.tmps := hr.mono (hle1.trans hst2.le)
        have hmk : Marks w { w2 with heap := w2.heap.setIfInBounds wm.heap.size (.loop { r2' with state := .exhausted, pending := pend }) } a.defers (mark ++ a.defers) := by
          rcases hmark with rfl | ⟨r, rfl, q1, q2, q3⟩
          · exact Marks.refl ..
          · refine ⟨[r], rfl, by simp, fun r' hr' => ?_⟩
            have : r' = r := by simpa using hr'
            subst this
            refine ⟨q1, ?_⟩
            have e1 : (wm.alloc (.loop rec)).heap[r']? = some (.deferred (some [])) := by
              show (wm.heap.push _)[r']? = _
              rw [Array.getElem?_push, if_neg (by omega)]; exact q3
            have e2 := (hst2.frame r' (by simp; omega) (hst1.sim.notBacks e1)).trans e1
            have : wm.heap.size ≠ r' := by omega
            simp only [Array.getElem?_setIfInBounds_ne this]
            exact e2
        have fin : ∀ e, calm e → Q e env (m2.del n) → _ := fun e hc hq =>
          (⟨env, m2.del n, κ2, hc, hq, hall, hrel, hmk⟩ : ∃ env' m' κ', calm e ∧ Q e env' m' ∧ Step P κ m w κ' m' { w2 with heap := w2.heap.setIfInBounds wm.heap.size (.loop { r2' with state := .exhausted, pending := pend }) } ∧ Rels κ' env' a.tmps ∧ Marks w { w2 with heap := w2.heap.setIfInBounds wm.heap.size (.loop { r2' with state := .exhausted, pending := pend }) } a.defers (mark ++ a.defers))
        cases pend with
        | none => exact fin .normal trivial k3
        | some c =>
          simp only
          cases c with
          | ret => exact wpIn_ret (fin .ret trivial k3)
          | exit id => exact wpIn_exit (fin (.exit id) trivial k3)
          | goto t => exact wpIn_goto (fin (.goto t) trivial k3)
          | _ => exact k3.elim
end Go.Abs

set_option linter.unusedVariables false
set_option linter.unusedSimpArgs false
namespace Go.Abs
variable {P : Program}
def Gh (P : Program) (r : AV) (m : Mem) (r' : AV) (m' : Mem) : Prop := ∀ κ w cv, Sim P κ m w → Rel κ r cv → ∃ κ', Step P κ m w κ' m' w ∧ Rel κ' r' cv
theorem Gh.refl (r : AV) (m : Mem) : Gh P r m r m := fun κ w cv hs hr => ⟨κ, Step.refl hs, hr⟩
theorem Gh.trans {r r' r'' : AV} {m m' m'' : Mem} (h : Gh P r m r' m') (h' : Gh P r' m' r'' m'') : Gh P r m r'' m'' := fun κ w cv hs hr =>
  let ⟨κ', a, b⟩ := h κ w cv hs hr
  let ⟨κ'', c, d⟩ := h' κ' w cv a.sim b
  ⟨κ'', a.trans c, d⟩
theorem Gh.drop (r : AV) {m m' : Mem} (h : m'.sub m) : Gh P r m r m' := fun κ w cv hs hr => ⟨κ, (Step.refl hs).sub h, hr⟩
def nomem : Mem := fun _ => none
theorem nomem_sub (m : Mem) : nomem.sub m := fun _ _ h => by cases h
noncomputable def frozenProt (κ : K) (m : Mem) (w : World) : Nat → Nat → Option Value := by
  classical
  exact fun c o => match κ.prot c o with
    | some v => some v
    | none => if ∃ n l opn t cs, m n = some (.cells opn t cs) ∧ κ.rho n = some (some l) ∧ l.blk = c ∧ l.base ≤ o ∧ o < l.base + cs.length then w.cell? ⟨c, o, none⟩ else none
theorem freezeAll' {κ : K} {m : Mem} {w : World} (hs : Sim P κ m w) : ∃ κ', κ.le κ' ∧ Sim P κ' nomem w ∧ κ'.rho = κ.rho ∧ (∀ c o, κ'.prot c o ≠ none → κ.prot c o ≠ none ∨ Backs κ m c) ∧
    ∀ n opn t cs l, m n = some (.cells opn t cs) → κ.rho n = some (some l) → ∃ f : Nat → Value, ∀ i (h : i < cs.length), κ'.prot l.blk (l.base + i) = some (f i) ∧ Rel κ' cs[i] (f i) := by
  have hle : κ.le { prot := frozenProt κ m w, rho := κ.rho } := ⟨fun c o v h => by simp [frozenProt, h], fun _ _ h => h⟩
  refine ⟨_, hle, ⟨?_, (fun n b h => by cases h), hs.lt, (fun n n' l l' _ h => absurd rfl h), ?_⟩, rfl, ?_, ?_⟩
  · intro c o v h
    simp only [frozenProt] at h
    cases hp : κ.prot c o with
    | some v' => rw [hp] at h; cases h; exact hs.prot c o _ hp
    | none =>
      rw [hp] at h
      simp only at h
      split at h
      · exact h
      · cases h
  · obtain ⟨N, hN⟩ := hs.fin
    exact ⟨N, fun n hn => ⟨(hN n hn).1, rfl⟩⟩
  · intro c o h
    simp only [frozenProt] at h
    cases hp : κ.prot c o with
    | some v' => exact .inl (by simp)
    | none =>
      rw [hp] at h
      simp only at h
      split at h
      · rename_i hc
        obtain ⟨n, l, opn, t, cs, hm, hl, e, _⟩ := hc
        exact .inr ⟨n, l, hl, by rw [hm]; simp, e⟩
      · exact absurd rfl h
  · intro n opn t cs l hm hl
    rcases hs.blk n _ hm with ⟨l', e1, e2, e3⟩ | ⟨e1, _⟩
    · rw [hl] at e1; cases e1
      obtain ⟨arr, t', fz, z1, z2, z3, z4, z5, z6, z7⟩ := e2
      refine ⟨fun i => (arr[l.base + i]?).getD (.bool false), fun i hi => ?_⟩
      obtain ⟨cv, y1, y2⟩ := z7 i hi
      simp only [y1, Option.getD_some]
      refine ⟨?_, y2.mono hle⟩
      simp only [frozenProt, e3]
      rw [if_pos ⟨n, l, opn, t, cs, hm, hl, rfl, by omega, by omega⟩]
      simp [World.cell?, z1, y1]
    · rw [hl] at e1; cases e1
theorem freezeAll {κ : K} {m : Mem} {w : World} (hs : Sim P κ m w) : ∃ κ', κ.le κ' ∧ Sim P κ' nomem w ∧ κ'.rho = κ.rho ∧
    ∀ n opn t cs l, m n = some (.cells opn t cs) → κ.rho n = some (some l) → ∃ f : Nat → Value, ∀ i (h : i < cs.length), κ'.prot l.blk (l.base + i) = some (f i) ∧ Rel κ' cs[i] (f i) :=
  let ⟨κ', a, b, c, _, d⟩ := freezeAll' hs; ⟨κ', a, b, c, d⟩
inductive Seen (m : Mem) : AV → AV → Prop
  | same {x : AV} : Seen m x x
  | nilS {x : Bool} : Seen m (.val (.slice none 0 0)) (.vs [] x)
  | agg {cs cs' : List AV} : cs.length = cs'.length → (∀ i (h : i < cs.length) (h' : i < cs'.length), Seen m cs[i] cs'[i]) → Seen m (.agg cs) (.agg cs')
  | tup {cs cs' : List AV} : cs.length = cs'.length → (∀ i (h : i < cs.length) (h' : i < cs'.length), Seen m cs[i] cs'[i]) → Seen m (.tup cs) (.tup cs')
  | sl {n off len cap s : Nat} {opn : Bool} {t : TypeId} {cs : List AV} {es : List (List AV)} : m n = some (.cells opn t cs) → off + len * s ≤ cs.length → es.length = len → (∀ e ∈ es, e.length = s) →
      (∀ i (hi : i < es.length) j (hj : j < es[i].length) (hk : off + (i * s + j) < cs.length), Seen m cs[off + (i * s + j)] es[i][j]) → Seen m (.sl n off len cap) (.vs es false)
  | ptr {n off : Nat} {opn : Bool} {t : TypeId} {cs cs' : List AV} : m n = some (.cells opn t cs) → 0 < cs.length → cs.length = cs'.length → (∀ i (h : i < cs.length) (h' : i < cs'.length), Seen m cs[i] cs'[i]) → Seen m (.ptr n off) (.vp cs' off)
  | fn {f : Fn} {fs fs' cs cs' : List AV} : fs.length = fs'.length → (∀ i (h : i < fs.length) (h' : i < fs'.length), Seen m fs[i] fs'[i]) →
      cs.length = cs'.length → (∀ i (h : i < cs.length) (h' : i < cs'.length), Seen m cs[i] cs'[i]) → Seen m (.fn f fs cs) (.fn f fs' cs')
theorem seen_rel {κ κ' : K} {m : Mem} {w : World} (hs : Sim P κ m w) (hle : κ.le κ') (hrho : κ'.rho = κ.rho)
    (hf : ∀ n opn t cs l, m n = some (.cells opn t cs) → κ.rho n = some (some l) → ∃ f : Nat → Value, ∀ i (h : i < cs.length), κ'.prot l.blk (l.base + i) = some (f i) ∧ Rel κ' cs[i] (f i)) :
    ∀ {x x' : AV}, Seen m x x' → ∀ {cv : Value}, Rel κ' x cv → Rel κ' x' cv := by
  intro x x' h
  induction h with
  | same => exact fun h => h
  | nilS => intro cv hr; obtain ⟨rfl, _⟩ := hr.val_inv; exact .vnil
  | agg hl _ ih =>
    intro cv hr
    cases hr with
    | agg g1 g2 => exact .agg (hl ▸ g1) (fun i a b => ih i (hl ▸ a) a (g2 i (hl ▸ a) b))
  | tup hl _ ih =>
    intro cv hr
    cases hr with
    | tup g1 g2 => exact .tup (hl ▸ g1) (fun i a b => ih i (hl ▸ a) a (g2 i (hl ▸ a) b))
  | @sl n off len cap s opn t cs es hm hfit hlen hes hsn ih =>
    intro cv hr
    have nil : es.length = 0 → es = [] := List.eq_nil_of_length_eq_zero
    cases hr with
    | snil =>
      rw [nil hlen]; exact .vnil
    | szero =>
      rw [nil hlen]; exact .vz
    | @sl _ _ _ _ cap' c' o' l q1 q2 q3 q4 =>
      by_cases h0 : len = 0
      · subst h0
        rw [nil hlen]
        exact @Rel.vs κ' [] false c' o' 0 cap' (fun _ _ => .bool false) (fun e h => by simp at h) (Nat.zero_le _) (fun h => by simp at h) (fun i j h => by simp at h) (fun i h => by simp at h)
      · have ha : c' = l.blk ∧ o' = l.base + off := by
          rcases q4 with q4 | q4
          · rcases q2 with q2 | q2 <;> omega
          · exact q4
        obtain ⟨rfl, rfl⟩ := ha
        rw [hrho] at q1
        obtain ⟨f, hf⟩ := hf n opn t cs l hm q1
        subst hlen
        have hb : ∀ i j, i < es.length → j < s → off + (i * s + j) < cs.length := fun i j hi hj => by
          have : (i + 1) * s ≤ es.length * s := Nat.mul_le_mul_right _ (by omega)
          rw [Nat.add_mul] at this; omega
        refine .vs (fun i j => f (off + (i * s + j))) hes (by rcases q2 with q2 | q2 <;> omega) (fun h => by cases h) (fun i j hi hj => ?_) (fun i hi j hj => ?_)
        · rw [Nat.add_assoc]; exact (hf _ (hb i j hi hj)).1
        · have hjs : j < s := by rw [← hes _ (List.getElem_mem hi)]; exact hj
          exact ih i hi j hj (hb i j hi hjs) (hf _ (hb i j hi hjs)).2
  | @ptr n off opn t cs cs' hm hpos hl hsn ih =>
    intro cv hr
    cases hr with
    | @ptr _ _ l q1 =>
      rw [hrho] at q1
      obtain ⟨f, hf⟩ := hf n opn t cs l hm q1
      exact .vp f (fun j hj => (hf j (hl ▸ hj)).1) (fun j hj => ih j (hl ▸ hj) hj (hf j (hl ▸ hj)).2)
  | fn hl _ hl' _ ih ih' =>
    intro cv hr
    cases hr with
    | fn g0 g1 g2 g3 g4 => exact .fn g0 (hl ▸ g1) (fun i a b => ih i (hl ▸ a) a (g2 i (hl ▸ a) b)) (hl' ▸ g3) (fun i a b => ih' i (hl' ▸ a) a (g4 i (hl' ▸ a) b))
def Seens (m : Mem) (xs xs' : List AV) : Prop := xs.length = xs'.length ∧ ∀ i (h : i < xs.length) (h' : i < xs'.length), Seen m xs[i] xs'[i]
theorem Seens.refl (m : Mem) (xs : List AV) : Seens m xs xs := ⟨rfl, fun _ _ _ => .same⟩
theorem Seens.nil (m : Mem) : Seens m [] [] := .refl ..
theorem Seens.cons {m : Mem} {x x' : AV} {xs xs' : List AV} (h : Seen m x x') (hs : Seens m xs xs') : Seens m (x :: xs) (x' :: xs') :=
  ⟨by simp [hs.1], fun i a b => by cases i with
    | zero => exact h
    | succ i => exact hs.2 i (by simpa using a) (by simpa using b)⟩
def K.above (κ : K) (B : Nat) : K := { prot := fun c o => if B ≤ c then κ.prot c o else none, rho := fun _ => none }
def F (P : Program) (f : FuncId) (args : List AV) (R : AV) : Prop :=
  (∃ fn, P.funcs[f]? = some fn ∧ fn.body.isNone = false ∧ (fn.name == "runtime.NumGoroutine") = false) ∧
  ∀ κ w cargs, Sim P κ nomem w → Rels κ args cargs → CallsIn Fence.wide 0 P f cargs w fun e w' => ∃ cv κ', e = .returned cv ∧ Step P κ nomem w κ' nomem w' ∧ Rel (κ'.above w.heap.size) R cv
theorem C.of_F {f : FuncId} {args args' : List AV} {R : AV} (h : F P f args R) {m : Mem} (hseen : Seens m args' args) {K' : AV → Mem → Prop} (hk : K' R m) : C P f args' m K' := by
  refine ⟨h.1, fun κ w cargs hs hr => ?_⟩
  obtain ⟨κ1, hle, hs1, hrho, hf⟩ := freezeAll hs
  have hr1 : Rels κ1 args cargs := ⟨hseen.1 ▸ hr.1, fun i a b => seen_rel hs hle hrho hf (hseen.2 i (hseen.1 ▸ a) a) ((hr.2 i (hseen.1 ▸ a) b).mono hle)⟩
  refine (h.2 κ1 w cargs hs1 hr1).mono ?_
  rintro e w' ⟨cv, κ2, rfl, hst, hrel⟩
  have hheap : ∀ c, c < w.heap.size → w'.heap[c]? = w.heap[c]? := fun c hc => hst.frame c hc fun ⟨n, l, _, h, _⟩ => h rfl
  -- the own blocks are the run's own again; what is new and told for good stays so
  let κ3 : K := { prot := fun c o => if w.heap.size ≤ c then κ2.prot c o else κ.prot c o, rho := κ.rho }
  have hle3 : κ.le κ3 := by
    refine ⟨fun c o v h => ?_, fun _ _ h => h⟩
    have := hs.protLt h
    simp only [κ3]
    rw [if_neg (by omega)]; exact h
  have hab : (κ2.above w.heap.size).le κ3 := by
    refine ⟨fun c o v h => ?_, fun n l h => by cases h⟩
    unfold K.above at h
    simp only at h
    split at h
    · rename_i hc; simp only [κ3]; rw [if_pos hc]; exact h
    · cases h
  refine ⟨cv, R, m, κ3, rfl, hk, ⟨hle3, ⟨?_, ?_, ?_, hs.excl, hs.fin⟩, hst.size, fun c hc _ => hheap c hc, fun _ _ h => h, hst.os, hst.tape, hst.output, fun c o hc hp => .inl (by simp only [κ3] at hp; rwa [if_neg (by omega)] at hp), fun _ _ h => h⟩, hrel.mono hab⟩
  · intro c o v hp
    simp only [κ3] at hp
    split at hp
    · exact hst.sim.prot c o v hp
    · rw [cell_of_heap (hheap c (hs.protLt hp))]; exact hs.prot c o v hp
  · intro k b hk
    rcases hs.blk k b hk with ⟨l, h1, h2, h3⟩ | h'
    · refine .inl ⟨l, h1, (h2.congr (hheap _ h2.lt)).mono hle3, fun o => ?_⟩
      have := h2.lt
      simp only [κ3]
      rw [if_neg (by omega)]; exact h3 o
    · exact .inr h'
  · exact fun k l hk => Nat.lt_of_lt_of_le (hs.lt k l hk) hst.size
inductive New (m : Mem) : AV → AV → Prop
  | val {v : Value} : New m (.val v) (.val v)
  | agg {cs cs' : List AV} : cs.length = cs'.length → (∀ i (h : i < cs.length) (h' : i < cs'.length), New m cs[i] cs'[i]) → New m (.agg cs) (.agg cs')
  | tup {cs cs' : List AV} : cs.length = cs'.length → (∀ i (h : i < cs.length) (h' : i < cs'.length), New m cs[i] cs'[i]) → New m (.tup cs) (.tup cs')
  | vnil {x x' : Bool} : New m (.vs [] x) (.vs [] false)
  | nil : New m (.val (.slice none 0 0)) (.vs [] false)
  | sl {n off len cap s : Nat} {opn : Bool} {t : TypeId} {cs : List AV} {es : List (List AV)} : m n = some (.cells opn t cs) → off + len * s ≤ cs.length → es.length = len → (∀ e ∈ es, e.length = s) →
      (∀ i (hi : i < es.length) j (hj : j < es[i].length) (hk : off + (i * s + j) < cs.length), New m cs[off + (i * s + j)] es[i][j]) → New m (.sl n off len cap) (.vs es false)
  | ptr {n off : Nat} {opn : Bool} {t : TypeId} {cs cs' : List AV} : m n = some (.cells opn t cs) → 0 < cs.length → cs.length = cs'.length → (∀ i (h : i < cs.length) (h' : i < cs'.length), New m cs[i] cs'[i]) → New m (.ptr n off) (.vp cs' off)
  | fn {f : Fn} {fs fs' cs cs' : List AV} : fs.length = fs'.length → (∀ i (h : i < fs.length) (h' : i < fs'.length), New m fs[i] fs'[i]) →
      cs.length = cs'.length → (∀ i (h : i < cs.length) (h' : i < cs'.length), New m cs[i] cs'[i]) → New m (.fn f fs cs) (.fn f fs' cs')
theorem new_rel {κ κ' : K} {m : Mem} {B : Nat} (hrho : κ'.rho = κ.rho) (hB : ∀ n l, m n ≠ none → κ.rho n = some (some l) → B ≤ l.blk)
    (hf : ∀ n opn t cs l, m n = some (.cells opn t cs) → κ.rho n = some (some l) → ∃ f : Nat → Value, ∀ i (h : i < cs.length), κ'.prot l.blk (l.base + i) = some (f i) ∧ Rel κ' cs[i] (f i)) :
    ∀ {x x' : AV}, New m x x' → ∀ {cv : Value}, Rel κ' x cv → Rel (κ'.above B) x' cv := by
  intro x x' h
  induction h with
  | val => intro cv hr; cases hr with | val hp => exact .val hp
  | agg hl _ ih =>
    intro cv hr
    cases hr with
    | agg g1 g2 => exact .agg (hl ▸ g1) (fun i a b => ih i (hl ▸ a) a (g2 i (hl ▸ a) b))
  | tup hl _ ih =>
    intro cv hr
    cases hr with
    | tup g1 g2 => exact .tup (hl ▸ g1) (fun i a b => ih i (hl ▸ a) a (g2 i (hl ▸ a) b))
  | vnil =>
    intro cv hr
    cases hr with
    | vnil => exact .vnil
    | vz => exact .vz
    | vs f q1 q2 q3 q4 q5 => exact .vs f (s := 0) (fun e h => by simp at h) q2 (fun h => by cases h) (fun i j h => by simp at h) (fun i h => by simp at h)
  | nil => intro cv hr; obtain ⟨rfl, _⟩ := hr.val_inv; exact .vnil
  | @sl n off len cap s opn t cs es hm hfit hlen hes hsn ih =>
    intro cv hr
    have nil : es.length = 0 → es = [] := List.eq_nil_of_length_eq_zero
    cases hr with
    | snil => rw [nil hlen]; exact .vnil
    | szero =>
      rw [nil hlen]; exact .vz
    | @sl _ _ _ _ cap' c' o' l q1 q2 q3 q4 =>
      by_cases h0 : len = 0
      · subst h0
        rw [nil hlen]
        exact .vs (es := []) (s := 0) (fun _ _ => .bool false) (fun e h => by simp at h) (Nat.zero_le _) (fun h => by simp at h) (fun i j h => by simp at h) (fun i h => by simp at h)
      · have ha : c' = l.blk ∧ o' = l.base + off := by
          rcases q4 with q4 | q4
          · rcases q2 with q2 | q2 <;> omega
          · exact q4
        obtain ⟨rfl, rfl⟩ := ha
        rw [hrho] at q1
        obtain ⟨f, hf⟩ := hf n opn t cs l hm q1
        have hBl := hB n l (by rw [hm]; simp) q1
        subst hlen
        have hb : ∀ i j, i < es.length → j < s → off + (i * s + j) < cs.length := fun i j hi hj => by
          have : (i + 1) * s ≤ es.length * s := Nat.mul_le_mul_right _ (by omega)
          rw [Nat.add_mul] at this; omega
        refine .vs (fun i j => f (off + (i * s + j))) hes (by rcases q2 with q2 | q2 <;> omega) (fun h => by cases h) (fun i j hi hj => ?_) (fun i hi j hj => ?_)
        · simp only [K.above]
          rw [if_pos hBl, Nat.add_assoc]; exact (hf _ (hb i j hi hj)).1
        · have hjs : j < s := by rw [← hes _ (List.getElem_mem hi)]; exact hj
          exact ih i hi j hj (hb i j hi hjs) (hf _ (hb i j hi hjs)).2
  | @ptr n off opn t cs cs' hm hpos hl hsn ih =>
    intro cv hr
    cases hr with
    | @ptr _ _ l q1 =>
      rw [hrho] at q1
      obtain ⟨f, hf⟩ := hf n opn t cs l hm q1
      have hBl := hB n l (by rw [hm]; simp) q1
      exact .vp f (fun j hj => by simp only [K.above]; rw [if_pos hBl]; exact (hf j (hl ▸ hj)).1) (fun j hj => ih j (hl ▸ hj) hj (hf j (hl ▸ hj)).2)
  | fn hl _ hl' _ ih ih' =>
    intro cv hr
    cases hr with
    | fn g0 g1 g2 g3 g4 => exact .fn g0 (hl ▸ g1) (fun i a b => ih i (hl ▸ a) a (g2 i (hl ▸ a) b)) (hl' ▸ g3) (fun i a b => ih' i (hl' ▸ a) a (g4 i (hl' ▸ a) b))
theorem F.of_C {f : FuncId} {args : List AV} {R : AV} (h : C P f args nomem (fun r m' => New m' r R)) : F P f args R := by
  refine ⟨h.1, fun κ w cargs hs hr => (h.2 κ w cargs hs hr).mono ?_⟩
  rintro e w' ⟨cv, r, m', κ', rfl, hnew, hst, hrel⟩
  obtain ⟨κ1, hle, hs1, hrho, hpo, hf⟩ := freezeAll' hst.sim
  refine ⟨cv, κ1, rfl, ⟨hst.le.trans hle, hs1, hst.size, hst.frame, fun c hc ⟨n, l, _, h, _⟩ => absurd rfl h, hst.os, hst.tape, hst.output,
    fun c o hc hp => (hpo c o hp).elim (hst.porigin c o hc) (fun hb => .inr (hst.origin c hc hb)), fun _ _ h => h⟩, ?_⟩
  refine new_rel (κ := κ') hrho (fun n l hn hl => ?_) hf hnew (hrel.mono hle)
  rcases Nat.lt_or_ge l.blk w.heap.size with hlt | hge
  · obtain ⟨n', l', _, h', _⟩ := hst.origin l.blk hlt ⟨n, l, hl, hn, rfl⟩
    exact absurd rfl h'
  · exact hge
def O (P : Program) (f : FuncId) (args : List AV) (t : TypeId) (len : Nat) (cs : List AV) : Prop :=
  C P f args nomem fun r m' => ∃ n, r = .sl n 0 len len ∧ m' n = some (.cells true t cs)
end Go.Abs

set_option linter.unusedVariables false
set_option linter.unusedSimpArgs false
namespace Go.Abs
universe u
variable {P : Program}
structure Ln where
  op : Op
  dst : Option Nat
  g : Option (Option Nat × Bool)
def leanG (ops : Array Oper) : Option (Nat × Bool) → Option (Option Nat × Bool)
  | none => none
  | some (j, want) => some ((ops[j]?).bind (·.dst), want)
def lean (ops : Array Oper) : List Ln := ops.toList.map fun o => ⟨o.op, o.dst, leanG ops o.guard⟩
def onK (env : List AV) (g : Option (Option Nat × Bool)) (yes no : Prop) : Prop :=
  match g with
  | none => yes
  | some (none, _) => no
  | some (some t, want) => match nth env t with
    | .val (.bool b) => if b = want then yes else no
    | .tup [] => no
    | _ => False
def stepsK (P : Program) (Q : List AV → Mem → Prop) : List Ln → List AV → Mem → Prop
  | [], env, m => Q env m
  | o :: rest, env, m => onK env o.g (opK P o.op (evA env) m fun v m' => stepsK P Q rest (put env o.dst v) m') (stepsK P Q rest (put env o.dst (.tup [])) m)
def gotK (o : Option AV) (K' : AV → Prop) : Prop := match o with | some r => K' r | none => False
def stepsQ (P : Program) (Q : List AV → Mem → Prop) : List Ln → List AV → Mem → Prop
  | [], env, m => Q env m
  | o :: rest, env, m => onK env o.g (gotK (quietA P m (evA env) o.op) fun v => stepsQ P Q rest (put env o.dst v) m) (stepsQ P Q rest (put env o.dst (.tup [])) m)
theorem onK_sound {ops : Array Oper} {env : List AV} {o : Oper} {yes no : Prop} (h : onK env (leanG ops o.guard) yes no) :
    match wantedA ops env o with | some true => yes | some false => no | none => False := by
  unfold onK leanG at h
  unfold wantedA
  cases hg : o.guard with
  | none => rw [hg] at h; exact h
  | some jw =>
    obtain ⟨j, want⟩ := jw
    rw [hg] at h
    simp only at h ⊢
    cases ht : (ops[j]?).bind (·.dst) with
    | none => rw [ht] at h; exact h
    | some t =>
      rw [ht] at h
      simp only at h ⊢
      generalize nth env t = v at h
      split at h
      · rename_i b
        by_cases e : b = want
        · subst e; simp only [beq_self_eq_true]; simpa using h
        · rw [if_neg e] at h
          have : (b == want) = false := by simpa using e
          simp only [this]; exact h
      · exact h
      · exact h.elim
theorem stepsK_sound {ops : Array Oper} {Q : List AV → Mem → Prop} : ∀ (l : List Oper) (env : List AV) (m : Mem), stepsK P Q (l.map fun o => ⟨o.op, o.dst, leanG ops o.guard⟩) env m → opsK P ops Q l env m
  | [], env, m, h => h
  | o :: l, env, m, h => by
    have := onK_sound (ops := ops) (o := o) h
    unfold opsK
    split
    · rename_i e; rw [e] at this
      simp only at this
      unfold opK at this ⊢
      split
      · rename_i r hr; rw [hr] at this; exact stepsK_sound l _ _ this
      · rename_i hr; rw [hr] at this; exact loud_mono this fun v m' => stepsK_sound l _ _
    · rename_i e; rw [e] at this; exact stepsK_sound l _ _ this
    · rename_i e; rw [e] at this; exact this
where
  loud_mono {op : Op} {ev : Operand → AV} {m : Mem} {K' K'' : AV → Mem → Prop} (h : loudK P op ev m K') (hk : ∀ r m', K' r m' → K'' r m') : loudK P op ev m K'' := by
    unfold loudK at h ⊢
    split at h
    case _ => obtain ⟨m', a, b⟩ := h; exact ⟨m', a, hk _ _ b⟩
    case _ => obtain ⟨m', a, b⟩ := h; exact ⟨m', a, fun n hn => hk _ _ (b n hn)⟩
    case _ => obtain ⟨m', a, b⟩ := h; exact ⟨m', a, fun n hn => hk _ _ (b n hn)⟩
    case _ => obtain ⟨e, s, cs, a, a', b⟩ := h; exact ⟨e, s, cs, a, a', b.imp (hk _ _) fun b n hn => hk _ _ (b n hn)⟩
    case _ => obtain ⟨e, a, b, cs, h1, h2⟩ := h; exact ⟨e, a, b, cs, h1, fun n hn => hk _ _ (h2 n hn)⟩
    case _ => exact fun n hn => hk _ _ (h n hn)
    case _ => obtain ⟨m', a, b⟩ := h; exact ⟨m', a, hk _ _ b⟩
    case _ => exact ⟨h.1, fun b => hk _ _ (h.2 b)⟩
    case _ =>
      rcases h with ⟨b, a, c⟩ | ⟨r, m', a, c⟩ | ⟨b, e, a, c⟩
      · exact .inl ⟨b, a, hk _ _ c⟩
      · exact .inr (.inl ⟨r, m', a, hk _ _ c⟩)
      · exact .inr (.inr ⟨b, e, a, fun n hn => hk _ _ (c n hn)⟩)
    case _ => exact CW.mono h hk
    case _ =>
      split at h
      case _ h1 h2 =>
        obtain ⟨e, j, z, k, src, hT, hsrc, h⟩ := h
        refine ⟨e, j, z, k, src, hT, hsrc, ?_⟩
        rcases h with ⟨n, off, len, bt, cs, a, b, c, d, e', f⟩ | ⟨a, b, c⟩ | ⟨es, a, b, c, d, f⟩ | ⟨n, off, len, cap, opn, bt, cs, a, b, c, d, f⟩ | ⟨n, off, len, cap, bt, cs, a, b, c, d, e', f⟩
        · exact .inl ⟨n, off, len, bt, cs, a, b, c, d, e', fun N hN => hk _ _ (f N hN)⟩
        · exact .inr (.inl ⟨a, b, fun N hN => hk _ _ (c N hN)⟩)
        · exact .inr (.inr (.inl ⟨es, a, b, c, d, fun N hN => hk _ _ (f N hN)⟩))
        · exact .inr (.inr (.inr (.inl ⟨n, off, len, cap, opn, bt, cs, a, b, c, d, hk _ _ f⟩)))
        · exact .inr (.inr (.inr (.inr ⟨n, off, len, cap, bt, cs, a, b, c, d, e', fun N hN => hk _ _ (f N hN)⟩)))
      · exact h.elim
    case _ =>
      split at h
      · obtain ⟨k, m', a, b⟩ := h; exact ⟨k, m', a, hk _ _ b⟩
      · exact h.elim
    case _ =>
      split at h
      · obtain ⟨r, a, b⟩ := h; exact ⟨r, a, hk _ _ b⟩
      · exact h.elim
    case _ =>
      split at h
      · obtain ⟨m', a, b⟩ := h; exact ⟨m', a, hk _ _ b⟩
      · exact h.elim
    case _ => exact h.elim
theorem stepsQ_sound {ops : Array Oper} {Q : List AV → Mem → Prop} : ∀ (l : List Oper) (env : List AV) (m : Mem), stepsQ P Q (l.map fun o => ⟨o.op, o.dst, leanG ops o.guard⟩) env m → opsQ P ops Q l env m
  | [], env, m, h => h
  | o :: l, env, m, h => by
    have := onK_sound (ops := ops) (o := o) h
    unfold opsQ
    split
    · rename_i e; rw [e] at this
      replace this : gotK (quietA P m (evA env) o.op) _ := this
      split
      · rename_i r hr; rw [hr] at this; exact stepsQ_sound l _ _ this
      · rename_i hr; rw [hr] at this; exact this
    · rename_i e; rw [e] at this; exact stepsQ_sound l _ _ this
    · rename_i e; rw [e] at this; exact this
section
variable {rd : Option Nat} {Q : Exit → List AV → Mem → Prop} {env : List AV} {m : Mem}
theorem W.ops {id : Nat} {ops : Array Oper} {l : List Ln} (hl : lean ops = l) (h : stepsK P (Q .normal) l env m) : W P rd (.region id ops false) Q env m :=
  W.region (stepsK_sound ops.toList env m (by rw [← hl] at h; exact h))
theorem W.any {id : Nat} {ops : Array Oper} {l : List Ln} (hl : lean ops = l) (hm : P.follows .mixedOrders = true) (hB : Region.lexB .any ops = true) (hd : ops.all (fun o => match o.op with | .defer _ => false | _ => true) = true)
    (h : stepsQ P (Q .normal) l env m) : W P rd (.region id ops true) Q env m :=
  W.draws hm hB hd (stepsQ_sound ops.toList env m (by rw [← hl] at h; exact h))
end
theorem onK_none (env : List AV) (yes no : Prop) : onK env none yes no = yes := Eq.trans rfl rfl
inductive Hid {α : Sort u} (a : α) : Type where
  | mk : Hid a
def hid {α : Sort u} (a : α) (_ : Hid a) : α := a
def ifK (c : Bool) (a b : Prop) : Prop := if c = true then a else b
def wantB (want b : Bool) : Bool := if want then b else !b
theorem wantB_true (b : Bool) : wantB true b = b := rfl
theorem wantB_false (b : Bool) : wantB false b = !b := rfl
def onB (v : AV) (want : Bool) (yes no : Prop) : Prop := match v with
    | .val (.bool b) => ifK (wantB want b) yes no
    | .tup [] => no
    | _ => False
theorem onK_some' (env : List AV) (t : Nat) (want : Bool) (yes no : Prop) : onK env (some (some t, want)) yes no = (match nth env t with
    | .val (.bool b) => if b = want then yes else no
    | .tup [] => no
    | _ => False) := Eq.trans rfl rfl
theorem onK_some (env : List AV) (t : Nat) (want : Bool) (yes no : Prop) : onK env (some (some t, want)) yes no = onB (nth env t) want (hid yes .mk) (hid no .mk) := by
  rw [onK_some']; unfold onB ifK wantB hid
  split <;> try rfl
  rename_i b _
  cases b <;> cases want <;> rfl
theorem onB_bool (b want : Bool) (yes no : Prop) (h : Hid yes) (h' : Hid no) : onB (.val (.bool b)) want (hid yes h) (hid no h') = ifK (wantB want b) (hid yes .mk) (hid no .mk) := Eq.trans rfl rfl
theorem onB_off (want : Bool) (yes no : Prop) (h' : Hid no) : onB (.tup []) want yes (hid no h') = no := Eq.trans rfl rfl
theorem ifK_true (a b : Prop) (h : Hid a) : ifK true (hid a h) b = a := if_pos rfl
theorem ifK_false (a b : Prop) (h : Hid b) : ifK false a (hid b h) = b := if_neg (by simp)
theorem ifK_intro {c : Bool} {a b : Prop} {h : Hid a} {h' : Hid b} (ha : c = true → a) (hb : c = false → b) : ifK c (hid a h) (hid b h') := by
  unfold ifK; split
  · exact ha ‹_›
  · exact hb (Bool.eq_false_iff.2 ‹_›)
def allK (m : Mem) (f : Nat → Prop) : Prop := ∀ n, m n = none → f n
theorem allK_intro {m : Mem} {f : Nat → Prop} {x : Hid f} (h : ∀ n, m n = none → f n) : allK m (hid f x) := h
theorem stepsK_nil (Q : List AV → Mem → Prop) (env : List AV) (m : Mem) : stepsK P Q [] env m = Q env m := Eq.trans rfl rfl
def seeE (env : List AV) (m : Mem) (K' : List AV → Mem → Prop) : Prop := K' env m
theorem seeE_go (env : List AV) (m : Mem) (K' : List AV → Mem → Prop) (h : Hid K') : seeE env m (hid K' h) = K' env m := Eq.trans rfl rfl
theorem stepsK_cons (Q : List AV → Mem → Prop) (op : Op) (dst : Option Nat) (g : Option (Option Nat × Bool)) (rest : List Ln) (env : List AV) (m : Mem) :
    stepsK P Q (⟨op, dst, g⟩ :: rest) env m = onK env g (opK P op (evA env) m fun v m' => seeE (put env dst v) m' (hid (fun env m => stepsK P Q rest env m) .mk)) (seeE (put env dst (.tup [])) m (hid (fun env m => stepsK P Q rest env m) .mk)) := Eq.trans rfl rfl
def AV.flat : AV → Bool
  | .val _ => true
  | .agg cs => flats cs
  | .tup cs => flats cs
  | _ => false
where flats : List AV → Bool
  | [] => true
  | x :: l => AV.flat x && flats l
mutual
theorem New.flat {m : Mem} : ∀ {x : AV}, x.flat = true → New m x x
  | .val _, _ => .val
  | .agg cs, h => .agg rfl fun i a b => New.flats h i a
  | .tup cs, h => .tup rfl fun i a b => New.flats h i a
  | .vs _ _, h | .vp _ _, h | .ptr _ _, h | .sl _ _ _ _, h | .fn _ _ _, h | .yld _, h | .ifc _ _, h | .map _, h | .junk, h => by simp [AV.flat] at h
theorem New.flats {m : Mem} : ∀ {l : List AV}, AV.flat.flats l = true → ∀ i (h : i < l.length), New m l[i] l[i]
  | x :: l, h, 0, hi => by simp only [AV.flat.flats, Bool.and_eq_true] at h; exact New.flat h.1
  | x :: l, h, i + 1, hi => by simp only [AV.flat.flats, Bool.and_eq_true] at h; exact New.flats h.2 i (by simpa using hi)
end
theorem F.of_W {f : FuncId} {fn : Func} {c : Code} {args : List AV} {R : AV} (hf : P.funcs[f]? = some fn) (hb : fn.body = some c) (hnm : (fn.name == "runtime.NumGoroutine") = false)
    (h : W P none c (fun e env' m' => (match e with | .normal | .ret => True | _ => False) ∧ ∃ r, resA P fn env' m' = some r ∧ New m' r R) (args ++ List.replicate (fn.ntmps - args.length) (.tup [])) nomem) : F P f args R :=
  F.of_C (C.of_W hf hb hnm h)
theorem fresh_set (m : Mem) (n k : Nat) (b : Blk) : (m.set n b k = none) = (k ≠ n ∧ n ≠ k ∧ m k = none) := by
  rw [Mem.set_none]; simp only [eq_iff_iff]; constructor
  · exact fun ⟨a, b⟩ => ⟨a, Ne.symm a, b⟩
  · exact fun ⟨a, _, b⟩ => ⟨a, b⟩
theorem Mem.set_at (m : Mem) (n k : Nat) (b : Blk) : m.set n b k = if k = n then some b else m k := rfl
end Go.Abs

set_option linter.unusedVariables false
set_option linter.unusedSimpArgs false
namespace Go.Abs
variable {P : Program} {ev : Operand → AV} {m : Mem} {K' : AV → Mem → Prop}
def got {α : Type} (o : Option α) (K : α → Prop) : Prop := match o with | some r => K r | none => False
theorem got_some {α : Type} (a : α) (K : α → Prop) (h : Hid K) : got (some a) (hid K h) = K a := Eq.trans rfl rfl
theorem got_ex {α : Type} (o : Option α) (K : α → Prop) : (∃ a, o = some a ∧ K a) = got o K := by
  cases o <;> simp [got]
theorem opK_move (x : Operand) : opK P (.move x) ev m K' = K' (ev x) m := Eq.trans rfl rfl
theorem opK_assign (x : Operand) : opK P (.assign x) ev m K' = K' (ev x) m := Eq.trans rfl rfl
def pickA (c a b : AV) : Option AV := match c with | .val (.bool t) => some (if t then a else b) | _ => none
theorem pickA_bool (t : Bool) (a b : AV) : pickA (.val (.bool t)) a b = some (if t then a else b) := rfl
theorem quiet_opK {op : Op} {o : Option AV} (h : quietA P m ev op = o) (hl : loudK P op ev m K' = False) : opK P op ev m K' = got o (hid (fun r => K' r m) .mk) := by
  unfold opK hid
  rw [h]
  cases o with
  | none => exact hl
  | some r => rfl
theorem opK_pick (c a b : Operand) : opK P (.pick c a b) ev m K' = got (pickA (ev c) (ev a) (ev b)) (hid (fun r => K' r m) .mk) := quiet_opK rfl rfl
theorem opK_load (t : TypeId) (a : Operand) : opK P (.load t a) ev m K' = got (loadA P m t (ev a)) (hid (fun r => K' r m) .mk) := quiet_opK rfl rfl
theorem opK_nilCheck (x : Operand) : opK P (.nilCheck x) ev m K' = got (nilCheckA (ev x)) (hid (fun r => K' r m) .mk) := quiet_opK rfl rfl
def binK (P : Program) (op : BinOp) (t : TypeId) (x y : AV) (o : Option AV) (K : AV → Prop) : Prop := match o with | some r => K r | none => nilAny P op t x y ∧ ∀ b, K (.val (.bool b))
theorem binK_some (op : BinOp) (t : TypeId) (x y a : AV) (K : AV → Prop) (h : Hid K) : binK P op t x y (some a) (hid K h) = K a := Eq.trans rfl rfl
theorem opK_bin (op : BinOp) (t : TypeId) (x y : Operand) (u : TypeId) : opK P (.binOp op t x y u) ev m K' = binK P op t (ev x) (ev y) (cmpA P t op (ev x) (ev y)) (hid (fun r => K' r m) .mk) := by
  unfold binK
  cases h : cmpA P t op (ev x) (ev y) with
  | some r => simp only [opK, quietA, h, hid]
  | none => simp only [opK, quietA, h, loudK, hid]
theorem nil_any {op : BinOp} {t e : TypeId} {i : TI} {x : AV} {K : AV → Prop} {h : Hid K} (hi : ti P t = some i) (hd : i.desc = .slice e) (hop : op = .eql ∨ op = .neq) (hx : (∃ es ex, x = .vs es ex) ∨ ∃ n off len cap, x = .sl n off len cap) (hk : ∀ b, K (.val (.bool b))) :
    binK P op t x (.val (.slice none 0 0)) (cmpA P t op x (.val (.slice none 0 0))) (hid K h) := by
  unfold binK hid
  cases hc : cmpA P t op x (.val (.slice none 0 0)) with
  | none => exact ⟨⟨hop, ⟨i, e, hi, hd⟩, rfl, hx⟩, hk⟩
  | some r =>
    have : ∃ b, r = .val (.bool b) := by
      unfold cmpA at hc
      rw [hi] at hc
      have hb : binA i.desc op x (.val (.slice none 0 0)) = none ∨ ∃ b, binA i.desc op x (.val (.slice none 0 0)) = some (.val (.bool b)) := by
        rcases hx with ⟨es, ex, rfl⟩ | ⟨n, off, len, cap, rfl⟩ <;> rw [hd] <;> exact .inl rfl
      rcases hb with hb | ⟨b, hb⟩
      · simp only [hb] at hc
        rcases hop with rfl | rfl
        · simp only at hc
          split at hc
          · cases hc; exact ⟨_, rfl⟩
          · rcases hx with ⟨es, ex, rfl⟩ | ⟨n, off, len, cap, rfl⟩ <;> cases hc
        · simp only at hc
          split at hc
          · cases hc; exact ⟨_, rfl⟩
          · rcases hx with ⟨es, ex, rfl⟩ | ⟨n, off, len, cap, rfl⟩ <;> cases hc
      · simp only [hb] at hc; cases hc; exact ⟨_, rfl⟩
    obtain ⟨b, rfl⟩ := this
    exact hk b
theorem opK_un (op : UnOp) (t : TypeId) (x : Operand) : opK P (.unOp op t x) ev m K' = got (unA op (ev x)) (hid (fun r => K' r m) .mk) := quiet_opK rfl rfl
def convK (P : Program) (m : Mem) (s d : TypeId) (x : AV) (o : Option AV) (K : AV → Mem → Prop) : Prop := match o with | some r => K r m | none => (∃ b, textB P s d x = some b ∧ K (.vs (bytesE b) false) m) ∨ (∃ r m', markA P m s d x = some (r, m') ∧ K r m') ∨ ∃ b e, textT P s d x = some (b, e) ∧ ∀ n, m n = none → K (.sl n 0 b.size b.size) (m.set n (.cells true e (bytesE b).flatten))
theorem convK_some (s d : TypeId) (x a : AV) (K : AV → Mem → Prop) (h : Hid K) : convK P m s d x (some a) (hid K h) = K a m := Eq.trans rfl rfl
theorem opK_convert (s d : TypeId) (x : Operand) : opK P (.convert s d x) ev m K' = convK P m s d (ev x) (convA P m s d (ev x)) (hid K' .mk) := by
  unfold convK
  cases h : convA P m s d (ev x) with
  | some r => simp only [opK, quietA, h, hid]
  | none => simp only [opK, quietA, h, loudK, hid]
theorem opK_arrPtr (t : TypeId) (x : Operand) : opK P (.sliceToArrayPointer t x) ev m K' = got (arrPtrA P t (ev x)) (hid (fun r => K' r m) .mk) := quiet_opK rfl rfl
theorem opK_iface (t : TypeId) (x : Operand) : opK P (.makeInterface t x) ev m K' = got (ifaceA P t (ev x)) (hid (fun r => K' r m) .mk) := quiet_opK rfl rfl
theorem opK_fn (f : Fn) (a b : Array Operand) : opK P (.makeFunc f a b) ev m K' = got (mkFnA ev f a b) (hid (fun r => K' r m) .mk) := quiet_opK rfl rfl
theorem opK_slice (t : TypeId) (x : Operand) (lo hi mx : Option Operand) : opK P (.slice t x lo hi mx) ev m K' = got (sliceA P m t (ev x) (lo.map ev) (hi.map ev) (mx.map ev)) (hid (fun r => K' r m) .mk) := quiet_opK rfl rfl
theorem opK_fieldAddr (s : TypeId) (x : Operand) (f : Nat) : opK P (.fieldAddr s x f) ev m K' = got (fieldAddrA P s f (ev x)) (hid (fun r => K' r m) .mk) := quiet_opK rfl rfl
theorem opK_field (t : TypeId) (x : Operand) (f : Nat) : opK P (.field t x f) ev m K' = got (fieldA P t (ev x) f) (hid (fun r => K' r m) .mk) := quiet_opK rfl rfl
theorem opK_indexAddr (t : TypeId) (x ix : Operand) : opK P (.indexAddr t x ix) ev m K' = got (indexAddrA P t (ev x) (ev ix)) (hid (fun r => K' r m) .mk) := quiet_opK rfl rfl
theorem opK_index (t : TypeId) (x ix : Operand) : opK P (.index t x ix) ev m K' = got (indexA P t (ev x) (ev ix)) (hid (fun r => K' r m) .mk) := quiet_opK rfl rfl
theorem opK_build (t : TypeId) (ps : Array (Nat × Operand)) : opK P (.build t ps) ev m K' = got (buildA P t (ps.toList.map fun p => (p.1, ev p.2))) (hid (fun r => K' r m) .mk) := quiet_opK rfl rfl
theorem opK_extract (x : Operand) (i : Nat) : opK P (.extract x i) ev m K' = got (extractA i (ev x)) (hid (fun r => K' r m) .mk) := quiet_opK rfl rfl
theorem opK_len (x : Operand) (t : TypeId) : opK P (.call { callee := .builtin .len, args := #[x], argTypes := #[t] }) ev m K' = got (lenA P m t (ev x)) (hid (fun r => K' r m) .mk) := quiet_opK rfl rfl
theorem opK_min (args : Array Operand) (ts : Array TypeId) : opK P (.call { callee := .builtin .min, args := args, argTypes := ts }) ev m K' = got (mmA false (args.toList.map ev)) (hid (fun r => K' r m) .mk) := quiet_opK rfl rfl
theorem opK_max (args : Array Operand) (ts : Array TypeId) : opK P (.call { callee := .builtin .max, args := args, argTypes := ts }) ev m K' = got (mmA true (args.toList.map ev)) (hid (fun r => K' r m) .mk) := quiet_opK rfl rfl
theorem opK_makeMap (t : TypeId) : opK P (.makeMap t none) ev m K' = allK m (hid (fun n => K' (.map n) (m.set n (.map []))) .mk) := Eq.trans rfl rfl
theorem opK_lookup (t : TypeId) (x k : Operand) (ok : Bool) : opK P (.lookup t x k ok) ev m K' = got (lookA P m t (ev x) (ev k) ok) (hid (fun r => K' r m) .mk) := quiet_opK rfl rfl
theorem opK_mapPut (t : TypeId) (x k v : Operand) : opK P (.mapUpdate t x k v) ev m K' = got (mapPutA P m t (ev x) (ev k) (ev v)) (hid (fun m' => K' (.tup []) m') .mk) := got_ex _ _
theorem opK_store (t : TypeId) (a x : Operand) : opK P (.store t a x) ev m K' = got (storeA P m t (ev a) (ev x)) (hid (fun m' => K' (.tup []) m') .mk) := got_ex _ _
theorem opK_alloc (t : TypeId) : opK P (.alloc t) ev m K' = got (zeroA P t) (hid (fun cs => allK m (hid (fun n => K' (.ptr n 0) (m.set n (.cells false t cs))) .mk)) .mk) := got_ex _ _
theorem opK_box (t : TypeId) (x : Operand) : opK P (.box t x) ev m K' = got (ev x).cells (hid (fun cs => allK m (hid (fun n => K' (.ptr n 0) (m.set n (.cells false t cs))) .mk)) .mk) := got_ex _ _
theorem opK_call (f : Operand) (args : Array Operand) (ts : Array TypeId) : opK P (.call { callee := .value f, args := args, argTypes := ts }) ev m K' = CW P (ev f) (args.toList.map ev) m (hid K' .mk) := Eq.trans rfl rfl
theorem opK_makeSlice (t : TypeId) (l c : Operand) : opK P (.makeSlice t l c) ev m K' = got (mkSliceA P t (ev l) (ev c)) (hid (fun r => allK m (hid (fun n => K' (.sl n 0 r.2.1 r.2.2.1) (m.set n (.cells false r.1 r.2.2.2))) .mk)) .mk) := by
  show (∃ e a b cs, mkSliceA P t (ev l) (ev c) = some (e, a, b, cs) ∧ _) = _
  cases h : mkSliceA P t (ev l) (ev c) with
  | none => simp [got, hid]
  | some r =>
    obtain ⟨e, a, b, cs⟩ := r
    refine propext ⟨?_, fun h => ⟨e, a, b, cs, rfl, h⟩⟩
    rintro ⟨_, _, _, _, h1, h2⟩
    cases h1
    exact h2
theorem opK_append (s x : Operand) (t xt : TypeId) : opK P (.call { callee := .builtin .append, args := #[s, x], argTypes := #[t, xt] }) ev m K' = AppK P t xt (ev s) (ev x) m (hid K' .mk) := Eq.trans rfl rfl
theorem CW_func (g : FuncId) (first caps args : List AV) : CW P (.fn (.func g) first caps) args m K' = CC P g (first ++ args ++ caps) m K' := Eq.trans rfl rfl
theorem CW_yld (n : Nat) (args : List AV) : CW P (.yld n) args m K' = Y P n args m K' := Eq.trans rfl rfl
theorem opK_copy (d x : Operand) (t xt : TypeId) : opK P (.call { callee := .builtin .copy, args := #[d, x], argTypes := #[t, xt] }) ev m K' = got (copyA P m t xt (ev d) (ev x)) (hid (fun r => K' (.val (.int .i64 r.1)) r.2) .mk) := by
  show (∃ k m', copyA P m t xt (ev d) (ev x) = some (k, m') ∧ K' (.val (.int .i64 k)) m') = _
  cases h : copyA P m t xt (ev d) (ev x) with
  | none => simp [got, hid]
  | some r =>
    obtain ⟨k, m'⟩ := r
    refine propext ⟨?_, fun h => ⟨k, m', rfl, h⟩⟩
    rintro ⟨_, _, h1, h2⟩
    cases h1
    exact h2
theorem opK_clear (x : Operand) (t : TypeId) : opK P (.call { callee := .builtin .clear, args := #[x], argTypes := #[t] }) ev m K' = got (clearA P m t (ev x)) (hid (fun r => K' (.tup []) r) .mk) := got_ex _ _
theorem opK_cap (x : Operand) (t : TypeId) : opK P (.call { callee := .builtin .cap, args := #[x], argTypes := #[t] }) ev m K' = got (capA P m t (ev x)) (hid (fun r => K' r m) .mk) := got_ex _ _
theorem moveA_ptr (k n off : Nat) : moveA k (.ptr n off) = some (.ptr n (off + k)) := rfl
theorem moveA_vp (k : Nat) (cs : List AV) (off : Nat) : moveA k (.vp cs off) = some (.vp cs (off + k)) := rfl
theorem extractA_tup (i : Nat) (vs : List AV) : extractA i (.tup vs) = vs[i]? := rfl
theorem evA_tmp (env : List AV) (t : Nat) : evA env (.tmp t) = nth env t := rfl
theorem evA_int (env : List AV) (k : IntKind) (x : Int) : evA env (.const (.int k x)) = .val (.int k x) := rfl
theorem evA_bool (env : List AV) (b : Bool) : evA env (.const (.bool b)) = .val (.bool b) := rfl
theorem evA_str (env : List AV) (s : ByteArray) : evA env (.const (.string s)) = .val (.string s) := rfl
theorem evA_nilS (env : List AV) : evA env (.const (.slice none 0 0)) = .val (.slice none 0 0) := rfl
theorem evA_nilP (env : List AV) : evA env (.const (.pointer none)) = .val (.pointer none) := rfl
theorem evA_nilI (env : List AV) : evA env (.const .nilIface) = .val .nilIface := rfl
theorem evA_nilF (env : List AV) : evA env (.const .nilFunc) = .val .nilFunc := rfl
theorem evA_func (env : List AV) (f : FuncId) : evA env (.func f) = .fn (.func f) [] [] := rfl
theorem fieldAddrA_of {s : TypeId} {i : TI} {fs : Array Field} (hi : ti P s = some i) (hd : i.desc = .struct fs) (f k : Nat) {fd : Field} (hf : fs[f]? = some fd) {t : TypeId} {j : TI} (ht : fd.type = t) (hj : ti P t = some j) (h0 : (j.size == 0) = false) (hk : fd.offset = k) (x : AV) :
    fieldAddrA P s f x = moveA k x := by
  subst ht hk
  simp only [fieldAddrA, hi, hd, hf, hj, if_neg (ne_of_beq_false h0)]
def loadOne (m : Mem) (x : AV) : Option AV := match cellsAt m x with | some (cs, off) => cs[off]? | none => none
def loadAgg (m : Mem) (n : Nat) (x : AV) : Option AV := match cellsAt m x with | some (cs, off) => if off + n ≤ cs.length then some (.agg ((cs.drop off).take n)) else none | none => none
theorem loadA_one {t : TypeId} {i : TI} (hi : ti P t = some i) (hd : isAggD i.desc = false) (m : Mem) (x : AV) : loadA P m t x = loadOne m x := by
  simp only [loadA, hi, loadOne]
  cases cellsAt m x with
  | none => rfl
  | some p => obtain ⟨cs, off⟩ := p; simp [hd]
theorem loadA_agg {t : TypeId} {i : TI} (hi : ti P t = some i) (hd : isAggD i.desc = true) (h0 : Nat.ble 1 i.size = true) (m : Mem) (x : AV) : loadA P m t x = loadAgg m i.size x := by
  simp only [loadA, hi, loadAgg]
  cases cellsAt m x with
  | none => rfl
  | some p => obtain ⟨cs, off⟩ := p; simp [hd, show 0 < i.size from Nat.le_of_ble_eq_true h0]
theorem loadOne_ptr (m : Mem) (n off : Nat) : loadOne m (.ptr n off) = (match m n with | some (.cells _ _ cs) => cs[off]? | _ => none) := by
  unfold loadOne cellsAt
  cases h : m n with
  | none => simp [h]
  | some b => cases b <;> simp [h]
theorem loadOne_vp (m : Mem) (cs : List AV) (off : Nat) : loadOne m (.vp cs off) = cs[off]? := rfl
theorem loadAgg_ptr (m : Mem) (k n off : Nat) : loadAgg m k (.ptr n off) = (match m n with | some (.cells _ _ cs) => if off + k ≤ cs.length then some (.agg ((cs.drop off).take k)) else none | _ => none) := by
  unfold loadAgg cellsAt
  cases h : m n with
  | none => simp [h]
  | some b => cases b <;> simp [h]
theorem loadAgg_vp (m : Mem) (k : Nat) (cs : List AV) (off : Nat) : loadAgg m k (.vp cs off) = if off + k ≤ cs.length then some (.agg ((cs.drop off).take k)) else none := rfl
def storeN (m : Mem) (k n off : Nat) (v : AV) : Option Mem :=
  match m n, v.cells with
  | some (.cells opn bt cs), some vs => if vs.length = k ∧ off + vs.length ≤ cs.length ∧ 0 < vs.length then some (m.set n (.cells opn bt (setRange cs off vs))) else none
  | _, _ => none
theorem storeA_of {t : TypeId} {i : TI} (hi : ti P t = some i) (m : Mem) (n off : Nat) (v : AV) : storeA P m t (.ptr n off) v = storeN m i.size n off v := by
  unfold storeA storeN
  simp only
  cases m n with
  | none => rfl
  | some b => cases b with
    | cells opn bt cs => simp only [hi]; cases v.cells <;> rfl
    | _ => rfl
def onTi (i : Option TI) (o : Option AV) : Option AV := match i with | some _ => o | none => none
theorem onTi_some (i : TI) (o : Option AV) : onTi (some i) o = o := rfl
theorem cmpA_ii (t : TypeId) (op : BinOp) (k k' : IntKind) (a b : Int) : cmpA P t op (.val (.int k a)) (.val (.int k' b)) = onTi (ti P t) (intBin op k a k' b) := by
  unfold cmpA onTi
  cases ti P t with
  | none => rfl
  | some i =>
    simp only [binA]
    have hn : nilBin i.desc (.val (.int k a)) (.val (.int k' b)) = none := by cases i.desc <;> rfl
    cases intBin op k a k' b with
    | some r => rfl
    | none => cases op <;> simp only [hn]
theorem cmpA_ss (t : TypeId) (op : BinOp) (a b : ByteArray) : cmpA P t op (.val (.string a)) (.val (.string b)) = onTi (ti P t) (strBin op a b) := by
  unfold cmpA onTi
  cases ti P t with
  | none => rfl
  | some i =>
    simp only [binA]
    have hn : nilBin i.desc (.val (.string a)) (.val (.string b)) = none := by cases i.desc <;> rfl
    cases strBin op a b with
    | some r => rfl
    | none => cases op <;> simp only [hn]
def boolBin (i : Option TI) (op : BinOp) (a b : Bool) : Option AV := match i with
  | some i => match i.desc, op with
    | .bool, .eql => some (.val (.bool (a == b)))
    | .bool, .neq => some (.val (.bool !(a == b)))
    | _, _ => none
  | none => none
theorem cmpA_bb (t : TypeId) (op : BinOp) (a b : Bool) : cmpA P t op (.val (.bool a)) (.val (.bool b)) = boolBin (ti P t) op a b := by
  unfold cmpA boolBin
  cases ti P t with
  | none => rfl
  | some i =>
    simp only [binA]
    cases i.desc <;> cases op <;> rfl
theorem cells_val (v : Value) : (AV.val v).cells = some [.val v] := rfl
theorem cells_vs (es : List (List AV)) (x : Bool) : (AV.vs es x).cells = some [.vs es x] := rfl
theorem cells_vp (cs : List AV) (off : Nat) : (AV.vp cs off).cells = some [.vp cs off] := rfl
theorem cells_ptr (n off : Nat) : (AV.ptr n off).cells = some [.ptr n off] := rfl
theorem cells_sl (n off len cap : Nat) : (AV.sl n off len cap).cells = some [.sl n off len cap] := rfl
theorem cells_fn (f : Fn) (a b : List AV) : (AV.fn f a b).cells = some [.fn f a b] := rfl
theorem cells_yld (n : Nat) : (AV.yld n).cells = some [.yld n] := rfl
theorem cells_map (n : Nat) : (AV.map n).cells = some [.map n] := rfl
theorem cells_agg (cs : List AV) : (AV.agg cs).cells = if cs.all AV.one then some cs else none := rfl
def pickB (c : Bool) (a b : AV) : AV := if c then a else b
def inB (n t : Nat) (v : AV) : AV := if t < n then v else .junk
theorem pickB_true (a b : AV) (h : Hid a) : pickB true (hid a h) b = a := Eq.trans rfl rfl
theorem pickB_false (a b : AV) (h : Hid b) : pickB false a (hid b h) = b := Eq.trans rfl rfl
theorem inB_lt (n t : Nat) (v : AV) (h : t < n) : inB n t v = v := if_pos h
theorem nth_upd (l : List AV) (t k : Nat) (v : AV) : nth (upd l t v) k = pickB (t == k) (hid (inB l.length t v) .mk) (hid (nth l k) .mk) := by
  simp only [nth_eq, upd_eq, pickB, inB, hid]
  by_cases h : t = k
  · subst h
    simp only [beq_self_eq_true, if_true]
    by_cases h' : t < l.length
    · simp [h']
    · simp [h']
  · have : (t == k) = false := by simpa using h
    simp only [this, Bool.false_eq_true, if_false, List.getElem?_set_ne h]
theorem upd_len (l : List AV) (t : Nat) (v : AV) : (upd l t v).length = l.length := by rw [upd_eq]; simp
theorem cast_succ (i : Nat) : ((i + 1 : Nat) : Int) = (i : Int) + 1 := rfl
theorem wrap_i64 (x : Int) (h : -9223372036854775808 ≤ x) (h' : x < 9223372036854775808) : IntKind.i64.wrap x = x := IntWalk.i64_in x (by omega)
theorem wrap_u64 (x : Int) (h : 0 ≤ x) (h' : x < 18446744073709551616) : IntKind.u64.wrap x = x := IntWalk.u64_in x (by omega)
theorem shr_half (k : IntKind) (hk : 1 ≤ k.bits) (x : Int) : x.fdiv (2 ^ min (Int.toNat 1) k.bits) = x / 2 := by
  have : min (Int.toNat 1) k.bits = 1 := by
    have : Int.toNat 1 = 1 := rfl
    omega
  rw [this, Int.pow_succ, Int.pow_zero, Int.one_mul, Int.fdiv_eq_ediv_of_nonneg x (by decide)]
theorem shr_half64 (x : Int) : x.fdiv (2 ^ min (Int.toNat 1) IntKind.u64.bits) = x / 2 := shr_half .u64 (by decide) x
theorem index_vs {α : Type} [Inhabited α] (f : α → List AV) {t e : TypeId} {i j : TI} (ht : ti P t = some i) (hd : i.desc = .slice e) (he : ti P e = some j) (hf : ∀ a, (f a).length = j.size) (l : List α) (x : Bool) (kk : IntKind) (k : Int) (h0 : 0 ≤ k) (h1 : k < l.length) :
    indexAddrA P t (.vs (l.map f) x) (.val (.int kk k)) = some (.vp (f (l.getD k.toNat default)) 0) := by
  have hk : k.toNat < l.length := by omega
  simp only [indexAddrA, ht, hd, he, List.length_map]
  rw [dif_pos ⟨h0, by omega⟩]
  simp only [List.getElem_map, hf, if_true, List.getD_eq_getElem?_getD, List.getElem?_eq_getElem hk, Option.getD_some]
end Go.Abs

set_option linter.unusedVariables false
set_option linter.unusedSimpArgs false
namespace Go.Abs
variable {P : Program}
theorem cellsAt_mono {m m' : Mem} (h : m.sub m') {x : AV} {r : List AV × Nat} (hr : cellsAt m x = some r) : cellsAt m' x = some r := by
  unfold cellsAt at *
  split at hr
  · rename_i n off
    split at hr
    · rename_i hm; simp only [h _ _ hm]; exact hr
    · cases hr
  · exact hr
  · cases hr
theorem loadA_mono {m m' : Mem} (h : m.sub m') {t : TypeId} {x r : AV} (hr : loadA P m t x = some r) : loadA P m' t x = some r := by
  unfold loadA at *
  cases hi : ti P t with
  | none => rw [hi] at hr; cases hr
  | some i =>
    cases hc : cellsAt m x with
    | none => rw [hi, hc] at hr; cases hr
    | some p => rw [hi, hc] at hr; rw [cellsAt_mono h hc]; exact hr
theorem lenA_mono {m m' : Mem} (h : m.sub m') {t : TypeId} {x r : AV} (hr : lenA P m t x = some r) : lenA P m' t x = some r := by
  unfold lenA at *
  cases hi : ti P t with
  | none => rw [hi] at hr; cases hr
  | some i =>
    rw [hi] at hr
    simp only at hr ⊢
    split at hr
    case h_8 => cases hr
    case h_7 n e =>
      try simp only [e]
      split at hr
      · rename_i hm; simp only [h _ _ hm]; exact hr
      · cases hr
    all_goals exact hr
theorem sliceA_mono {m m' : Mem} (h : m.sub m') {t : TypeId} {x r : AV} {lo hi mx : Option AV} (hr : sliceA P m t x lo hi mx = some r) : sliceA P m' t x lo hi mx = some r := by
  unfold sliceA at *
  cases ht : ti P t with
  | none => rw [ht] at hr; cases hr
  | some i =>
    rw [ht] at hr
    simp only at hr ⊢
    cases hd : i.desc with
    | slice e =>
      rw [hd] at hr
      simp only at hr ⊢
      cases he : ti P e with
      | none => rw [he] at hr; cases hr
      | some j =>
        rw [he] at hr
        simp only at hr ⊢
        split at hr
        case h_3 n off len cap =>
          split at hr
          · rename_i hm; simp only [h _ _ hm]; exact hr
          · cases hr
        all_goals first | exact hr | cases hr
    | _ => rw [hd] at hr; exact hr
theorem convA_mono {m m' : Mem} (h : m.sub m') {s t : TypeId} {x r : AV} (hr : convA P m s t x = some r) : convA P m' s t x = some r := by
  unfold convA at *
  split at hr
  case h_2 => cases hr
  case h_1 i j hi hj =>
    split at hr
    case h_5 => cases hr
    case h_4 n off len cap e =>
      try simp only [e]
      split at hr
      · rename_i opn bt cs hd hm; first | (simp only [hd, h _ _ hm]; exact hr) | (simp only [h _ _ hm]; exact hr)
      · cases hr
    all_goals exact hr
theorem lookA_mono {m m' : Mem} (h : m.sub m') {t : TypeId} {x k r : AV} {ok : Bool} (hr : lookA P m t x k ok = some r) : lookA P m' t x k ok = some r := by
  unfold lookA at *
  split at hr
  · rename_i kt et n hu
    split at hr
    · rename_i es hm
      simp only [hu, h _ _ hm]
      exact hr
    · cases hr
  · cases hr
theorem quietA_mono {m m' : Mem} (h : m.sub m') {ev : Operand → AV} {op : Op} {r : AV} (hr : quietA P m ev op = some r) : quietA P m' ev op = some r := by
  unfold quietA at *
  split at hr
  case h_4 => exact loadA_mono h hr
  case h_8 => exact convA_mono h hr
  case h_11 => exact sliceA_mono h hr
  case h_18 =>
    split at hr
    · rename_i h1 h2; first | exact lenA_mono h hr | (simp only [h1, h2]; exact lenA_mono h hr)
    · cases hr
  all_goals first | exact hr | exact lookA_mono h hr | cases hr
theorem quietA_congr {m : Mem} {ev ev' : Operand → AV} {op : Op} (h : ∀ x ∈ op.operands, ev x = ev' x) : quietA P m ev op = quietA P m ev' op := by
  have pairs : ∀ ps : List (Nat × Operand), (∀ x ∈ ps.map (·.2), ev x = ev' x) → (ps.map fun p => (p.1, ev p.2)) = (ps.map fun p => (p.1, ev' p.2)) := fun ps hp =>
    List.map_congr_left fun p hm => by rw [hp p.2 (List.mem_map.2 ⟨p, hm, rfl⟩)]
  have args : ∀ l : List Operand, (∀ x ∈ l, ev x = ev' x) → l.map ev = l.map ev' := fun l hp => List.map_congr_left hp
  cases op <;> simp only [Op.operands] at h
  case build t ps => simp only [quietA]; rw [pairs ps.toList fun x hx => h x (by simpa using hx)]
  case makeFunc f a b =>
    simp only [quietA, mkFnA]
    rw [args a.toList fun x hx => h x (by simp only [Array.mem_append]; exact .inl (by simpa using hx)), args b.toList fun x hx => h x (by simp only [Array.mem_append]; exact .inr (by simpa using hx))]
  case slice t x lo hi mx => cases lo <;> cases hi <;> cases mx <;> simp_all [quietA]
  case call c =>
    obtain ⟨callee, as, ts⟩ := c
    cases callee with
    | builtin b =>
      have h' : ∀ x ∈ as.toList, ev x = ev' x := fun x hx => h x (by simpa [Call.operands] using hx)
      cases b <;> try rfl
      · simp only [quietA]
        cases e1 : ts[0]? with
        | none => rfl
        | some t => cases e2 : as[0]? with
          | none => rfl
          | some x => simp only [h' x (by simpa using Array.mem_of_getElem? e2)]
      all_goals (simp only [quietA]; rw [args _ h'])
    | _ => rfl
  all_goals (first | rfl | (simp_all [quietA]; done))
theorem loudK_congr {m : Mem} {ev ev' : Operand → AV} {op : Op} {K' : AV → Mem → Prop} (h : ∀ x ∈ op.operands, ev x = ev' x) : loudK P op ev m K' = loudK P op ev' m K' := by
  have pairs : ∀ ps : List (Nat × Operand), (∀ x ∈ ps.map (·.2), ev x = ev' x) → (ps.map fun p => (p.1, ev p.2)) = (ps.map fun p => (p.1, ev' p.2)) := fun ps hp =>
    List.map_congr_left fun p hm => by rw [hp p.2 (List.mem_map.2 ⟨p, hm, rfl⟩)]
  have args : ∀ l : List Operand, (∀ x ∈ l, ev x = ev' x) → l.map ev = l.map ev' := fun l hp => List.map_congr_left hp
  cases op <;> simp only [Op.operands] at h
  case buildSlice t n ps => simp only [loudK]; rw [pairs ps.toList fun x hx => h x (by simpa using hx)]
  case makeMap t r => cases r <;> simp_all [loudK]
  case call c =>
    obtain ⟨callee, as, ts⟩ := c
    cases callee with
    | value f =>
      simp only [loudK]
      rw [h f (by simp [Call.operands]), args as.toList fun x hx => h x (by simp only [Call.operands, Array.mem_append]; exact .inr (by simpa using hx))]
    | builtin b =>
      have h' : ∀ x ∈ as.toList, ev x = ev' x := fun x hx => h x (by simpa [Call.operands] using hx)
      cases b <;> try rfl
      all_goals (
        simp only [loudK]
        split
        · first
            | (rename_i s x t xt e1 e2
               rw [e1] at h'
               rw [h' s (by simp), h' x (by simp)])
            | (rename_i x t e1 e2
               rw [e1] at h'
               rw [h' x (by simp)])
        · rfl)
    | _ => rfl
  all_goals (first | rfl | (simp_all [loudK]; done))
theorem opK_congr {m : Mem} {ev ev' : Operand → AV} {op : Op} {K' : AV → Mem → Prop} (h : ∀ x ∈ op.operands, ev x = ev' x) : opK P op ev m K' = opK P op ev' m K' := by
  unfold opK; rw [quietA_congr h, loudK_congr h]
def waitsB (ops : Array Oper) (a b : Nat) : Bool := match ops[a]? with | some o => o.after.any fun e => Region.binds .any e && e.on == b | none => false
def reachB (ops : Array Oper) : Nat → Nat → Nat → Bool
  | 0, a, b => waitsB ops a b
  | n + 1, a, b => waitsB ops a b || (List.range ops.size).any fun c => waitsB ops a c && reachB ops n c b
def chainedB (ops : Array Oper) (j : Nat) : Bool := (List.range ops.size).all fun k => k == j || reachB ops 8 j k || reachB ops 8 k j
def Closed (ops : Array Oper) (listed : Array Bool) : Prop := ∀ (x : Nat) (o : Oper), ops[x]? = some o → listed.getD x false = true → ∀ e ∈ o.after, Region.binds .any e = true → listed.getD e.on false = true
theorem Closed.none (ops : Array Oper) (n : Nat) : Closed ops (Array.replicate n false) := fun x o _ h => by
  rw [Array.getD_eq_getD_getElem?] at h
  rw [Array.getElem?_replicate] at h
  split at h <;> simp at h
theorem waitsB_listed {ops : Array Oper} {listed : Array Bool} {a b : Nat} (h : ∀ o, ops[a]? = some o → ∀ e ∈ o.after, Region.binds .any e = true → listed.getD e.on false = true) (hw : waitsB ops a b = true) : listed.getD b false = true := by
  unfold waitsB at hw
  split at hw
  · rename_i o ho
    obtain ⟨e, he, hb⟩ := Array.any_eq_true'.1 hw
    simp only [Bool.and_eq_true, beq_iff_eq] at hb
    rw [← hb.2]
    exact h o ho e he hb.1
  · cases hw
theorem reachB_listed {ops : Array Oper} {listed : Array Bool} (hcl : Closed ops listed) : ∀ (n a b : Nat), (∀ o, ops[a]? = some o → ∀ e ∈ o.after, Region.binds .any e = true → listed.getD e.on false = true) → reachB ops n a b = true → listed.getD b false = true
  | 0, a, b, h, hr => waitsB_listed h hr
  | n + 1, a, b, h, hr => by
    simp only [reachB, Bool.or_eq_true, List.any_eq_true, Bool.and_eq_true] at hr
    rcases hr with hr | ⟨c, _, h1, h2⟩
    · exact waitsB_listed h hr
    · exact reachB_listed hcl n c b (fun o ho => hcl c o ho (waitsB_listed h h1)) h2
def Stab (P : Program) (ops : Array Oper) (listed : Array Bool) (j : Nat) (env : List AV) (m m' : Mem) : Prop :=
  ∀ i oi, ops[i]? = some oi → listed.getD i false = true → reachB ops 8 j i = false → onK env (leanG ops oi.guard) ((quietA P m (evA env) oi.op).isSome = true ∧ quietA P m' (evA env) oi.op = quietA P m (evA env) oi.op) True
def stA (P : Program) (ops : Array Oper) (sb : Bool) (listed : Array Bool) (j : Nat) (Kc : List AV → Mem → Prop) (env : List AV) (m : Mem) : Prop :=
  match ops[j]? with
  | none => Kc env m
  | some o => onK env (leanG ops o.guard) (opK P o.op (evA env) m fun v m' => (chainedB ops j = true ∨ m.sub m' ∨ (sb = true ∧ Stab P ops listed j env m m')) ∧ Kc (put env o.dst v) m') (Kc (put env o.dst (.tup [])) m)
def anyA (P : Program) (ops : Array Oper) (sb : Bool) (Q : List AV → Mem → Prop) : Nat → Array Bool → List AV → Mem → Prop
  | 0, listed, env, m => Region.ready .any ops listed = [] ∧ Q env m
  | fuel + 1, listed, env, m => (Region.ready .any ops listed = [] → Q env m) ∧ ∀ i ∈ Region.ready .any ops listed, stA P ops sb listed i (anyA P ops sb Q fuel (listed.setIfInBounds i true)) env m
theorem opK_mono {op : Op} {ev : Operand → AV} {m : Mem} {K' K'' : AV → Mem → Prop} (h : opK P op ev m K') (hk : ∀ r m', K' r m' → K'' r m') : opK P op ev m K'' := by
  unfold opK at *
  split
  · rename_i r hr; rw [hr] at h; exact hk _ _ h
  · rename_i hr; rw [hr] at h; exact stepsK_sound.loud_mono h hk
theorem onK_mono {env : List AV} {g : Option (Option Nat × Bool)} {yes no yes' no' : Prop} (h : onK env g yes no) (hy : yes → yes') (hn : no → no') : onK env g yes' no' := by
  match g with
  | none => exact hy h
  | some (none, _) => exact hn h
  | some (some t, want) =>
    rw [onK_some'] at h ⊢
    generalize nth env t = v at h ⊢
    split at h
    · split at h
      · rw [if_pos ‹_›]; exact hy h
      · rw [if_neg ‹_›]; exact hn h
    · exact hn h
    · exact h.elim
theorem onK_cases {env : List AV} {g : Option (Option Nat × Bool)} {yes no : Prop} (h : onK env g yes no) : (yes ∧ ∀ a b : Prop, onK env g a b = a) ∨ (no ∧ ∀ a b : Prop, onK env g a b = b) := by
  match g with
  | none => exact .inl ⟨h, fun _ _ => rfl⟩
  | some (none, _) => exact .inr ⟨h, fun _ _ => rfl⟩
  | some (some t, want) =>
    simp only [onK_some'] at h ⊢
    generalize nth env t = v at h ⊢
    split at h
    · split at h
      · exact .inl ⟨h, fun a b => by rw [if_pos ‹_›]⟩
      · exact .inr ⟨h, fun a b => by rw [if_neg ‹_›]⟩
    · exact .inr ⟨h, fun _ _ => rfl⟩
    · exact h.elim
theorem anyA_sound {ops : Array Oper} {sb : Bool} {Q : List AV → Mem → Prop} {rd : Option Nat} {κ0 : K} {m0 : Mem} {w0 : World} {d0 : List Deferred} {Q' : Exit → Act → World → Prop}
    (hq : ∀ env' m' κ' w' a', Q env' m' → Step P κ0 m0 w0 κ' m' w' → Rels κ' env' a'.tmps → a'.defers = d0 → Q' .normal a' w') :
    ∀ (fuel : Nat) (listed : Array Bool) (env : List AV) (m : Mem), anyA P ops sb Q fuel listed env m →
    ∀ (κ : K) (w : World) (a : Act), Step P κ0 m0 w0 κ m w → Rels κ env a.tmps → a.defers = d0 → wpAnyIn (Fr rd) 0 P .any ops Q' fuel listed a w
  | 0, listed, env, m, h => fun κ w a hs hr hd => ⟨h.1, hq env m κ w a h.2 hs hr hd⟩
  | fuel + 1, listed, env, m, h => fun κ w a hs hr hd => by
    refine ⟨fun h0 => hq env m κ w a (h.1 h0) hs hr hd, fun i hi => ?_⟩
    have h1 := h.2 i hi
    unfold stA at h1
    unfold wpOpIn
    cases ho : ops[i]? with
    | none =>
      rw [ho] at h1
      exact anyA_sound hq fuel _ env m h1 κ w a hs hr hd
    | some o =>
      rw [ho] at h1
      simp only at h1 ⊢
      have h2 := onK_sound (ops := ops) (o := o) h1
      have fin : ∀ env' m' κ' w' a', anyA P ops sb Q fuel (listed.setIfInBounds i true) env' m' → Step P κ m w κ' m' w' → Rels κ' env' a'.tmps → a'.defers = a.defers → wpAnyIn (Fr rd) 0 P .any ops Q' fuel (listed.setIfInBounds i true) a' w' :=
        fun env' m' κ' w' a' g1 g2 g3 g4 => anyA_sound hq fuel _ env' m' g1 κ' w' a' (hs.trans g2) g3 (g4.trans hd)
      split at h2
      · rename_i hw
        rw [if_pos (wantedA_sound hr hw)]
        refine opK_sound hs.sim (evA_rel hr) h2 rd fun r m' κ' cv w' g1 g2 g3 => ?_
        refine fin _ m' κ' w' _ g1.2 g2 ((hr.mono g2.le).put o.dst g3) ?_
        cases o.dst <;> rfl
      · rename_i hw
        rw [if_neg (by rw [wantedA_sound hr hw]; simp)]
        refine ⟨fun _ _ => trivial, fin _ m κ w _ h2 (Step.refl hs.sim) (hr.put o.dst (.tup rfl fun i h => by simp at h)) ?_⟩
        cases o.dst <;> rfl
      · exact h2.elim
def Firm (P : Program) (ops : Array Oper) (o : Oper) (r : AV) (env : List AV) (m : Mem) : Prop :=
  onK env (leanG ops o.guard) (quietA P m (evA env) o.op = some r ∨ ∀ m', m.sub m' → ∀ K' : AV → Mem → Prop, K' r m' → opK P o.op (evA env) m' K') (r = .tup [])
theorem nth_put {env : List AV} {d : Option Nat} {t : Nat} (v : AV) (h : ∀ x, d = some x → x ≠ t) : nth (put env d v) t = nth env t := by
  cases d with
  | none => rfl
  | some x =>
    have := h x rfl
    simp only [put, nth_eq, upd_eq]
    rw [List.getElem?_set_ne this]
theorem evA_put {env : List AV} {d : Option Nat} {v : AV} {x : Operand} (h : ∀ t, d = some t → x ≠ .tmp t) : evA (put env d v) x = evA env x := by
  cases x with
  | tmp t => exact nth_put v fun y hy e => h y hy (by rw [e])
  | _ => rfl
theorem put_comm {env : List AV} {x y : Option Nat} (v u : AV) (h : ∀ d, x = some d → y ≠ some d) : put (put env x v) y u = put (put env y u) x v := by
  cases x with
  | none => rfl
  | some d => cases y with
    | none => rfl
    | some e =>
      have hne : d ≠ e := fun he => h d rfl (he ▸ rfl)
      simp only [put, upd_eq]
      exact List.set_comm _ _ hne
section
variable {ops : Array Oper}
theorem looks_op {o : Oper} {d : Nat} (h : d ∉ o.looksAt ops) : ∀ x ∈ o.op.operands, x ≠ .tmp d := fun x hx e => h (by
  subst e
  exact List.mem_append_left _ (List.mem_filterMap.2 ⟨.tmp d, by simpa using hx, rfl⟩))
theorem looks_guard {o : Oper} {d : Option Nat} (h : ∀ x, d = some x → x ∉ o.looksAt ops) {env : List AV} (v : AV) (yes no : Prop) : onK (put env d v) (leanG ops o.guard) yes no = onK env (leanG ops o.guard) yes no := by
  unfold onK leanG
  cases hg : o.guard with
  | none => rfl
  | some jw =>
    obtain ⟨j, want⟩ := jw
    simp only
    cases ht : (ops[j]?).bind (·.dst) with
    | none => rfl
    | some t =>
      have : nth (put env d v) t = nth env t := nth_put v fun x hx e => h x hx (by
        refine List.mem_append_right _ ?_
        rw [hg]
        simp only [ht, e]; simp)
      simp only [this]
theorem evA_putE {o : Oper} {d : Option Nat} {env : List AV} {v : AV} (hd : ∀ x, d = some x → x ∉ o.looksAt ops) : ∀ x ∈ o.op.operands, evA (put env d v) x = evA env x :=
  fun x hx => evA_put fun t ht => looks_op (hd t ht) x hx
theorem Firm.put {o : Oper} {r : AV} {env : List AV} {m m' : Mem} (h : Firm P ops o r env m) (hsub : m.sub m') {d : Option Nat} (v : AV) (hd : ∀ x, d = some x → x ∉ o.looksAt ops) : Firm P ops o r (put env d v) m' := by
  unfold Firm at *
  rw [looks_guard hd]
  refine onK_mono h (fun h => ?_) id
  rcases h with h | h
  · exact .inl (by rw [quietA_congr (ev' := evA env) (evA_putE hd)]; exact quietA_mono hsub h)
  · refine .inr fun m'' hm K' hk => ?_
    rw [opK_congr (ev' := evA env) (evA_putE hd)]
    exact h m'' (hsub.trans hm) K' hk
theorem Firm.stab {o : Oper} {r : AV} {env : List AV} {m m' : Mem} (h : Firm P ops o r env m) {d d' : Option Nat} (v v' : AV) (hd : ∀ x, d = some x → x ∉ o.looksAt ops) (hd' : ∀ x, d' = some x → x ∉ o.looksAt ops)
    (hs : onK (Go.Abs.put env d v) (leanG ops o.guard) ((quietA P m (evA (Go.Abs.put env d v)) o.op).isSome = true ∧ quietA P m' (evA (Go.Abs.put env d v)) o.op = quietA P m (evA (Go.Abs.put env d v)) o.op) True) : Firm P ops o r (Go.Abs.put env d' v') m' := by
  unfold Firm at *
  rw [looks_guard hd, quietA_congr (m := m) (ev' := evA env) (evA_putE hd), quietA_congr (m := m') (ev' := evA env) (evA_putE hd)] at hs
  rw [looks_guard hd']
  rcases onK_cases h with ⟨h, e⟩ | ⟨h, e⟩
  · rw [e] at hs ⊢
    obtain ⟨h1, h2⟩ := hs
    have hq : quietA P m (evA env) o.op = some r := by
      rcases h with h | h
      · exact h
      · cases hq : quietA P m (evA env) o.op with
        | none => rw [hq] at h1; cases h1
        | some r' =>
          have := h m (Mem.sub.refl m) (fun x _ => x = r) rfl
          unfold opK at this
          rw [hq] at this
          rw [show r' = r from this]
    exact .inl (by rw [quietA_congr (m := m') (ev' := evA env) (evA_putE hd'), h2, hq])
  · rw [e]; exact h
theorem Firm.st {sb : Bool} {listed : Array Bool} {i : Nat} {o : Oper} (hi : ops[i]? = some o) {r : AV} {env : List AV} {m : Mem} (h : Firm P ops o r env m) {Kc : List AV → Mem → Prop} (hk : Kc (Go.Abs.put env o.dst r) m) : stA P ops sb listed i Kc env m := by
  unfold stA
  simp only [hi]
  refine onK_mono h (fun h => ?_) (fun h => by rw [h] at hk; exact hk)
  rcases h with h | h
  · unfold opK; rw [h]; exact ⟨.inr (.inl (Mem.sub.refl m)), hk⟩
  · exact h m (Mem.sub.refl m) _ ⟨.inr (.inl (Mem.sub.refl m)), hk⟩
theorem stA_mono {sb : Bool} {listed : Array Bool} {j : Nat} {Kc Kc' : List AV → Mem → Prop} {env : List AV} {m : Mem} (h : stA P ops sb listed j Kc env m) (hk : ∀ e m', Kc e m' → Kc' e m') : stA P ops sb listed j Kc' env m := by
  unfold stA at *
  split
  · rename_i ho; rw [ho] at h; exact hk _ _ h
  · rename_i o ho; rw [ho] at h
    exact onK_mono h (fun h => opK_mono h fun r m' ⟨a, b⟩ => ⟨a, hk _ _ b⟩) (hk _ _)
def Late (ops : Array Oper) (listed : Array Bool) (i : Nat) (oi : Oper) : Prop := ∀ i' o', ops[i']? = some o' → (i' = i ∨ listed.getD i' false = true) → ∀ d, oi.dst = some d → d ∉ o'.looksAt ops
theorem stA_put {sb : Bool} {listed : Array Bool} {i j : Nat} {oi oj : Oper} {v : AV} (hi : ops[i]? = some oi) (hj : ops[j]? = some oj) (hap : oi.apart ops oj = true) (hch : chainedB ops j = false) (hlate : sb = true → Late ops listed i oi) (hiu : listed.getD i true = false) (hji : reachB ops 8 j i = false) {Kc : List AV → Mem → Prop} {env : List AV} {m : Mem}
    (hy : Firm P ops oi v env m) (h : stA P ops sb (listed.setIfInBounds i true) j Kc (put env oi.dst v) m) : stA P ops sb listed j (fun e m' => Firm P ops oi v e m' ∧ Kc (put e oi.dst v) m') env m := by
  obtain ⟨h1, h2, h3⟩ := Oper.apart_spec hap
  have hil : i < listed.size := by
    rcases Nat.lt_or_ge i listed.size with h' | h'
    · exact h'
    · simp [Array.getElem?_eq_none h'] at hiu
  unfold stA at *
  simp only [hj] at *
  rw [looks_guard h1] at h
  refine onK_mono h (fun h => ?_) (fun h => ⟨hy.put (Mem.sub.refl m) _ h3, by rw [← put_comm v _ h2]; exact h⟩)
  rw [opK_congr (ev' := evA env) fun x hx => evA_put fun t ht => looks_op (h1 t ht) x hx] at h
  refine opK_mono h fun r m' ⟨a, b⟩ => ?_
  rcases a with a | a | a
  · rw [hch] at a; cases a
  · exact ⟨.inr (.inl a), hy.put a _ h3, by rw [← put_comm v _ h2]; exact b⟩
  · obtain ⟨hsb, a⟩ := a
    have hself : ∀ x, oi.dst = some x → x ∉ oi.looksAt ops := hlate hsb i oi hi (.inl rfl)
    refine ⟨.inr (.inr ⟨hsb, fun i' o' ho' hl' hr' => ?_⟩), hy.stab (d := oi.dst) v _ hself h3 (a i oi hi (by simp [Array.getElem?_setIfInBounds_self, hil]) hji), by rw [← put_comm v _ h2]; exact b⟩
    have hd := hlate hsb i' o' ho' (.inr hl')
    have := a i' o' ho' (by
      by_cases e : i = i'
      · subst e; simp [Array.getElem?_setIfInBounds_self, hil]
      · rw [getD_set_ne false e]; exact hl') hr'
    rw [looks_guard hd, quietA_congr (m := m) (ev' := evA env) (evA_putE hd), quietA_congr (m := m') (ev' := evA env) (evA_putE hd)] at this
    exact this
theorem Closed.step {listed : Array Bool} (hcl : Closed ops listed) {j : Nat} (hj : j ∈ Region.ready .any ops listed) : Closed ops (listed.setIfInBounds j true) := fun x o ho hx e he hb => by
  obtain ⟨_, oj, hoj, hall⟩ := mem_ready.1 hj
  have keep : ∀ y, listed.getD y false = true → (listed.setIfInBounds j true).getD y false = true := fun y hy => by
    by_cases e : j = y
    · subst e
      rw [Array.getD_eq_getD_getElem?] at hy ⊢
      rcases Nat.lt_or_ge j listed.size with h' | h'
      · simp [h']
      · simp [Array.getElem?_eq_none h'] at hy
    · rw [getD_set_ne false e]; exact hy
  by_cases e' : j = x
  · subst e'
    rw [hoj] at ho; cases ho
    exact keep _ (hall e he hb)
  · rw [getD_set_ne false e'] at hx
    exact keep _ (hcl x o ho hx e he hb)
theorem anyA_first {sb : Bool} {Q : List AV → Mem → Prop} {i : Nat} {oi : Oper} {v : AV} (hi : ops[i]? = some oi) :
    ∀ (fuel : Nat) (listed : Array Bool) (env : List AV) (m : Mem),
      (∀ j oj, ops[j]? = some oj → j ≠ i → listed.getD j true = false → (∀ e ∈ oj.after, Region.binds .any e = true → e.on ≠ i) → oi.apart ops oj = true) →
      (sb = true → Late ops listed i oi) → Closed ops listed → i ∈ Region.ready .any ops listed → Firm P ops oi v env m →
      anyA P ops sb Q fuel (listed.setIfInBounds i true) (put env oi.dst v) m → anyA P ops sb Q (fuel + 1) listed env m := by
  intro fuel
  induction fuel with
  | zero =>
    intro listed env m _ _ _ hr hy H
    refine ⟨fun h => (by rw [h] at hr; cases hr), fun j hj => ?_⟩
    by_cases hji : j = i
    · subst hji; exact hy.st hi H
    · have := ready_mono hj hji
      rw [H.1] at this
      cases this
  | succ fuel ih =>
    intro listed env m hfree hlate hcl hr hy H
    refine ⟨fun h => (by rw [h] at hr; cases hr), fun j hj => ?_⟩
    by_cases hji : j = i
    · subst hji; exact hy.st hi H
    · have h1 := H.2 j (ready_mono hj hji)
      obtain ⟨hjun, oj, hoj, hall⟩ := mem_ready.1 hj
      obtain ⟨hiun, oi', hoi, halli⟩ := mem_ready.1 hr
      rw [hi] at hoi; cases hoi
      have unl : ∀ {x : Nat}, listed.getD x true = false → listed.getD x false = true → False := fun {x} h0 h1 => by
        rcases Nat.lt_or_ge x listed.size with h' | h'
        · simp [h'] at h0 h1; rw [h0] at h1; cases h1
        · simp [Array.getElem?_eq_none h'] at h1
      have hnot : ∀ e ∈ oj.after, Region.binds .any e = true → e.on ≠ i := fun e he hb heq => by
        have h1 := hall e he hb
        rw [heq] at h1
        exact unl hiun h1
      have hnot' : ∀ e ∈ oi.after, Region.binds .any e = true → e.on ≠ j := fun e he hb heq => by
        have h1 := halli e he hb
        rw [heq] at h1
        exact unl hjun h1
      have hji' : reachB ops 8 j i = false := by
        cases hc : reachB ops 8 j i with
        | false => rfl
        | true => exact (unl hiun (reachB_listed hcl 8 j i (fun o ho => by rw [hoj] at ho; cases ho; exact hall) hc)).elim
      have hch : chainedB ops j = false := by
        cases hc : chainedB ops j with
        | false => rfl
        | true =>
          have := List.all_eq_true.1 hc i (by simp; exact (Array.getElem?_eq_some_iff.1 hi).1)
          simp only [Bool.or_eq_true, beq_iff_eq] at this
          rcases this with (h | h) | h
          · exact absurd h.symm hji
          · exact (unl hiun (reachB_listed hcl 8 j i (fun o ho => by rw [hoj] at ho; cases ho; exact hall) h)).elim
          · exact (unl hjun (reachB_listed hcl 8 i j (fun o ho => by rw [hi] at ho; cases ho; exact halli) h)).elim
      have h2 := stA_put hi hoj (hfree j oj hoj hji hjun hnot) hch hlate hiun hji' hy h1
      have hfree' : ∀ k ok, ops[k]? = some ok → k ≠ i → (listed.setIfInBounds j true).getD k true = false →
          (∀ e ∈ ok.after, Region.binds .any e = true → e.on ≠ i) → oi.apart ops ok = true := fun k ok hk hki hun hno => by
        refine hfree k ok hk hki ?_ hno
        by_cases hjk : j = k
        · subst hjk; exact hjun
        · rw [getD_set_ne true hjk] at hun; exact hun
      have hlate' : sb = true → Late ops (listed.setIfInBounds j true) i oi := fun hsb i' o' ho' hl' d hd => by
        by_cases e : j = i'
        · subst e
          rw [hoj] at ho'; cases ho'
          exact (Oper.apart_spec (hfree j oj hoj hji hjun hnot)).1 d hd
        · refine hlate hsb i' o' ho' (hl'.imp_right fun h => ?_) d hd
          rwa [getD_set_ne false e] at h
      refine stA_mono h2 fun e m' h3 => ih (listed.setIfInBounds j true) e m' hfree' hlate' (hcl.step hj) (ready_mono hr (Ne.symm hji)) h3.1 ?_
      rw [Array.setIfInBounds_comm _ _ hji]
      exact h3.2
end
def PureCV (P : Program) (f : AV) (args : List AV) (m : Mem) (K' : AV → Prop) : Prop :=
  match f with
  | .fn (.func g) first caps => ∃ args' R, F P g args' R ∧ Seens m (first ++ args ++ caps) args' ∧ K' R
  | _ => False
def firstK (P : Program) (op : Op) (ev : Operand → AV) (m : Mem) (K' : AV → Prop) : Prop :=
  match quietA P m ev op with
  | some r => K' r
  | none => match op with
    | .call { callee := .value f, args, .. } => PureCV P (ev f) (args.toList.map ev) m K'
    | .convert s d x => ∃ b, textB P s d (ev x) = some b ∧ K' (.vs (bytesE b) false)
    | _ => False
theorem convA_text {m : Mem} {s d : TypeId} {x : AV} {b : ByteArray} (h : textB P s d x = some b) : convA P m s d x = none := by
  unfold textB at h
  split at h
  · rename_i i j b' hi hj
    split at h
    · rename_i e hd1 hd2
      simp only [convA, hi, hj, hd2]
    · cases h
  · cases h
theorem Seen.mono {m m' : Mem} (h : m.sub m') {x y : AV} (hs : Seen m x y) : Seen m' x y := by
  induction hs with
  | same => exact .same
  | nilS => exact .nilS
  | agg a _ ih => exact .agg a ih
  | tup a _ ih => exact .tup a ih
  | sl hm a b c _ ih => exact .sl (h _ _ hm) a b c ih
  | ptr hm a b _ ih => exact .ptr (h _ _ hm) a b ih
  | fn a _ b _ ih ih' => exact .fn a ih b ih'
theorem firstK_firm {op : Op} {ev : Operand → AV} {m : Mem} {K' : AV → Prop} (h : firstK P op ev m K') : ∃ r, K' r ∧ ∀ m', m.sub m' → ∀ K'' : AV → Mem → Prop, K'' r m' → opK P op ev m' K'' := by
  unfold firstK at h
  split at h
  · rename_i r hr
    exact ⟨r, h, fun m' hm K'' hk => by unfold opK; rw [quietA_mono hm hr]; exact hk⟩
  · rename_i hr
    split at h
    · rename_i f args ats
      unfold PureCV at h
      split at h
      · rename_i g first caps ef
        obtain ⟨args', R, h1, h2, h3⟩ := h
        refine ⟨R, h3, fun m' hm K'' hk => ?_⟩
        show CW P (ev f) (args.toList.map ev) m' K''
        rw [ef]
        exact Or.inl <| C.of_F h1 ⟨h2.1, fun i a b => (h2.2 i a b).mono hm⟩ hk
      · exact h.elim
    · rename_i s d x
      obtain ⟨b, h1, h2⟩ := h
      refine ⟨_, h2, fun m' hm K'' hk => ?_⟩
      have hq : quietA P m' ev (.convert s d x) = none := convA_text h1
      unfold opK
      rw [hq]
      exact .inl ⟨b, h1, hk⟩
    · exact h.elim
def stabK (P : Program) (acc : List Ln) (env : List AV) (m m' : Mem) : Prop := ∀ o ∈ acc, onK env o.g ((quietA P m (evA env) o.op).isSome = true ∧ quietA P m' (evA env) o.op = quietA P m (evA env) o.op) True
def planK (P : Program) (Q : List AV → Mem → Prop) : List (Ln × Bool × Option (List Ln)) → List AV → Mem → Prop
  | [], env, m => Q env m
  | (o, true, _) :: rest, env, m => onK env o.g (firstK P o.op (evA env) m fun v => planK P Q rest (put env o.dst v) m) (planK P Q rest (put env o.dst (.tup [])) m)
  | (o, false, none) :: rest, env, m => onK env o.g (opK P o.op (evA env) m fun v m' => planK P Q rest (put env o.dst v) m') (planK P Q rest (put env o.dst (.tup [])) m)
  | (o, false, some acc) :: rest, env, m => onK env o.g (opK P o.op (evA env) m fun v m' => (m.sub m' ∨ stabK P acc env m m') ∧ planK P Q rest (put env o.dst v) m') (planK P Q rest (put env o.dst (.tup [])) m)
def lnOf (ops : Array Oper) (k : Nat) : List Ln := match ops[k]? with | some o => [⟨o.op, o.dst, leanG ops o.guard⟩] | none => []
def lateB (ops : Array Oper) (prev : List Nat) (o : Oper) : Bool := match o.dst with
  | none => true
  | some d => prev.all fun e => match ops[e]? with | some o' => !(o'.looksAt ops).contains d | none => true
def noLn : Ln := ⟨.store 0 (.tmp 0) (.tmp 0), none, none⟩
def planFrom (ops : Array Oper) (sb : Bool) : List Nat → List (Nat × Bool) → Array Bool → Option (List (Ln × Bool × Option (List Ln)))
  | _, [], listed => if (Region.ready .any ops listed).isEmpty then some [] else none
  | prev, (k, true) :: rest, listed => match ops[k]? with
    | some o => if (Region.ready .any ops listed).contains k && Region.free .any ops listed k && (!sb || lateB ops (k :: prev) o) then (planFrom ops sb (k :: prev) rest (listed.setIfInBounds k true)).map fun l => (⟨o.op, o.dst, leanG ops o.guard⟩, true, none) :: l else none
    | none => none
  | prev, (k, false) :: rest, listed => match ops[k]? with
    | some o => if Region.ready .any ops listed == [k] then (planFrom ops sb (k :: prev) rest (listed.setIfInBounds k true)).map fun l => (⟨o.op, o.dst, leanG ops o.guard⟩, false, if chainedB ops k then none else if sb then some ((prev.filter fun e => !reachB ops 8 k e).flatMap (lnOf ops)) else some [noLn]) :: l else none
    | none => none
theorem listed_set {listed : Array Bool} {prev : List Nat} {k : Nat} (h : ∀ i, listed.getD i false = true → i ∈ prev) : ∀ i, (listed.setIfInBounds k true).getD i false = true → i ∈ k :: prev := fun i hi => by
  by_cases e : k = i
  · simp [e]
  · rw [getD_set_ne false e] at hi; simp [h i hi]
theorem planK_sound {ops : Array Oper} {sb : Bool} {Q : List AV → Mem → Prop} : ∀ (prev : List Nat) (ks : List (Nat × Bool)) (listed : Array Bool) (l : List (Ln × Bool × Option (List Ln))), planFrom ops sb prev ks listed = some l → Closed ops listed → (∀ i, listed.getD i false = true → i ∈ prev) → ∀ (env : List AV) (m : Mem), planK P Q l env m → anyA P ops sb Q ks.length listed env m
  | prev, [], listed, l, hp, hcl, hpv, env, m, h => by
    simp only [planFrom] at hp
    split at hp
    · rename_i he; cases hp; exact ⟨by simpa using he, h⟩
    · cases hp
  | prev, (k, true) :: rest, listed, l, hp, hcl, hpv, env, m, h => by
    simp only [planFrom] at hp
    split at hp
    · rename_i o ho
      split at hp
      · rename_i hc
        simp only [Bool.and_eq_true] at hc
        obtain ⟨⟨hc1, hc2⟩, hc3⟩ := hc
        cases hpl : planFrom ops sb (k :: prev) rest (listed.setIfInBounds k true) with
        | none => rw [hpl] at hp; cases hp
        | some l' =>
          rw [hpl] at hp; cases hp
          simp only [planK] at h
          have ⟨v, hv, hk⟩ : ∃ v, Firm P ops o v env m ∧ planK P Q l' (put env o.dst v) m := by
            unfold Firm
            rcases onK_cases h with ⟨h, e⟩ | ⟨h, e⟩
            · cases hq : quietA P m (evA env) o.op with
              | some r =>
                have h' := h
                unfold firstK at h'
                rw [hq] at h'
                exact ⟨r, by rw [e]; exact .inl rfl, h'⟩
              | none => obtain ⟨r, a, b⟩ := firstK_firm h; exact ⟨r, by rw [e]; exact .inr b, a⟩
            · exact ⟨.tup [], by rw [e], h⟩
          have hlate : sb = true → Late ops listed k o := fun hsb i' o' ho' hl' d hd => by
            have hmem : i' ∈ k :: prev := by
              rcases hl' with rfl | hl'
              · simp
              · simp [hpv i' hl']
            subst hsb
            simp only [Bool.not_true, Bool.false_or] at hc3
            unfold lateB at hc3
            rw [hd] at hc3
            have := List.all_eq_true.1 hc3 i' hmem
            rw [ho'] at this
            simpa using this
          exact anyA_first ho rest.length listed env m (Region.free_spec ho hc2) hlate hcl (by simpa using hc1) hv (planK_sound (k :: prev) rest _ l' hpl (hcl.step (by simpa using hc1)) (listed_set hpv) _ m hk)
      · cases hp
    · cases hp
  | prev, (k, false) :: rest, listed, l, hp, hcl, hpv, env, m, h => by
    simp only [planFrom] at hp
    split at hp
    · rename_i o ho
      split at hp
      · rename_i hc
        have hc : Region.ready .any ops listed = [k] := by simpa using hc
        cases hpl : planFrom ops sb (k :: prev) rest (listed.setIfInBounds k true) with
        | none => rw [hpl] at hp; cases hp
        | some l' =>
          rw [hpl] at hp; cases hp
          refine ⟨fun h0 => (by rw [hc] at h0; cases h0), fun i hi => ?_⟩
          rw [hc] at hi
          have : i = k := by simpa using hi
          subst this
          have hrec : ∀ env m, planK P Q l' env m → anyA P ops sb Q rest.length (listed.setIfInBounds i true) env m := fun env m => planK_sound (i :: prev) rest _ l' hpl (hcl.step (by rw [hc]; simp)) (listed_set hpv) env m
          unfold stA
          simp only [ho]
          cases hch : chainedB ops i with
          | true =>
            simp only [hch, if_true, planK] at h
            exact onK_mono h (fun h => opK_mono h fun r m' b => ⟨.inl rfl, hrec _ m' b⟩) (fun h => hrec _ m h)
          | false =>
            cases sb with
            | true =>
              simp only [hch, Bool.false_eq_true, if_false, if_true, planK] at h
              refine onK_mono h (fun h => opK_mono h fun r m' ⟨a, b⟩ => ⟨.inr (a.imp_right fun hs => ⟨rfl, fun i' o' ho' hl' hr' => ?_⟩), hrec _ m' b⟩) (fun h => hrec _ m h)
              refine hs ⟨o'.op, o'.dst, leanG ops o'.guard⟩ (List.mem_flatMap.2 ⟨i', List.mem_filter.2 ⟨hpv i' hl', by rw [hr']; rfl⟩, ?_⟩)
              simp [lnOf, ho']
            | false =>
              simp only [hch, Bool.false_eq_true, if_false, planK] at h
              refine onK_mono h (fun h => opK_mono h fun r m' ⟨a, b⟩ => ⟨.inr (a.imp_right fun hs => ?_), hrec _ m' b⟩) (fun h => hrec _ m h)
              have := (hs noLn (by simp)).1
              simp [noLn, quietA] at this
      · cases hp
    · cases hp
theorem W.plan {rd : Option Nat} {Q : Exit → List AV → Mem → Prop} {env : List AV} {m : Mem} {id : Nat} {ops : Array Oper} {sb : Bool} {ks : List (Nat × Bool)} {l : List (Ln × Bool × Option (List Ln))} (hm : P.follows .mixedOrders = true)
    (hp : planFrom ops sb [] ks (Array.replicate ops.size false) = some l) (hl : ks.length = ops.size) (h : planK P (Q .normal) l env m) : W P rd (.region id ops true) Q env m := by
  intro κ w a crd hs hr hrd
  have hst := Step.drew hs
  refine wpIn_region_any' hm ?_
  have := planK_sound [] ks _ l hp (Closed.none _ _) (fun i hi => by rw [Array.getD_eq_getD_getElem?, Array.getElem?_replicate] at hi; split at hi <;> simp at hi) env m h
  rw [hl] at this
  refine anyA_sound (κ0 := κ) (m0 := m) (w0 := w) (d0 := a.defers) (rd := crd) ?_ _ _ env m this κ w.drew a hst hr rfl
  intro env' m' κ' w' a' g1 g2 g3 g4
  exact ⟨env', m', κ', trivial, g1, g2, g3, by rw [g4]; exact Marks.refl ..⟩
end Go.Abs

set_option linter.unusedVariables false
set_option linter.unusedSimpArgs false
namespace Go.Abs
variable {P : Program}
inductive LC where
  | ops (l : List Ln)
  | any (l : List (Ln × Bool × Option (List Ln)))
  | skip | ret | bad
  | exit (id : Nat)
  | label (l : Nat)
  | seq (a b : LC)
  | cond (c : Operand) (a b : LC)
  | block (id : Nat) (a : LC)
  | loop (a : LC)
  | range (g : Operand) (ps : Array Tmp) (asg body : Code)
  | scope (a : LC)
def quietOp : Op → Bool
  | .move _ | .assign _ | .pick .. | .load .. | .nilCheck _ | .binOp .. | .unOp .. | .convert .. | .makeInterface .. | .makeFunc .. | .slice .. | .fieldAddr .. | .field .. | .indexAddr .. | .index .. | .build .. | .extract .. | .sliceToArrayPointer .. | .lookup .. => true
  | .call { callee := .builtin .len, .. } | .call { callee := .builtin .min, .. } | .call { callee := .builtin .max, .. } => true
  | _ => false
def callOp : Op → Bool
  | .call { callee := .value _, .. } => true
  | _ => false
def planOf (ops : Array Oper) : Nat → Array Bool → List (Nat × Bool)
  | 0, _ => []
  | fuel + 1, listed =>
    let rs := Region.ready .any ops listed
    match rs.find? fun k => (match ops[k]? with | some o => quietOp o.op | none => false) && Region.free .any ops listed k with
    | some k => (k, true) :: planOf ops fuel (listed.setIfInBounds k true)
    | none => match rs with
      | [k] => (k, false) :: planOf ops fuel (listed.setIfInBounds k true)
      | _ => match rs.find? fun k => (match ops[k]? with | some o => callOp o.op | none => false) && Region.free .any ops listed k with
        | some k => (k, true) :: planOf ops fuel (listed.setIfInBounds k true)
        | none => []
def leanAny (ops : Array Oper) : LC :=
  let ks := planOf ops ops.size (Array.replicate ops.size false)
  if ks.length == ops.size then (match planFrom ops true [] ks (Array.replicate ops.size false) with
    | some l => .any l
    | none => match planFrom ops false [] ks (Array.replicate ops.size false) with
      | some l => .any l
      | none => .bad) else .bad
def leanC : Code → LC
  | .region _ ops false => .ops (lean ops)
  | .region _ ops true => leanAny ops
  | .skip => .skip
  | .ret => .ret
  | .exit id => .exit id
  | .label l => .label l
  | .seq a b => .seq (leanC a) (leanC b)
  | .cond c a b => .cond c (leanC a) (leanC b)
  | .block id a => .block id (leanC a)
  | .loop a => .loop (leanC a)
  | .rangeFunc g ps asg body => .range g ps asg body
  | .scope a => .scope (leanC a)
  | _ => .bad
def condK (c : AV) (a b : Prop) : Prop := match c with | .val (.bool t) => if t then a else b | _ => False
theorem condK_bool (t : Bool) (a b : Prop) : condK (.val (.bool t)) a b = ifK t a b := Eq.trans rfl rfl
def rangeV (P : Program) (rd : Option Nat) (g : AV) (ps : Array Tmp) (asg body : Code) (Q : Exit → List AV → Mem → Prop) (env : List AV) (m : Mem) : Prop :=
  match g with
  | .fn (.func f) first caps => (∀ n, rd = some n → ∃ st pend env ps asg body, m n = some (.loop st pend env ps asg body)) ∧
      ∀ n, m n = none → C P f (first ++ [.yld n] ++ caps) (m.set n (.loop .ready none env ps asg body)) (fun _ m' => rangeK n env ps asg body Q m')
  | _ => False
def againK (P : Program) (I : Nat → List AV → Mem → Prop) (j : Nat) (env : List AV) (m : Mem) : Prop := Ghosts P env m (fun env' m' => ∃ j', j' < j ∧ I j' env' m')
def loopV (P : Program) (V' : (Exit → List AV → Mem → Prop) → List AV → Mem → Prop) (Q : Exit → List AV → Mem → Prop) (env : List AV) (m : Mem) : Prop :=
  ∃ (I : Nat → List AV → Mem → Prop) (j0 : Nat), Ghosts P env m (I j0) ∧ ∀ j env m, I j env m → V' (andThen (fun env' m' => againK P (hid I .mk) j env' m') Q) env m
theorem loop_intro {P : Program} {V' : (Exit → List AV → Mem → Prop) → List AV → Mem → Prop} {Q : Exit → List AV → Mem → Prop} {env : List AV} {m : Mem} {x : Hid V'} {y : Hid Q} (I : Nat → List AV → Mem → Prop) (j0 : Nat) (m0 : Mem) (hm : m0.sub m) (h0 : I j0 env m0)
    (h : ∀ j env m, I j env m → V' (andThen (fun env' m' => againK P (hid I .mk) j env' m') Q) env m) : loopV P (hid V' x) (hid Q y) env m := ⟨I, j0, .sub hm (.mk h0), h⟩
theorem again_intro {P : Program} {I : Nat → List AV → Mem → Prop} {x : Hid I} {j : Nat} {env : List AV} {m : Mem} (j' : Nat) (hj : j' < j) (m' : Mem) (hm : m'.sub m) (h : I j' env m') : againK P (hid I x) j env m := .sub hm (.mk ⟨j', hj, h⟩)
def V (P : Program) (rd : Option Nat) : LC → (Exit → List AV → Mem → Prop) → List AV → Mem → Prop
  | .ops l, Q => stepsK P (Q .normal) l
  | .any l, Q => planK P (Q .normal) l
  | .skip, Q => Q .normal
  | .label _, Q => Q .normal
  | .ret, Q => Q .ret
  | .exit id, Q => Q (.exit id)
  | .seq a b, Q => V P rd a (andThen (V P rd b Q) Q)
  | .cond c a b, Q => fun env m => condK (evA env c) (V P rd a Q env m) (V P rd b Q env m)
  | .block id a, Q => V P rd a (inBlk id Q)
  | .loop a, Q => loopV P (V P rd a) Q
  | .range g ps asg body, Q => fun env m => rangeV P rd (evA env g) ps asg body Q env m
  | .scope a, Q => V P rd a (noGo Q)
  | .bad, _ => fun _ _ => False
theorem W.of_V {rd : Option Nat} (hm : P.follows .mixedOrders = true) : ∀ (c : Code) (Q : Exit → List AV → Mem → Prop) (env : List AV) (m : Mem), V P rd (leanC c) Q env m → W P rd c Q env m
  | .region id ops false, Q, env, m, h => W.ops rfl h
  | .region id ops true, Q, env, m, h => by
    simp only [leanC, leanAny] at h
    split at h
    · rename_i hl
      split at h
      · rename_i l hp
        exact W.plan hm hp (by simpa using hl) h
      · split at h
        · rename_i l hp
          exact W.plan hm hp (by simpa using hl) h
        · exact h.elim
    · exact h.elim
  | .skip, Q, env, m, h => W.skip h
  | .label l, Q, env, m, h => W.label h
  | .ret, Q, env, m, h => W.ret h
  | .exit id, Q, env, m, h => W.exit h
  | .seq a b, Q, env, m, h => W.seq ((W.of_V hm a _ env m h).mono fun e env m h => by
      cases e with
      | normal => exact W.of_V hm b Q env m h
      | _ => exact h)
  | .cond c a b, Q, env, m, h => by
    simp only [leanC, V, condK] at h
    split at h
    · rename_i t ht
      refine W.cond ht ?_
      cases t
      · exact W.of_V hm b Q env m h
      · exact W.of_V hm a Q env m h
    · exact h.elim
  | .block id a, Q, env, m, h => W.block (W.of_V hm a _ env m h)
  | .loop a, Q, env, m, h => by
    obtain ⟨I, j0, h0, h1⟩ := h
    exact W.loopG I h0 fun j env m hI => (W.of_V hm a _ env m (h1 j env m hI)).mono fun e env' m' h => by
      cases e with
      | normal => exact h
      | _ => exact h
  | .rangeFunc g ps asg body, Q, env, m, h => by
    simp only [leanC, V, rangeV] at h
    split at h
    · rename_i f first caps hg
      exact W.range hg h.1 h.2
    · exact h.elim
  | .goto _, Q, env, m, h => h.elim
  | .scope a, Q, env, m, h => W.scope (W.of_V hm a _ env m h)
  | .refuse _, Q, env, m, h => h.elim
section
variable {rd : Option Nat} {Q : Exit → List AV → Mem → Prop} {env : List AV} {m : Mem}
theorem V_ops (l : List Ln) : V P rd (.ops l) Q env m = seeE env m (hid (fun env m => stepsK P (Q .normal) l env m) .mk) := Eq.trans rfl rfl
theorem V_any (l : List (Ln × Bool × Option (List Ln))) : V P rd (.any l) Q env m = seeE env m (hid (fun env m => planK P (Q .normal) l env m) .mk) := Eq.trans rfl rfl
theorem V_skip : V P rd .skip Q env m = Q .normal env m := Eq.trans rfl rfl
theorem V_label (l : Nat) : V P rd (.label l) Q env m = Q .normal env m := Eq.trans rfl rfl
theorem V_ret : V P rd .ret Q env m = Q .ret env m := Eq.trans rfl rfl
theorem V_exit (id : Nat) : V P rd (.exit id) Q env m = Q (.exit id) env m := Eq.trans rfl rfl
theorem V_seq (a b : LC) : V P rd (.seq a b) Q env m = V P rd a (andThen (V P rd b Q) Q) env m := Eq.trans rfl rfl
theorem V_cond (c : Operand) (a b : LC) : V P rd (.cond c a b) Q env m = condK (evA env c) (hid (V P rd a Q env m) .mk) (hid (V P rd b Q env m) .mk) := Eq.trans rfl rfl
theorem V_block (id : Nat) (a : LC) : V P rd (.block id a) Q env m = V P rd a (inBlk id Q) env m := Eq.trans rfl rfl
theorem V_scope (a : LC) : V P rd (.scope a) Q env m = V P rd a (noGo Q) env m := Eq.trans rfl rfl
theorem noGo_normal : noGo Q .normal env m = Q .normal env m := Eq.trans rfl rfl
theorem noGo_ret : noGo Q .ret env m = Q .ret env m := Eq.trans rfl rfl
theorem noGo_exit (id : Nat) : noGo Q (.exit id) env m = Q (.exit id) env m := Eq.trans rfl rfl
theorem V_loop (a : LC) : V P rd (.loop a) Q env m = loopV P (hid (V P rd a) .mk) (hid Q .mk) env m := Eq.trans rfl rfl
theorem V_range (g : Operand) (ps : Array Tmp) (asg body : Code) : V P rd (.range g ps asg body) Q env m = rangeV P rd (evA env g) ps asg body (hid Q .mk) env m := Eq.trans rfl rfl
theorem andThen_normal (K' : List AV → Mem → Prop) : andThen K' Q .normal env m = K' env m := Eq.trans rfl rfl
theorem andThen_ret (K' : List AV → Mem → Prop) : andThen K' Q .ret env m = Q .ret env m := Eq.trans rfl rfl
theorem andThen_exit (K' : List AV → Mem → Prop) (id : Nat) : andThen K' Q (.exit id) env m = Q (.exit id) env m := Eq.trans rfl rfl
theorem inBlk_normal (id : Nat) : inBlk id Q .normal env m = Q .normal env m := Eq.trans rfl rfl
theorem inBlk_ret (id : Nat) : inBlk id Q .ret env m = Q .ret env m := Eq.trans rfl rfl
theorem inBlk_exit (id id' : Nat) : inBlk id Q (.exit id') env m = ifK (id' == id) (hid (Q .normal env m) .mk) (hid (Q (.exit id') env m) .mk) := by
  simp only [inBlk, ifK, hid, beq_iff_eq]
  split <;> rfl
theorem sub_self (m : Mem) : Mem.sub m m = True := eq_true (Mem.sub.refl m)
theorem planK_nil (Q : List AV → Mem → Prop) : planK P Q [] env m = Q env m := Eq.trans rfl rfl
theorem planK_first (Q : List AV → Mem → Prop) (op : Op) (dst : Option Nat) (g : Option (Option Nat × Bool)) (b : Option (List Ln)) (rest : List (Ln × Bool × Option (List Ln))) :
    planK P Q ((⟨op, dst, g⟩, true, b) :: rest) env m = onK env g (firstK P op (evA env) m fun v => seeE (put env dst v) m (hid (fun env m => planK P Q rest env m) .mk)) (seeE (put env dst (.tup [])) m (hid (fun env m => planK P Q rest env m) .mk)) := Eq.trans rfl rfl
theorem planK_only (Q : List AV → Mem → Prop) (op : Op) (dst : Option Nat) (g : Option (Option Nat × Bool)) (rest : List (Ln × Bool × Option (List Ln))) :
    planK P Q ((⟨op, dst, g⟩, false, none) :: rest) env m = onK env g (opK P op (evA env) m fun v m' => seeE (put env dst v) m' (hid (fun env m => planK P Q rest env m) .mk)) (seeE (put env dst (.tup [])) m (hid (fun env m => planK P Q rest env m) .mk)) := Eq.trans rfl rfl
def keepsK (P : Program) (acc : List Ln) (env : List AV) (m m' : Mem) (K' : Prop) : Prop := (m.sub m' ∨ stabK P acc env m m') ∧ K'
theorem planK_adds (Q : List AV → Mem → Prop) (op : Op) (dst : Option Nat) (g : Option (Option Nat × Bool)) (acc : List Ln) (rest : List (Ln × Bool × Option (List Ln))) :
    planK P Q ((⟨op, dst, g⟩, false, some acc) :: rest) env m = onK env g (opK P op (evA env) m fun v m' => keepsK P (hid acc .mk) env m m' (hid (seeE (put env dst v) m' (hid (fun env m => planK P Q rest env m) .mk)) .mk)) (seeE (put env dst (.tup [])) m (hid (fun env m => planK P Q rest env m) .mk)) := Eq.trans rfl rfl
theorem keeps_sub {acc : List Ln} {x : Hid acc} {m m' : Mem} {K' : Prop} {y : Hid K'} (h : m.sub m') (hk : K') : keepsK P (hid acc x) env m m' (hid K' y) := ⟨.inl h, hk⟩
theorem keeps_stab {acc : List Ln} {x : Hid acc} {m m' : Mem} {K' : Prop} {y : Hid K'} (h : stabK P acc env m m') (hk : K') : keepsK P (hid acc x) env m m' (hid K' y) := ⟨.inr h, hk⟩
theorem keeps_self {acc : List Ln} {x : Hid acc} {K' : Prop} {y : Hid K'} : keepsK P (hid acc x) env m m (hid K' y) = K' := by simp only [keepsK, hid, Mem.sub.refl, true_or, true_and]
theorem stabK_nil (m m' : Mem) : stabK P [] env m m' := fun o h => by simp at h
theorem stabK_cons {op : Op} {dst : Option Nat} {g : Option (Option Nat × Bool)} {acc : List Ln} {m m' : Mem} (h : onK env g ((quietA P m (evA env) op).isSome = true ∧ quietA P m' (evA env) op = quietA P m (evA env) op) True) (hs : stabK P acc env m m') : stabK P (⟨op, dst, g⟩ :: acc) env m m' := fun o ho => by
  rcases List.mem_cons.1 ho with rfl | ho
  · exact h
  · exact hs o ho
end
section
variable {ev : Operand → AV} {m : Mem} {K' : AV → Prop}
theorem quiet_firstK {op : Op} {o : Option AV} (h : quietA P m ev op = o) (hl : ∀ c, op ≠ .call c) (hc : ∀ s d x, op ≠ .convert s d x := by intro _ _ _ h; nomatch h) : firstK P op ev m K' = got o (hid K' .mk) := by
  unfold firstK
  rw [h]
  cases o with
  | none => simp only [got]
            split
            · exact absurd rfl (hl _)
            · exact absurd rfl (hc _ _ _)
            · rfl
  | some r => rfl
theorem firstK_move (x : Operand) : firstK P (.move x) ev m K' = K' (ev x) := Eq.trans rfl rfl
theorem firstK_assign (x : Operand) : firstK P (.assign x) ev m K' = K' (ev x) := Eq.trans rfl rfl
theorem firstK_pick (c a b : Operand) : firstK P (.pick c a b) ev m K' = got (pickA (ev c) (ev a) (ev b)) (hid K' .mk) := quiet_firstK rfl (fun _ h => nomatch h)
theorem firstK_load (t : TypeId) (a : Operand) : firstK P (.load t a) ev m K' = got (loadA P m t (ev a)) (hid K' .mk) := quiet_firstK rfl (fun _ h => nomatch h)
theorem firstK_arrPtr (t : TypeId) (x : Operand) : firstK P (.sliceToArrayPointer t x) ev m K' = got (arrPtrA P t (ev x)) (hid K' .mk) := quiet_firstK rfl (fun _ h => nomatch h)
theorem firstK_nilCheck (x : Operand) : firstK P (.nilCheck x) ev m K' = got (nilCheckA (ev x)) (hid K' .mk) := quiet_firstK rfl (fun _ h => nomatch h)
theorem firstK_bin (op : BinOp) (t : TypeId) (x y : Operand) (u : TypeId) : firstK P (.binOp op t x y u) ev m K' = got (cmpA P t op (ev x) (ev y)) (hid K' .mk) := quiet_firstK rfl (fun _ h => nomatch h)
theorem firstK_un (op : UnOp) (t : TypeId) (x : Operand) : firstK P (.unOp op t x) ev m K' = got (unA op (ev x)) (hid K' .mk) := quiet_firstK rfl (fun _ h => nomatch h)
theorem firstK_lookup (t : TypeId) (x k : Operand) (ok : Bool) : firstK P (.lookup t x k ok) ev m K' = got (lookA P m t (ev x) (ev k) ok) (hid K' .mk) := quiet_firstK rfl (fun _ h => nomatch h)
def orT (a : Option AV) (t : Option ByteArray) : Option AV := match a, t with
  | some r, _ => some r
  | none, some b => some (.vs (bytesE b) false)
  | none, none => none
theorem orT_some (r : AV) (t : Option ByteArray) : orT (some r) t = some r := Eq.trans rfl rfl
theorem orT_text (b : ByteArray) : orT none (some b) = some (.vs (bytesE b) false) := Eq.trans rfl rfl
theorem firstK_convert (s d : TypeId) (x : Operand) : firstK P (.convert s d x) ev m K' = got (orT (convA P m s d (ev x)) (textB P s d (ev x))) (hid K' .mk) := by
  have hq : quietA P m ev (.convert s d x) = convA P m s d (ev x) := rfl
  unfold firstK
  rw [hq]
  cases h : convA P m s d (ev x) with
  | some r => rfl
  | none =>
    show (∃ b, textB P s d (ev x) = some b ∧ K' (.vs (bytesE b) false)) = _
    cases ht : textB P s d (ev x) with
    | some b =>
      show _ = K' _
      exact propext ⟨fun ⟨b', e, hk⟩ => (by cases e; exact hk), fun hk => ⟨b, rfl, hk⟩⟩
    | none =>
      show _ = False
      exact propext ⟨fun ⟨b', e, _⟩ => (by cases e), fun h => False.elim h⟩
theorem firstK_iface (t : TypeId) (x : Operand) : firstK P (.makeInterface t x) ev m K' = got (ifaceA P t (ev x)) (hid K' .mk) := quiet_firstK rfl (fun _ h => nomatch h)
theorem firstK_fn (f : Fn) (a b : Array Operand) : firstK P (.makeFunc f a b) ev m K' = got (mkFnA ev f a b) (hid K' .mk) := quiet_firstK rfl (fun _ h => nomatch h)
theorem firstK_slice (t : TypeId) (x : Operand) (lo hi mx : Option Operand) : firstK P (.slice t x lo hi mx) ev m K' = got (sliceA P m t (ev x) (lo.map ev) (hi.map ev) (mx.map ev)) (hid K' .mk) := quiet_firstK rfl (fun _ h => nomatch h)
theorem firstK_fieldAddr (s : TypeId) (x : Operand) (f : Nat) : firstK P (.fieldAddr s x f) ev m K' = got (fieldAddrA P s f (ev x)) (hid K' .mk) := quiet_firstK rfl (fun _ h => nomatch h)
theorem firstK_field (t : TypeId) (x : Operand) (f : Nat) : firstK P (.field t x f) ev m K' = got (fieldA P t (ev x) f) (hid K' .mk) := quiet_firstK rfl (fun _ h => nomatch h)
theorem firstK_indexAddr (t : TypeId) (x ix : Operand) : firstK P (.indexAddr t x ix) ev m K' = got (indexAddrA P t (ev x) (ev ix)) (hid K' .mk) := quiet_firstK rfl (fun _ h => nomatch h)
theorem firstK_index (t : TypeId) (x ix : Operand) : firstK P (.index t x ix) ev m K' = got (indexA P t (ev x) (ev ix)) (hid K' .mk) := quiet_firstK rfl (fun _ h => nomatch h)
theorem firstK_build (t : TypeId) (ps : Array (Nat × Operand)) : firstK P (.build t ps) ev m K' = got (buildA P t (ps.toList.map fun p => (p.1, ev p.2))) (hid K' .mk) := quiet_firstK rfl (fun _ h => nomatch h)
theorem firstK_extract (x : Operand) (i : Nat) : firstK P (.extract x i) ev m K' = got (extractA i (ev x)) (hid K' .mk) := quiet_firstK rfl (fun _ h => nomatch h)
theorem firstK_len (x : Operand) (t : TypeId) : firstK P (.call { callee := .builtin .len, args := #[x], argTypes := #[t] }) ev m K' = got (lenA P m t (ev x)) (hid K' .mk) := by
  unfold firstK; simp only [quietA]; show (match lenA P m t (ev x) with | some r => K' r | none => False) = _; cases lenA P m t (ev x) <;> rfl
theorem firstK_min (args : Array Operand) (ts : Array TypeId) : firstK P (.call { callee := .builtin .min, args := args, argTypes := ts }) ev m K' = got (mmA false (args.toList.map ev)) (hid K' .mk) := by
  unfold firstK; simp only [quietA]; cases mmA false (args.toList.map ev) <;> rfl
theorem firstK_max (args : Array Operand) (ts : Array TypeId) : firstK P (.call { callee := .builtin .max, args := args, argTypes := ts }) ev m K' = got (mmA true (args.toList.map ev)) (hid K' .mk) := by
  unfold firstK; simp only [quietA]; cases mmA true (args.toList.map ev) <;> rfl
theorem firstK_call (f : Operand) (args : Array Operand) (ts : Array TypeId) : firstK P (.call { callee := .value f, args := args, argTypes := ts }) ev m K' = PureCV P (ev f) (args.toList.map ev) m (hid K' .mk) := Eq.trans rfl rfl
def PureC (P : Program) (g : FuncId) (args : List AV) (m : Mem) (K' : AV → Prop) : Prop := ∃ args' R, F P g args' R ∧ Seens m args args' ∧ K' R
theorem PureCV_func (g : FuncId) (first caps args : List AV) : PureCV P (.fn (.func g) first caps) args m K' = PureC P g (first ++ args ++ caps) m K' := Eq.trans rfl rfl
end
theorem call_F {f : FuncId} {args args' : List AV} {R : AV} (h : F P f args R) {m : Mem} (hseen : Seens m args' args) {K' : AV → Mem → Prop} {x : Hid K'} (hk : K' R m) : CC P f args' m (hid K' x) := .inl (C.of_F h hseen hk)
theorem call_X {f : FuncId} {args : List AV} {m : Mem} {K' K'' : AV → Mem → Prop} {x : Hid K'} (h : X P f args m K'') (hk : ∀ r m', K'' r m' → K' r m') : CC P f args m (hid K' x) := .inr (h.mono hk)
theorem pure_F {f : FuncId} {args args' : List AV} {R : AV} (h : F P f args R) {m : Mem} (hseen : Seens m args' args) {K' : AV → Prop} {x : Hid K'} (hk : K' R) : PureC P f args' m (hid K' x) := ⟨args, R, h, hseen, hk⟩
def endK (e : Exit) (p : Prop) : Prop := match e with | .normal | .ret => p | _ => False
theorem endK_ret (p : Prop) : endK .ret p = p := Eq.trans rfl rfl
theorem endK_normal (p : Prop) : endK .normal p = p := Eq.trans rfl rfl
def resL (P : Program) (m : Mem) (env : List AV) : List ResultVar → Option AV
  | [x] => resOne P m env x
  | xs => (xs.mapM (resOne P m env)).map .tup
theorem resL_eq {fn : Func} {rs : Array ResultVar} (hr : fn.results = rs) (env : List AV) (m : Mem) {r : AV} (h : resL P m env rs.toList = some r) : resA P fn env m = some r := by
  unfold resA
  rw [hr]
  match hl : rs.toList, h with
  | [], h => simp [resL] at h; simp [h]
  | [x], h => simp only [resL] at h; simp [h]
  | x :: y :: l, h =>
    simp only [resL, Option.map_eq_some_iff] at h
    obtain ⟨vs, h1, rfl⟩ := h
    rw [h1]
    have hlen : 2 ≤ vs.length := by
      simp only [List.mapM_cons, Option.bind_eq_bind, Option.bind_eq_some_iff, Option.pure_def, Option.some.injEq] at h1
      obtain ⟨a, _, b, ⟨c, _, d, _, rfl⟩, rfl⟩ := h1
      simp
    match vs, hlen with
    | a :: b :: vs, _ => rfl
theorem resL_one (m : Mem) (env : List AV) (x : ResultVar) : resL P m env [x] = resOne P m env x := Eq.trans rfl rfl
theorem resL_nil (m : Mem) (env : List AV) : resL P m env [] = some (.tup []) := Eq.trans rfl rfl
def two (a b : Option AV) : Option AV := match a, b with | some a, some b => some (.tup [a, b]) | _, _ => none
theorem two_some (a b : AV) : two (some a) (some b) = some (.tup [a, b]) := rfl
theorem resL_two (m : Mem) (env : List AV) (x y : ResultVar) : resL P m env [x, y] = two (resOne P m env x) (resOne P m env y) := by
  simp only [resL, List.mapM_cons, List.mapM_nil, two]
  cases resOne P m env x <;> cases resOne P m env y <;> rfl
theorem resOne_tmp (m : Mem) (env : List AV) (t : Nat) : resOne P m env (.tmp t) = some (nth env t) := rfl
theorem resOne_cell (m : Mem) (env : List AV) (a t : Nat) : resOne P m env (.cell a t) = loadA P m t (nth env a) := rfl
theorem C.of_code {f : FuncId} {fn : Func} {lc : LC} {args : List AV} {m : Mem} {K' : AV → Mem → Prop} {n : Nat} {rs : Array ResultVar} {env : List AV} (hf : P.funcs[f]? = some fn) (hk : fn.body.map leanC = some lc)
    (hn : fn.ntmps = n) (hr : fn.results = rs) (hname : (fn.name == "runtime.NumGoroutine") = false) (hm : P.follows .mixedOrders = true) (he : args ++ List.replicate (n - args.length) (.tup []) = env)
    (h : V P none lc (fun e env' m' => endK e (got (resL P m' env' rs.toList) fun r => K' r m')) env m) : C P f args m K' := by
  cases hb : fn.body with
  | none => rw [hb] at hk; cases hk
  | some c =>
    rw [hb] at hk; cases hk
    refine C.of_W hf hb hname ?_
    rw [hn, he]
    refine (W.of_V hm c _ env m h).mono fun e env' m' h => ?_
    have fin : (got (resL P m' env' rs.toList) fun r => K' r m') → ∃ r, resA P fn env' m' = some r ∧ K' r m' := fun h => by
      cases hres : resL P m' env' rs.toList with
      | none => rw [hres] at h; exact h.elim
      | some r => rw [hres] at h; exact ⟨r, resL_eq hr env' m' hres, h⟩
    cases e with
    | normal => exact ⟨trivial, fin h⟩
    | ret => exact ⟨trivial, fin h⟩
    | _ => exact h.elim
theorem F.of_code {f : FuncId} {fn : Func} {lc : LC} {args : List AV} {R : AV} {n : Nat} {rs : Array ResultVar} {env : List AV} (hf : P.funcs[f]? = some fn) (hk : fn.body.map leanC = some lc)
    (hn : fn.ntmps = n) (hr : fn.results = rs) (hname : (fn.name == "runtime.NumGoroutine") = false) (hm : P.follows .mixedOrders = true) (he : args ++ List.replicate (n - args.length) (.tup []) = env)
    (h : V P none lc (fun e env' m' => endK e (got (resL P m' env' rs.toList) fun r => New m' r R)) env nomem) : F P f args R :=
  F.of_C (C.of_code hf hk hn hr hname hm he h)
theorem Y.of_code {n : Nat} {args : List AV} {m : Mem} {K' : AV → Mem → Prop} {env : List AV} {ps : Array Tmp} {asg body : Code} {la lb : LC} (hm : P.follows .mixedOrders = true) (ha : leanC asg = la) (hb : leanC body = lb)
    (hmn : m n = some (.loop .ready none env ps asg body)) (hps : args.length = ps.size)
    (h : V P (some n) la (fun e env1 m1 => e = .normal ∧ m1 n = some (.loop .ready none env ps asg body) ∧ V P (some n) lb (fun e2 _ m2 => roundK n env ps asg body K' e2 m2) env1 (m1.set n (.loop .busy none env ps asg body)))
      (startA env ps args) m) : Y P n args m K' := by
  subst ha hb
  exact Y.of_W hmn hps ((W.of_V hm asg _ _ m h).mono fun e env m ⟨a, b, c⟩ => ⟨a, b, W.of_V hm body _ _ _ c⟩)
def ranges : Code → List (Code × Code)
  | .seq a b => ranges a ++ ranges b
  | .cond _ a b => ranges a ++ ranges b
  | .block _ a => ranges a
  | .loop a => ranges a
  | .rangeFunc _ _ asg body => [(asg, body)]
  | _ => []
def rangeAt (fn : Func) (i : Nat) : Code × Code := match fn.body with | some c => (ranges c)[i]?.getD (.skip, .skip) | none => (.skip, .skip)
section
variable {m : Mem} {t xt e : TypeId} {j : TI} {z src : List AV} {k : Nat} {y : AV} {K' : AV → Mem → Prop} {h : Hid K'}
theorem append_nil (hT : AppT P t xt e j z) (hs : srcA P m xt j.size y = some (k, src)) (hb : k * j.bytes ≤ 140737488355328)
    (hk : ∀ N, m N = none → K' (.sl N 0 k k) (m.set N (.cells true e src))) : AppK P t xt (.val (.slice none 0 0)) y m (hid K' h) :=
  ⟨e, j, z, k, src, hT, srcB_of hs, .inr (.inl ⟨.inl rfl, hb, hk⟩)⟩
theorem append_vnil (hT : AppT P t xt e j z) (hs : srcA P m xt j.size y = some (k, src)) (hb : k * j.bytes ≤ 140737488355328)
    (hk : ∀ N, m N = none → K' (.sl N 0 k k) (m.set N (.cells true e src))) : AppK P t xt (.vs [] true) y m (hid K' h) :=
  ⟨e, j, z, k, src, hT, srcB_of hs, .inr (.inl ⟨.inr rfl, hb, hk⟩)⟩
theorem append_open {n off len : Nat} {bt : TypeId} {cs : List AV} (hT : AppT P t xt e j z) (hs : srcA P m xt j.size y = some (k, src)) (hm : m n = some (.cells true bt cs)) (hc : P.cellsOf bt = j.size) (hl : off + len * j.size = cs.length)
    (hb : (len + k) * j.bytes ≤ 140737488355328) (hk : ∀ N, m N = none → K' (.sl N 0 (len + k) (len + k)) ((m.del n).set N (.cells true e (cs.drop off ++ src)))) (hby : byteT P bt = true → byteT P e = true := by exact fun h => h) : AppK P t xt (.sl n off len len) y m (hid K' h) :=
  ⟨e, j, z, k, src, hT, srcB_of hs, .inl ⟨n, off, len, bt, cs, rfl, hm, ⟨hc, hby⟩, hl, hb, hk⟩⟩
theorem append_in {n off len cap : Nat} {opn : Bool} {bt : TypeId} {cs : List AV} (hT : AppT P t xt e j z) (hs : srcA P m xt j.size y = some (k, src)) (hm : m n = some (.cells opn bt cs)) (hr : len + k ≤ cap) (hl : off + (len + k) * j.size ≤ cs.length)
    (hk : K' (.sl n off (len + k) cap) (m.set n (.cells opn bt (setRange cs (off + len * j.size) src)))) : AppK P t xt (.sl n off len cap) y m (hid K' h) :=
  ⟨e, j, z, k, src, hT, srcB_of hs, .inr (.inr (.inr (.inl ⟨n, off, len, cap, opn, bt, cs, rfl, hm, hr, hl, hk⟩)))⟩
theorem appendB_full {n off len cap : Nat} {bt : TypeId} {cs : List AV} (hT : AppT P t xt e j z) (hs : srcB P m xt j z y = some (k, src)) (hm : m n = some (.cells false bt cs)) (hr : cap < len + k) (hl : off + len * j.size ≤ cs.length) (hb : (len + k) * j.bytes ≤ 140737488355328)
    (hk : ∀ N, m N = none → K' (.sl N 0 (len + k) (len + k)) (m.set N (.cells true e ((cs.drop off).take (len * j.size) ++ src)))) : AppK P t xt (.sl n off len cap) y m (hid K' h) :=
  ⟨e, j, z, k, src, hT, hs, .inr (.inr (.inr (.inr ⟨n, off, len, cap, bt, cs, rfl, hm, hr, hl, hb, hk⟩)))⟩
end
theorem range_intro {rd : Option Nat} {ps : Array Tmp} {asg body : Code} {Q : Exit → List AV → Mem → Prop} {x : Hid Q} {env : List AV} {m : Mem} {f : FuncId} {first caps : List AV} (hrd : ∀ n, rd = some n → ∃ st pend env ps asg body, m n = some (.loop st pend env ps asg body))
    (h : ∀ n, m n = none → C P f (first ++ [.yld n] ++ caps) (m.set n (.loop .ready none env ps asg body)) (fun _ m' => rangeK n env ps asg body Q m')) : rangeV P rd (.fn (.func f) first caps) ps asg body (hid Q x) env m := ⟨hrd, h⟩
def litK (o : Option (TypeId × Nat × List AV)) (len : Nat) (m : Mem) (K' : AV → Mem → Prop) : Prop :=
  ∃ e s cs, o = some (e, s, cs) ∧ cs.length = len * s ∧ (K' (.vs (chunk s len cs) true) m ∨ ∀ n, m n = none → K' (.sl n 0 len len) (m.set n (.cells false e cs)))
theorem opK_lit (t : TypeId) (len : Nat) (ps : Array (Nat × Operand)) (ev : Operand → AV) (m : Mem) (K' : AV → Mem → Prop) : opK P (.buildSlice t len ps) ev m K' = litK (litA P t len (ps.toList.map fun p => (p.1, ev p.2))) len m (hid K' .mk) := Eq.trans rfl rfl
theorem lit_vs {o : Option (TypeId × Nat × List AV)} {len : Nat} {m : Mem} {K' : AV → Mem → Prop} {x : Hid K'} {e : TypeId} {s : Nat} {cs : List AV} (h : o = some (e, s, cs)) (hl : cs.length = len * s) (hk : K' (.vs (chunk s len cs) true) m) : litK o len m (hid K' x) := ⟨e, s, cs, h, hl, .inl hk⟩
theorem chunk_one (s : Nat) (l : List AV) : chunk s 1 l = [l.take s] := rfl
theorem chunk_zero (s : Nat) (l : List AV) : chunk s 0 l = [] := rfl
theorem C.of_O {f : FuncId} {args args' : List AV} {t : TypeId} {len : Nat} {cs : List AV} (h : O P f args t len cs) {m : Mem} (hseen : Seens m args' args) (hcs : ∀ c ∈ cs, ∃ v, c = .val v) {K' : AV → Mem → Prop}
    (hk : ∀ N, m N = none → K' (.sl N 0 len len) (m.set N (.cells true t cs))) : C P f args' m K' := by
  refine ⟨h.1, fun κ w cargs hs hr => ?_⟩
  obtain ⟨κ1, hle, hs1, hrho, hf⟩ := freezeAll hs
  have hr1 : Rels κ1 args cargs := ⟨hseen.1 ▸ hr.1, fun i a b => seen_rel hs hle hrho hf (hseen.2 i (hseen.1 ▸ a) a) ((hr.2 i (hseen.1 ▸ a) b).mono hle)⟩
  refine (h.2 κ1 w cargs hs1 hr1).mono ?_
  rintro e w' ⟨cv, r, m', κ2, rfl, ⟨n, rfl, hm'⟩, hst, hrel⟩
  have hheap : ∀ c, c < w.heap.size → w'.heap[c]? = w.heap[c]? := fun c hc => hst.frame c hc fun ⟨n, l, _, h, _⟩ => h rfl
  obtain ⟨N, hrN, hmN⟩ := hs.fresh
  have hbut : ∀ g, But w w' g := fun g => ⟨hst.size, fun c hc _ => hheap c hc, hst.os, hst.tape, hst.output⟩
  rcases hst.sim.blk n _ hm' with ⟨l, h1, h2, h3⟩ | ⟨h1, t', h2⟩
  · have hge : w.heap.size ≤ l.blk := by
      rcases Nat.lt_or_ge l.blk w.heap.size with hlt | hge
      · obtain ⟨n', l', _, h', _⟩ := hst.origin l.blk hlt ⟨n, l, h1, by rw [hm']; simp, rfl⟩
        exact absurd rfl h'
      · exact hge
    have hstep : Step P κ m w (κ.add N l) (m.set N (.cells true t cs)) w' := by
      refine Step.alloc hs hmN hrN hge (hst.sim.lt n l h1) (hbut _) _ ?_
      obtain ⟨arr, t', fz, z1, z2, z3, z4, z5, z6, z7⟩ := h2
      refine ⟨arr, t', fz, z1, z2, z3, z4, z5, z6, fun i hi => ?_⟩
      obtain ⟨cv', y1, y2⟩ := z7 i hi
      obtain ⟨v, hv⟩ := hcs _ (List.getElem_mem hi)
      rw [hv] at y2 ⊢
      obtain ⟨rfl, hp⟩ := y2.val_inv
      exact ⟨_, y1, .val hp⟩
    refine ⟨cv, _, _, _, rfl, hk N hmN, hstep, ?_⟩
    have hl : (κ.add N l).rho N = some (some l) := by simp [K.add]
    cases hrel with
    | snil => exact .snil
    | szero => exact .szero
    | @sl _ _ _ _ cap' c' o' l' q1 q2 q3 q4 =>
      rw [h1] at q1; cases q1
      exact .sl hl q2 q3 q4
  · cases h2
    refine ⟨cv, _, _, κ.ghost N, rfl, hk N hmN, (Step.quiet hs hbut).trans (Step.empty (Step.quiet hs hbut).sim hmN hrN t), ?_⟩
    cases hrel with
    | snil => exact .snil
    | szero => exact .szero
    | @sl _ _ _ _ cap' c' o' l' q1 q2 q3 q4 => rw [h1] at q1; cases q1
theorem call_O {f : FuncId} {args args' : List AV} {t : TypeId} {len : Nat} {cs : List AV} (h : O P f args t len cs) {m : Mem} (hseen : Seens m args' args) (hcs : ∀ c ∈ cs, ∃ v, c = .val v) {K' : AV → Mem → Prop} {x : Hid K'}
    (hk : ∀ N, m N = none → K' (.sl N 0 len len) (m.set N (.cells true t cs))) : CC P f args' m (hid K' x) := .inl (C.of_O h hseen hcs hk)
theorem vals_row {α : Type} (f : α → List AV) (hf : ∀ a, ∀ c ∈ f a, ∃ v, c = .val v) (l : List α) : ∀ c ∈ (l.map f).flatten, ∃ v, c = .val v := by
  intro c hc
  obtain ⟨e, he, hce⟩ := List.mem_flatten.1 hc
  obtain ⟨a, _, rfl⟩ := List.mem_map.1 he
  exact hf a c hce
theorem flatten_len {s : Nat} : ∀ {es : List (List AV)}, (∀ e ∈ es, e.length = s) → es.flatten.length = es.length * s
  | [], _ => by simp
  | e :: es, h => by
    rw [List.flatten_cons, List.length_append, h e (by simp), flatten_len (es := es) (fun x hx => h x (by simp [hx])), List.length_cons, Nat.add_mul]; omega
theorem flatten_get {s : Nat} : ∀ {es : List (List AV)}, (∀ e ∈ es, e.length = s) → ∀ i (hi : i < es.length) j (hj : j < es[i].length) (hk : i * s + j < es.flatten.length), es.flatten[i * s + j] = es[i][j]
  | e :: es, h, 0, hi, j, hj, hk => by
    simp only [Nat.zero_mul, Nat.zero_add, List.flatten_cons, List.getElem_cons_zero]
    exact List.getElem_append_left (by simpa using hj)
  | e :: es, h, i + 1, hi, j, hj, hk => by
    have hes : ∀ x ∈ es, x.length = s := fun x hx => h x (by simp [hx])
    have he : e.length = s := h e (by simp)
    have hi' : i < es.length := by simpa using hi
    have hjs : j < s := by rw [← hes _ (List.getElem_mem hi')]; simpa using hj
    have ha : (i + 1) * s + j = e.length + (i * s + j) := by rw [Nat.add_mul, he]; omega
    have hk' : i * s + j < es.flatten.length := by
      rw [flatten_len hes]
      have : (i + 1) * s ≤ es.length * s := Nat.mul_le_mul_right _ hi'
      rw [Nat.add_mul] at this; omega
    have := flatten_get hes i hi' j (by simpa using hj) hk'
    simp only [List.flatten_cons, List.getElem_cons_succ]
    rw [List.getElem_append_right (by omega)]
    simp only [ha, Nat.add_sub_cancel_left]
    exact this
theorem New.row {α : Type} (f : α → List AV) {s : Nat} (hf : ∀ a, (f a).length = s) (hfl : ∀ a, AV.flat.flats (f a) = true) (l : List α) {m : Mem} {n cap : Nat} {opn : Bool} {t : TypeId} (hm : m n = some (.cells opn t (l.map f).flatten)) :
    New m (.sl n 0 l.length cap) (.vs (l.map f) false) := by
  have hall : ∀ e ∈ l.map f, e.length = s := fun e he => by obtain ⟨a, _, rfl⟩ := List.mem_map.1 he; exact hf a
  refine New.sl (s := s) hm (by rw [flatten_len hall]; simp) (by simp) hall fun i hi j hj hk => ?_
  have hk' : i * s + j < (l.map f).flatten.length := by simpa using hk
  have := flatten_get hall i hi j hj hk'
  simp only [Nat.zero_add]
  rw [this]
  refine New.flats ?_ j hj
  obtain ⟨a, _, e⟩ := List.mem_map.1 (List.getElem_mem hi)
  rw [← e]; exact hfl a
theorem Seen.row {α : Type} (f : α → List AV) {s : Nat} (hf : ∀ a, (f a).length = s) (l : List α) {m : Mem} {n cap : Nat} {opn : Bool} {t : TypeId} (hm : m n = some (.cells opn t (l.map f).flatten)) :
    Seen m (.sl n 0 l.length cap) (.vs (l.map f) false) := by
  have hall : ∀ e ∈ l.map f, e.length = s := fun e he => by obtain ⟨a, _, rfl⟩ := List.mem_map.1 he; exact hf a
  refine Seen.sl (s := s) hm (by rw [flatten_len hall]; simp) (by simp) hall fun i hi j hj hk => ?_
  have hk' : i * s + j < (l.map f).flatten.length := by simpa using hk
  have := flatten_get hall i hi j hj hk'
  simp only [Nat.zero_add]
  rw [this]
  exact .same
theorem src_vs {α : Type} (f : α → List AV) {t e : TypeId} {i : TI} (hi : ti P t = some i) (hd : i.desc = .slice e) {s : Nat} (hf : ∀ a, (f a).length = s ∧ (f a).all AV.one = true) (m : Mem) (l : List α) (x : Bool) :
    srcA P m t s (.vs (l.map f) x) = some (l.length, (l.map f).flatten) := by
  simp only [srcA, hi, hd]
  rw [if_pos (fun e he => by obtain ⟨a, _, rfl⟩ := List.mem_map.1 he; exact hf a)]
  simp
theorem F.of_O {α : Type} (g : α → List AV) {s : Nat} (hg : ∀ a, (g a).length = s) (hfl : ∀ a, AV.flat.flats (g a) = true) {f : FuncId} {args : List AV} {t : TypeId} {l : List α} (h : O P f args t l.length (l.map g).flatten) : F P f args (.vs (l.map g) false) :=
  F.of_C (C.mono h fun r m' ⟨n, e, hm⟩ => by
    subst e
    exact New.row g hg hfl l hm)
end Go.Abs

set_option linter.unusedVariables false
set_option linter.unusedSimpArgs false
namespace Go.Abs
open Go.RowKit Go.ChangeShapes Go.WideShapes
variable {P : Program}
def K.of (w : World) : K := ⟨fun c o => w.cell? ⟨c, o, none⟩, fun _ => none⟩
theorem Sim.of (P : Program) (w : World) : Sim P (K.of w) nomem w :=
  ⟨fun _ _ _ h => h, (fun _ _ h => by cases h), (fun _ _ h => by cases h), fun _ _ _ _ _ h => absurd rfl h, ⟨0, fun _ _ => ⟨rfl, rfl⟩⟩⟩
def Shape (P : Program) : Nat → TypeId → List AV → Prop
  | 0, _, _ => False
  | n + 1, t, cs => match P.underlying t with
    | some .bool => ∃ b, cs = [.val (.bool b)]
    | some (.int k) => ∃ x, cs = [.val (.int k x)] ∧ (Lit.int k x).wf = true
    | some .string => ∃ s : ByteArray, cs = [.val (.string s)] ∧ s.size ≤ reachBytes
    | some (.slice e) => 0 < P.cellsOf e → ∃ es, cs = [.vs es false] ∧ es.length * P.bytesOf e ≤ reachBytes ∧ es.length ≤ maxLen ∧ ∀ x ∈ es, x.length = P.cellsOf e ∧ Shape P n e x
    | some (.struct fs) => cs.length = P.cellsOf t ∧ ∀ f ∈ fs.toList, Shape P n f.type ((cs.drop f.offset).take (P.cellsOf f.type))
    | some (.array k e) => cs.length = P.cellsOf t ∧ ∀ i, i < k → Shape P n e ((cs.drop (i * P.cellsOf e)).take (P.cellsOf e))
    | _ => True
def Shaped (P : Program) (t : TypeId) (cs : List AV) : Prop := ∃ n, Shape P n t cs
section
variable {t : TypeId} {cs : List AV}
theorem Shaped.bool (hu : P.underlying t = some .bool) (h : Shaped P t cs) : ∃ b, cs = [.val (.bool b)] := by
  obtain ⟨n, h⟩ := h
  cases n with
  | zero => exact h.elim
  | succ n => simpa only [Shape, hu] using h
theorem Shaped.int {k : IntKind} (hu : P.underlying t = some (.int k)) (h : Shaped P t cs) : ∃ x, cs = [.val (.int k x)] ∧ (Lit.int k x).wf = true := by
  obtain ⟨n, h⟩ := h
  cases n with
  | zero => exact h.elim
  | succ n => simpa only [Shape, hu] using h
theorem Shaped.string (hu : P.underlying t = some .string) (h : Shaped P t cs) : ∃ s : ByteArray, cs = [.val (.string s)] ∧ s.size ≤ reachBytes := by
  obtain ⟨n, h⟩ := h
  cases n with
  | zero => exact h.elim
  | succ n => simpa only [Shape, hu] using h
theorem Shaped.slice {e : TypeId} (hu : P.underlying t = some (.slice e)) (h0 : Nat.ble 1 (P.cellsOf e) = true) (h : Shaped P t cs) :
    ∃ es, cs = [.vs es false] ∧ es.length * P.bytesOf e ≤ reachBytes ∧ es.length ≤ maxLen ∧ ∀ x ∈ es, x.length = P.cellsOf e ∧ Shaped P e x := by
  obtain ⟨n, h⟩ := h
  cases n with
  | zero => exact h.elim
  | succ n =>
    simp only [Shape, hu] at h
    obtain ⟨es, h1, h2, h3, h4⟩ := h (Nat.le_of_ble_eq_true h0)
    exact ⟨es, h1, h2, h3, fun x hx => ⟨(h4 x hx).1, n, (h4 x hx).2⟩⟩
theorem Shaped.struct {fs : Array Field} (hu : P.underlying t = some (.struct fs)) (h : Shaped P t cs) :
    cs.length = P.cellsOf t ∧ ∀ f ∈ fs.toList, Shaped P f.type ((cs.drop f.offset).take (P.cellsOf f.type)) := by
  obtain ⟨n, h⟩ := h
  cases n with
  | zero => exact h.elim
  | succ n =>
    simp only [Shape, hu] at h
    exact ⟨h.1, fun f hf => ⟨n, h.2 f hf⟩⟩
theorem Shaped.array {k : Nat} {e : TypeId} (hu : P.underlying t = some (.array k e)) (h : Shaped P t cs) :
    cs.length = P.cellsOf t ∧ ∀ i, i < k → Shaped P e ((cs.drop (i * P.cellsOf e)).take (P.cellsOf e)) := by
  obtain ⟨n, h⟩ := h
  cases n with
  | zero => exact h.elim
  | succ n =>
    simp only [Shape, hu] at h
    exact ⟨h.1, fun i hi => ⟨n, h.2 i hi⟩⟩
end
theorem mapM_get' {α β : Type} {f : α → Option β} : ∀ {l : List α} {r : List β}, l.mapM f = some r → r.length = l.length ∧ ∀ i (h : i < l.length) (h' : i < r.length), f l[i] = some r[i]
  | [], r, h => by simp at h; subst h; exact ⟨rfl, fun i h => by simp at h⟩
  | x :: l, r, h => by
    simp only [List.mapM_cons, Option.bind_eq_bind, Option.bind_eq_some_iff, Option.pure_def, Option.some.injEq] at h
    obtain ⟨y, h1, r', h2, rfl⟩ := h
    obtain ⟨g1, g2⟩ := mapM_get' h2
    refine ⟨by simp [g1], fun i a b => ?_⟩
    cases i with
    | zero => exact h1
    | succ i => exact g2 i (by simpa using a) (by simpa using b)
section
variable {H : Type} {enc : TypeId × Value → H} {w : World}
theorem weightsAll_mem {e : TypeId} : ∀ {l : List (DataW H)} {d : DataW H}, d ∈ l → ∀ n ∈ d.weights P e, n ∈ DataW.weightsAll P e l
  | x :: l, d, hd, n, hn => by
    simp only [DataW.weightsAll, List.mem_append]
    rcases List.mem_cons.1 hd with rfl | hd
    · exact .inl hn
    · exact .inr (weightsAll_mem hd n hn)
def light (P : Program) (t : TypeId) (d : DataW H) : Prop := ∀ n ∈ d.weights P t, n ≤ reachBytes
theorem cells_get {base : Nat} {a : Addr} {n : Nat} {cs : List Value} (h : w.cells? base a n = some cs) : cs.length = n ∧ ∀ i (h : i < cs.length), w.cell? (a.add i) = some cs[i] := by
  unfold World.cells? at h
  split at h
  · obtain ⟨g1, g2⟩ := mapM_get' h
    refine ⟨by simpa using g1, fun i hi => ?_⟩
    have := g2 i (by simp at g1; simp; omega) hi
    simpa using this
  · cases h
theorem cell_spot {a : Addr} {v : Value} (h : w.cell? a = some v) : a.spot = none := by
  unfold World.cell? at h
  split at h
  · split at h
    · cases h
    · rename_i h'; simpa using h'
  · cases h
def Rels' (κ : K) (as : List AV) (cs : List Value) : Prop := as.length = cs.length ∧ ∀ i (h : i < as.length) (h' : i < cs.length), Rel κ as[i] cs[i]
theorem Rels'.junk (κ : K) (cs : List Value) : Rels' κ (List.replicate cs.length .junk) cs := ⟨by simp, fun i a b => by simp only [List.getElem_replicate]; exact .junk⟩
theorem Rels'.one {κ : K} {a : AV} {c : Value} (h : Rel κ a c) : Rels' κ [a] [c] := ⟨rfl, fun i a b => by
  have : i = 0 := by simpa using a
  subst this; exact h⟩
theorem Rels'.part {κ : K} {as : List AV} {cs : List Value} (h : Rels' κ as cs) (o n : Nat) : Rels' κ ((as.drop o).take n) ((cs.drop o).take n) :=
  ⟨by simp [h.1], fun i a b => by
    simp only [List.getElem_take, List.getElem_drop]
    exact h.2 _ _ _⟩
theorem Rels'.append {κ : K} {as bs : List AV} {cs ds : List Value} (h : Rels' κ as cs) (h' : Rels' κ bs ds) : Rels' κ (as ++ bs) (cs ++ ds) := by
  refine ⟨by simp [h.1, h'.1], fun i a b => ?_⟩
  by_cases hi : i < as.length
  · rw [List.getElem_append_left hi, List.getElem_append_left (h.1 ▸ hi)]; exact h.2 _ _ _
  · rw [List.getElem_append_right (by omega), List.getElem_append_right (by rw [← h.1]; omega)]
    simp only [h.1]
    exact h'.2 _ _ _
abbrev Piece := Nat × (List AV → Prop)
end
end Go.Abs

set_option linter.unusedVariables false
set_option linter.unusedSimpArgs false
namespace Go.Abs
open Go.RowKit Go.ChangeShapes Go.WideShapes
variable {P : Program}
def ShapedV (P : Program) (t : TypeId) (a : AV) : Prop :=
  match P.underlying t with
  | some (.struct _) | some (.array _ _) => ∃ cs, a = .agg cs ∧ Shaped P t cs
  | _ => Shaped P t [a]
def ShapedAll (P : Program) : List TypeId → List AV → Prop
  | [], [] => True
  | t :: ts, a :: as => ShapedV P t a ∧ ShapedAll P ts as
  | _, _ => False
section
variable {H : Type} {enc : TypeId × Value → H} {w : World}
theorem trodAll_len {base : Nat} {spare : Nat → Bool} {held : Bool} : ∀ (ts : List TypeId) (vs : List Value) (ds : List (DataW H)) (ps : List MemPlace), DataW.TrodAll enc P w base spare held ts vs ds ps → ds.length = ts.length
  | [], [], [], _, _ => rfl
  | t :: ts, v :: vs, d :: ds, ps, h => by
    obtain ⟨p, q, h1, h2, rfl⟩ := h
    simp [trodAll_len ts vs ds q h2]
  | [], [], _ :: _, _, h => h.elim
  | [], _ :: _, _, _, h => h.elim
  | _ :: _, [], _, _, h => h.elim
  | _ :: _, _ :: _, [], _, h => h.elim
theorem weights_of_left : ∀ (ts : List TypeId) (ds : List (DataW H)) (ts' : List TypeId) (ds' : List (DataW H)), ds.length = ts.length → ∀ n ∈ DataW.weightsEach P ts ds, n ∈ DataW.weightsEach P (ts ++ ts') (ds ++ ds')
  | [], [], _, _, _, n, hn => by simp [DataW.weightsEach] at hn
  | t :: ts, d :: ds, ts', ds', hl, n, hn => by
    simp only [DataW.weightsEach, List.cons_append, List.mem_append] at *
    rcases hn with hn | hn
    · exact .inl hn
    · exact .inr (weights_of_left ts ds ts' ds' (by simpa using hl) n hn)
  | [], _ :: _, _, _, hl, _, _ => by simp at hl
  | _ :: _, [], _, _, hl, _, _ => by simp at hl
theorem trodAll_below (hl : laidOutB P = true) {W' : World} (hb : Below w.heap.size w W') : ∀ (ts : List TypeId) (vs : List Value) (ds : List (DataW H)) (ps : List MemPlace), (∀ t ∈ ts, P.readableRec t = true ∧ t < P.types.size) →
    DataW.TrodAll enc P w 0 (fun _ => true) true ts vs ds ps → (∀ x ∈ ps, x.block < w.heap.size) → DataW.TrodAll enc P W' 0 (fun b => decide (b < w.heap.size)) true ts vs ds ps
  | [], [], [], ps, _, h, _ => h
  | t :: ts, v :: vs, d :: ds, ps, ht, h, hlt => by
    obtain ⟨p, q, h1, h2, rfl⟩ := h
    exact ⟨p, q, Below.trod hl (ht t (by simp)).1 (ht t (by simp)).2 h1 hb (fun x hx => hlt x (by simp [hx])), trodAll_below hl hb ts vs ds q (fun t h => ht t (by simp [h])) h2 (fun x hx => hlt x (by simp [hx])), rfl⟩
  | [], [], _ :: _, _, _, h, _ => h.elim
  | [], _ :: _, _, _, _, h, _ => h.elim
  | _ :: _, [], _, _, _, h, _ => h.elim
  | _ :: _, _ :: _, [], _, _, h, _ => h.elim
end
theorem F.below {f : FuncId} {args : List AV} {R : AV} (h : F P f args R) {w : World} {cargs : Array Value} (hr : Rels' (K.of w) args cargs.toList) :
    Calls P f cargs w fun e w' => ∃ cv κ', e = .returned cv ∧ Below w.heap.size w w' ∧ Rel κ' R cv := by
  rw [← callsIn_wide (n := 0)]
  refine (h.2 (K.of w) w cargs (Sim.of P w) ⟨by simpa using hr.1, fun i a b => by have := hr.2 i a (by simpa using b); rw [Array.getElem_toList] at this; exact this⟩).mono ?_
  rintro e w' ⟨cv, κ', rfl, hst, hrel⟩
  exact ⟨cv, _, rfl, ⟨hst.os, hst.tape, hst.output, hst.size, fun k hk => hst.frame k hk fun ⟨n, l, _, h, _⟩ => h rfl⟩, hrel⟩
def leaves (P : Program) : Nat → TypeId → Option (List TypeId)
  | 0, _ => none
  | n + 1, t => match P.underlying t with
    | some (.struct fs) => (fs.toList.mapM fun f => leaves P n f.type).map List.flatten
    | some (.array k e) => (leaves P n e).map fun l => (List.replicate k l).flatten
    | _ => if P.cellsOf t = 1 then some [t] else none
def ShapedL (P : Program) : List TypeId → List AV → Prop
  | [], [] => True
  | t :: ts, c :: cs => Shaped P t [c] ∧ ShapedL P ts cs
  | _, _ => False
theorem ShapedL.append {P : Program} : ∀ {ts us : List TypeId} {cs ds : List AV}, ShapedL P ts cs → ShapedL P us ds → ShapedL P (ts ++ us) (cs ++ ds)
  | [], us, [], ds, _, h => h
  | t :: ts, us, c :: cs, ds, h, h' => ⟨h.1, ShapedL.append h.2 h'⟩
  | [], _, _ :: _, _, h, _ => h.elim
  | _ :: _, _, [], _, h, _ => h.elim
theorem Shaped.leaves {P : Program} (hl : laidOutB P = true) : ∀ (n : Nat) (t : TypeId) (ts : List TypeId) (cs : List AV), t < P.types.size → leaves P n t = some ts → Shaped P t cs → cs.length = P.cellsOf t → ShapedL P ts cs
  | 0, t, ts, cs, ht, h, hs, hc => by simp [Abs.leaves] at h
  | n + 1, t, ts, cs, ht, h, hs, hc => by
    have ih := Shaped.leaves hl n
    unfold Abs.leaves at h
    split at h
    · rename_i fs hu
      obtain ⟨k1, k2, k3⟩ := kid_struct hl ht hu
      obtain ⟨s1, s2⟩ := hs.struct hu
      simp only [Option.map_eq_some_iff] at h
      obtain ⟨ls, hL, rfl⟩ := h
      have key : ∀ (gs : List Field) (o : Nat) (ls : List (List TypeId)), gs.mapM (fun f => Abs.leaves P n f.type) = some ls → (∀ f ∈ gs, f ∈ fs.toList) →
          (∀ (j : Nat) f, gs[j]? = some f → f.offset = o + ((gs.take j).map fun f => P.cellsOf f.type).sum) → (cs.drop o).length = (gs.map fun f => P.cellsOf f.type).sum → ShapedL P ls.flatten (cs.drop o) := by
        intro gs
        induction gs with
        | nil =>
          intro o ls h _ _ hlen
          simp at h; subst h
          simp only [List.map_nil, List.sum_nil] at hlen
          rw [List.eq_nil_of_length_eq_zero hlen]
          trivial
        | cons g gs ihg =>
          intro o ls h hmem hoff hlen
          simp only [List.mapM_cons, Option.bind_eq_bind, Option.bind_eq_some_iff, Option.pure_def, Option.some.injEq] at h
          obtain ⟨l0, h1, ls', h2, rfl⟩ := h
          have ho : g.offset = o := by have := hoff 0 g rfl; simpa using this
          simp only [List.map_cons, List.sum_cons] at hlen
          have hg := hmem g (by simp)
          have a := ih g.type l0 _ (k1 g hg) h1 (s2 g hg) (by rw [ho, List.length_take]; omega)
          have b := ihg (o + P.cellsOf g.type) ls' h2 (fun f hf => hmem f (by simp [hf])) (fun j f hj => by
            have := hoff (j + 1) f (by simpa using hj)
            simp only [List.take_succ_cons, List.map_cons, List.sum_cons] at this
            omega) (by simp only [List.length_drop] at *; omega)
          rw [ho] at a
          have c := a.append b
          rw [← List.drop_drop, List.take_append_drop] at c
          exact c
      have := key fs.toList 0 ls hL (fun f hf => hf) (fun j f hj => by rw [k3 j f hj]; simp) (by simpa using s1.trans k2)
      simpa using this
    · rename_i k e hu
      obtain ⟨k1, k2⟩ := kid_array hl ht hu
      obtain ⟨s1, s2⟩ := hs.array hu
      simp only [Option.map_eq_some_iff] at h
      obtain ⟨l, hL, rfl⟩ := h
      have key : ∀ j, j ≤ k → ShapedL P (List.replicate (k - j) l).flatten (cs.drop (j * P.cellsOf e)) := by
        have : ∀ d j, j + d = k → ShapedL P (List.replicate d l).flatten (cs.drop (j * P.cellsOf e)) := by
          intro d
          induction d with
          | zero =>
            intro j hj
            have : cs.drop (j * P.cellsOf e) = [] := List.eq_nil_of_length_eq_zero (by rw [List.length_drop, hc, k2, ← hj]; simp)
            rw [this]; trivial
          | succ d ihd =>
            intro j hj
            have hle : (j + 1) * P.cellsOf e ≤ cs.length := by rw [hc, k2]; exact Nat.mul_le_mul_right _ (by omega)
            rw [Nat.add_mul] at hle
            have a := ih e l _ k1 hL (s2 j (by omega)) (by rw [List.length_take, List.length_drop]; omega)
            have c := a.append (ihd (j + 1) (by omega))
            rw [show (j + 1) * P.cellsOf e = j * P.cellsOf e + P.cellsOf e by rw [Nat.add_mul]; omega, ← List.drop_drop, List.take_append_drop] at c
            exact c
        intro j hj
        exact this (k - j) j (by omega)
      have := key 0 (by omega)
      simpa using this
    · rename_i hn1 hn2
      split at h
      · rename_i h1
        cases h
        rw [h1] at hc
        match cs, hc, hs with
        | [c], _, hs => exact ⟨hs, trivial⟩
      · cases h
theorem rows_of {α : Type} (f : α → List AV) (Q : α → Prop) : ∀ (es : List (List AV)), (∀ x ∈ es, ∃ a, x = f a ∧ Q a) → ∃ l : List α, es = l.map f ∧ ∀ a ∈ l, Q a
  | [], _ => ⟨[], rfl, fun a h => by simp at h⟩
  | x :: es, h => by
    obtain ⟨a, rfl, ha⟩ := h x (by simp)
    obtain ⟨l, rfl, hl⟩ := rows_of f Q es (fun y hy => h y (by simp [hy]))
    exact ⟨a :: l, rfl, fun b hb => by
      rcases List.mem_cons.1 hb with rfl | hb
      · exact ha
      · exact hl b hb⟩
theorem wf_i64 {x : Int} (h : (Lit.int .i64 x).wf = true) : -9223372036854775808 ≤ x ∧ x ≤ 9223372036854775807 := by
  simpa [Lit.wf, IntKind.min, IntKind.max, IntKind.signed, IntKind.bits] using h
theorem wf_u64 {x : Int} (h : (Lit.int .u64 x).wf = true) : 0 ≤ x ∧ x ≤ 18446744073709551615 := by
  simpa [Lit.wf, IntKind.min, IntKind.max, IntKind.signed, IntKind.bits] using h
theorem wf_u8 {x : Int} (h : (Lit.int .u8 x).wf = true) : 0 ≤ x ∧ x ≤ 255 := by
  simpa [Lit.wf, IntKind.min, IntKind.max, IntKind.signed, IntKind.bits] using h
section
variable {P : Program} {t : TypeId} {c : AV} {i : TI}
theorem Shaped.i64 (ht : ti P t = some i) (hd : i.desc = .int .i64) (h : Shaped P t [c]) : ∃ x, c = .val (.int .i64 x) ∧ -9223372036854775808 ≤ x ∧ x ≤ 9223372036854775807 := by
  obtain ⟨x, e, hw⟩ := h.int ((ti_spec ht).1.trans (by rw [hd]))
  exact ⟨x, (List.cons.inj e).1, wf_i64 hw⟩
theorem Shaped.u64 (ht : ti P t = some i) (hd : i.desc = .int .u64) (h : Shaped P t [c]) : ∃ x, c = .val (.int .u64 x) ∧ 0 ≤ x ∧ x ≤ 18446744073709551615 := by
  obtain ⟨x, e, hw⟩ := h.int ((ti_spec ht).1.trans (by rw [hd]))
  exact ⟨x, (List.cons.inj e).1, wf_u64 hw⟩
theorem Shaped.u8 (ht : ti P t = some i) (hd : i.desc = .int .u8) (h : Shaped P t [c]) : ∃ x, c = .val (.int .u8 x) ∧ 0 ≤ x ∧ x ≤ 255 := by
  obtain ⟨x, e, hw⟩ := h.int ((ti_spec ht).1.trans (by rw [hd]))
  exact ⟨x, (List.cons.inj e).1, wf_u8 hw⟩
theorem Shaped.str (ht : ti P t = some i) (hd : i.desc = .string) (h : Shaped P t [c]) : ∃ s : ByteArray, c = .val (.string s) ∧ s.size ≤ 140737488351232 := by
  obtain ⟨x, e, hw⟩ := h.string ((ti_spec ht).1.trans (by rw [hd]))
  exact ⟨x, (List.cons.inj e).1, hw⟩
theorem ShapedV.one (ht : ti P t = some i) (hd : isAggD i.desc = false) (h : ShapedV P t c) : Shaped P t [c] := by
  unfold ShapedV at h
  split at h
  · rename_i fs hu; have e := Option.some.inj ((ti_spec ht).1.symm.trans hu); rw [e] at hd; cases hd
  · rename_i k e' hu; have e := Option.some.inj ((ti_spec ht).1.symm.trans hu); rw [e] at hd; cases hd
  · exact h
theorem ShapedV.cells {fs : Array Field} (ht : ti P t = some i) (hd : i.desc = .struct fs) (h : ShapedV P t c) : ∃ cs, c = .agg cs ∧ cs.length = i.size ∧ Shaped P t cs := by
  obtain ⟨hu, j, g1, g2, _⟩ := ti_spec ht
  unfold ShapedV at h
  rw [hu, hd] at h
  obtain ⟨cs, rfl, hs⟩ := h
  refine ⟨cs, rfl, ?_, hs⟩
  rw [(hs.struct (hu.trans (by rw [hd]))).1]
  simp [Program.cellsOf, g1, g2]
theorem cells_size {P : Program} {t : TypeId} {i : TI} (ht : ti P t = some i) : P.cellsOf t = i.size := by
  obtain ⟨hu, j, g1, g2, _⟩ := ti_spec ht
  simp [Program.cellsOf, g1, g2]
end
theorem Shaped.rows {P : Program} {t e : TypeId} {c : AV} {i j : TI} {α : Type} (f : α → List AV) (Q : α → Prop) (ht : ti P t = some i) (hd : i.desc = .slice e) (he : ti P e = some j) (h0 : Nat.ble 1 j.size = true)
    (hf : ∀ x, Shaped P e x → x.length = j.size → ∃ a, x = f a ∧ Q a) (h : Shaped P t [c]) :
    ∃ l : List α, c = .vs (l.map f) false ∧ l.length * j.bytes ≤ 140737488351232 ∧ l.length ≤ 9223372036854775807 ∧ ∀ a ∈ l, Q a := by
  obtain ⟨h1, _⟩ := ti_spec ht
  obtain ⟨_, jj, g1, g2, g3, _⟩ := ti_spec he
  have hc : P.cellsOf e = j.size := by simp [Program.cellsOf, g1, g2]
  have hb : P.bytesOf e = j.bytes := by simp [Program.bytesOf, g1, g3]
  obtain ⟨es, k1, k2, k3, k4⟩ := h.slice (h1.trans (by rw [hd])) (by rw [hc]; exact h0)
  obtain ⟨l, rfl, hl⟩ := rows_of f Q es (fun x hx => hf x (k4 x hx).2 ((k4 x hx).1.trans hc))
  simp only [List.cons.injEq, and_true] at k1
  rw [hb, List.length_map] at k2
  rw [List.length_map] at k3
  exact ⟨l, k1, k2, Nat.le_trans k3 (by decide), hl⟩
end Go.Abs

set_option linter.unusedVariables false
set_option linter.unusedSimpArgs false
namespace Go.Abs
variable {P : Program}
def Mem.plus (m' m M : Mem) : Mem := fun n => match m' n with | some b => some b | none => match m n with | some _ => none | none => M n
theorem Mem.plus_some {m' m M : Mem} {n : Nat} {b : Blk} (h : m' n = some b) : m'.plus m M n = some b := by simp [Mem.plus, h]
theorem Mem.plus_none {m' m M : Mem} {n : Nat} (h : m' n = none) (h' : m n = none) : m'.plus m M n = M n := by simp [Mem.plus, h, h']
theorem Mem.plus_gone {m' m M : Mem} {n : Nat} (h : m' n = none) (h' : m n ≠ none) : m'.plus m M n = none := by
  cases hm : m n with
  | none => exact absurd hm h'
  | some b => simp [Mem.plus, h, hm]
theorem Sim.used {κ : K} {m : Mem} {w : World} (hs : Sim P κ m w) {n : Nat} (h : m n ≠ none) : κ.rho n ≠ none := by
  cases hm : m n with
  | none => exact absurd hm h
  | some b =>
    rcases hs.blk n b hm with ⟨l, h1, _⟩ | ⟨h1, _⟩ <;> rw [h1] <;> simp
theorem Step.framed {κ κ' : K} {m m' M : Mem} {w w' : World} (hs : Sim P κ M w) (hsub : m.sub M) (h : Step P κ m w κ' m' w') : Step P κ M w κ' (m'.plus m M) w' ∧ ∀ n, m n = none → m' n ≠ none → M n = none := by
  have extra : ∀ n, m n = none → M n ≠ none → m' n = none := fun n h1 h2 => h.dead n (hs.used h2) h1
  have rho : ∀ n x, κ.rho n = some x → κ'.rho n = some x := h.le.rho
  have apart : ∀ n l, m n = none → M n ≠ none → κ.rho n = some (some l) → ¬ Backs κ m l.blk := by
    rintro n l h1 h2 h3 ⟨n2, l2, g1, g2, g3⟩
    have hne : n ≠ n2 := fun e => g2 (e ▸ h1)
    exact hs.excl n n2 l l2 hne h2 (hsub.live g2) h3 g1 g3.symm
  have live : ∀ n, m'.plus m M n ≠ none → m' n ≠ none ∨ (m n = none ∧ M n ≠ none ∧ m' n = none) := fun n hn => by
    cases h1 : m' n with
    | some b => exact .inl (by simp)
    | none =>
      cases h2 : m n with
      | some b => exact absurd (Mem.plus_gone h1 (by rw [h2]; simp)) hn
      | none => rw [Mem.plus_none h1 h2] at hn; exact .inr ⟨rfl, hn, rfl⟩
  refine ⟨⟨h.le, ⟨h.sim.prot, ?_, h.sim.lt, ?_, ?_⟩, h.size, fun c hc hb => h.frame c hc fun hb' => hb (hb'.sub hsub), ?_, h.os, h.tape, h.output, fun c o hc hp => (h.porigin c o hc hp).imp_right fun hb => hb.sub hsub, ?_⟩, fun n h1 h2 => ?_⟩
  · intro n b hb
    cases h1 : m' n with
    | some b' =>
      rw [Mem.plus_some h1] at hb; cases hb
      exact h.sim.blk n _ h1
    | none =>
      cases h2 : m n with
      | some b' => rw [Mem.plus_gone h1 (by rw [h2]; simp)] at hb; cases hb
      | none =>
        rw [Mem.plus_none h1 h2] at hb
        have hM : M n ≠ none := by rw [hb]; simp
        rcases hs.blk n b hb with ⟨l, g1, g2, g3⟩ | ⟨g1, g2⟩
        · refine .inl ⟨l, rho _ _ g1, (g2.congr (h.frame _ g2.lt (apart n l h2 hM g1))).mono h.le, fun o => ?_⟩
          cases hp : κ'.prot l.blk o with
          | none => rfl
          | some v =>
            rcases h.porigin l.blk o g2.lt (by rw [hp]; simp) with q | q
            · exact absurd (g3 o) q
            · exact absurd q (apart n l h2 hM g1)
        · exact .inr ⟨rho _ _ g1, g2⟩
  · intro n n' l l' hne h1 h2 h3 h4
    have old : ∀ n l, m n = none → M n ≠ none → κ'.rho n = some (some l) → κ.rho n = some (some l) := fun n l a b c => by
      cases hk : κ.rho n with
      | none => exact absurd hk (hs.used b)
      | some x => rw [rho _ _ hk] at c; exact c
    have mixed : ∀ n n' l l', m' n ≠ none → m n' = none → M n' ≠ none → κ'.rho n = some (some l) → κ'.rho n' = some (some l') → l.blk ≠ l'.blk := fun n n' l l' a b c d e hbl => by
      have e' := old n' l' b c e
      have hlt := hs.lt n' l' e'
      exact apart n' l' b c e' (h.origin l'.blk hlt ⟨n, l, d, a, hbl⟩)
    rcases live n h1 with a | ⟨a1, a2, a3⟩ <;> rcases live n' h2 with b | ⟨b1, b2, b3⟩
    · exact h.sim.excl n n' l l' hne a b h3 h4
    · exact mixed n n' l l' a b1 b2 h3 h4
    · exact fun e => mixed n' n l' l b a1 a2 h4 h3 e.symm
    · exact hs.excl n n' l l' hne a2 b2 (old n l a1 a2 h3) (old n' l' b1 b2 h4)
  · obtain ⟨N, hN⟩ := h.sim.fin
    obtain ⟨N', hN'⟩ := hs.fin
    refine ⟨max N N', fun n hn => ⟨(hN n (by omega)).1, ?_⟩⟩
    have h1 := (hN n (by omega)).2
    have h2 := (hN' n (by omega)).2
    cases hm : m n with
    | some b => exact Mem.plus_gone h1 (by rw [hm]; simp)
    | none => rw [Mem.plus_none h1 hm, h2]
  · rintro c hc ⟨n, l, h1, h2, h3⟩
    rcases live n h2 with a | ⟨a1, a2, a3⟩
    · exact (h.origin c hc ⟨n, l, h1, a, h3⟩).sub hsub
    · have hk : κ.rho n = some (some l) := by
        cases hk : κ.rho n with
        | none => exact absurd hk (hs.used a2)
        | some x => rw [rho _ _ hk] at h1; exact h1
      exact ⟨n, l, hk, a2, h3⟩
  · intro n hr hM
    have hm : m n = none := by
      cases hm : m n with
      | none => rfl
      | some b => rw [hsub n b hm] at hM; cases hM
    rw [Mem.plus_none (h.dead n hr hm) hm]; exact hM
  · cases hM : M n with
    | none => rfl
    | some b => exact absurd (extra n h1 (by rw [hM]; simp)) h2
theorem C.frame {f : FuncId} {args : List AV} {m M : Mem} {K' : AV → Mem → Prop} (h : C P f args m K') (hsub : m.sub M) :
    C P f args M (fun r M' => ∃ m', K' r m' ∧ (∀ n, m n = none → m' n ≠ none → M n = none) ∧ M' = m'.plus m M) :=
  ⟨h.1, fun κ w cargs hs hr => (h.2 κ w cargs (hs.sub hsub) hr).mono fun e w' ⟨cv, r, m', κ', a, b, c, d⟩ =>
    ⟨cv, r, _, κ', a, ⟨m', b, (c.framed hs hsub).2, rfl⟩, (c.framed hs hsub).1, d⟩⟩
theorem Y.frame {n : Nat} {args : List AV} {m M : Mem} {K' : AV → Mem → Prop} (h : Y P n args m K') (hsub : m.sub M) :
    Y P n args M (fun r M' => ∃ m', K' r m' ∧ (∀ n, m n = none → m' n ≠ none → M n = none) ∧ M' = m'.plus m M) :=
  fun κ w l cargs hs hl hr => let ⟨f, t, a, b, h1, h2⟩ := h κ w l cargs (hs.sub hsub) hl hr
    ⟨f, t, a, b, h1, h2.mono fun e w' ⟨cv, r, m', κ', a, b, c, d⟩ => ⟨cv, r, _, κ', a, ⟨m', b, (c.framed hs hsub).2, rfl⟩, (c.framed hs hsub).1, d⟩⟩
theorem call_on {f : FuncId} {args : List AV} {m M : Mem} {K' K'' : AV → Mem → Prop} {x : Hid K'} (h : C P f args m K'') (hsub : m.sub M)
    (hk : ∀ r m', K'' r m' → (∀ n, m n = none → m' n ≠ none → M n = none) → K' r (m'.plus m M)) : CC P f args M (hid K' x) :=
  .inl ((h.frame hsub).mono fun r M' ⟨m', a, b, c⟩ => by subst c; exact hk r m' a b)
theorem nomem_set_sub {M : Mem} {n : Nat} {b : Blk} (h : M n = some b) : (nomem.set n b).sub M := fun k b' hk => by
  unfold Mem.set at hk
  split at hk
  · rename_i e; cases hk; rw [e]; exact h
  · cases hk
theorem Mem.set_sub {m M : Mem} {n : Nat} {b : Blk} (hs : m.sub M) (h : M n = some b) : (m.set n b).sub M := fun k b' hk => by
  unfold Mem.set at hk
  split at hk
  · rename_i e; cases hk; rw [e]; exact h
  · exact hs k b' hk
theorem Mem.plus_nomem (m M : Mem) (h : ∀ n, m n ≠ none → M n = none) : nomem.plus m M = M := by
  funext n
  cases hm : m n with
  | none => simp [Mem.plus, nomem, hm]
  | some b => rw [Mem.plus_gone rfl (by rw [hm]; simp), h n (by rw [hm]; simp)]
def IsFn (P : Program) (f : FuncId) : Prop := ∃ fn, P.funcs[f]? = some fn ∧ fn.body.isNone = false ∧ (fn.name == "runtime.NumGoroutine") = false
theorem C.reveal {f : FuncId} {pre post : List AV} {m : Mem} {K' : AV → Mem → Prop} {n len : Nat} {bt : TypeId} {cs : List AV} (hf : IsFn P f) (hm : m n = some (.cells true bt cs)) (h0 : 0 < len) (hlen : len * P.cellsOf bt = cs.length)
    (h : ∀ c N, len ≤ c → m N = none → C P f (pre ++ [.sl N 0 len c] ++ post) ((m.del n).set N (.cells false bt (cs ++ List.replicate ((c - len) * P.cellsOf bt) .junk))) K') : C P f (pre ++ [.sl n 0 len len] ++ post) m K' := by
  refine ⟨hf, fun κ w cargs hs hr => ?_⟩
  have hsz : pre.length < cargs.size := by rw [← hr.1]; simp
  have hx := hr.2 pre.length (by simp) hsz
  have hget : (pre ++ [AV.sl n 0 len len] ++ post)[pre.length]'(by simp) = .sl n 0 len len := by simp
  rw [hget] at hx
  generalize hcv : cargs[pre.length] = cv at hx
  cases hx with
  | snil => omega
  | szero => omega
  | @sl _ _ _ _ cap' c' o' l q1 q2 q3 q4 =>
    rcases hs.blk n _ hm with ⟨l', e1, e2, e3⟩ | ⟨e1, _⟩
    · rw [q1] at e1; cases e1
      obtain ⟨arr, t', fz, z1, z2, z3, z4, z5, z6, z7⟩ := e2
      have hls := z6 rfl
      obtain ⟨N, hrN, hN⟩ := hs.fresh
      have hcap : len ≤ cap' := by rcases q2 with q2 | q2 <;> omega
      have hmul : cap' * l.size = len * l.size + (cap' - len) * l.size := by rw [← Nat.add_mul]; congr 1; omega
      have hfits : l.base + cap' * l.size ≤ arr.size := by
        rcases q2 with q2 | ⟨q2, q5⟩
        · subst q2; rw [hls, hlen, ← z3]; omega
        · have : cap' * l.size = len * l.size + l.ext * l.size := by rw [q5, Nat.add_mul]
          omega
      have hst := Step.move (w' := w) (l' := ⟨l.blk, l.base, l.size, cap' * l.size, 0⟩) hs (by rw [hm]; simp) q1 e3 hN hrN rfl (But.refl w _) (.cells false bt (cs ++ List.replicate ((cap' - len) * P.cellsOf bt) .junk))
        ⟨arr, t', fz, z1, z2, by simp only [List.length_append, List.length_replicate, ← hlen, ← hls]; omega, by simp only [Nat.zero_mul, Nat.add_zero]; exact hfits, fun _ => rfl, (fun h => by cases h), fun i hi => by
          simp only [List.length_append, List.length_replicate] at hi
          by_cases hc : i < cs.length
          · obtain ⟨cv, y1, y2⟩ := z7 i hc
            refine ⟨cv, y1, ?_⟩
            rw [List.getElem_append_left hc]
            exact y2.mono (K.le_add hrN)
          · have hlt : l.base + i < arr.size := by rw [← hlen, ← hls] at hi; omega
            refine ⟨_, Array.getElem?_eq_getElem hlt, ?_⟩
            rw [List.getElem_append_right (by omega), List.getElem_replicate]
            exact .junk⟩
      have hrels : Rels (κ.add N ⟨l.blk, l.base, l.size, cap' * l.size, 0⟩) (pre ++ [.sl N 0 len cap'] ++ post) cargs := by
        refine ⟨by rw [← hr.1]; simp, fun i a b => ?_⟩
        by_cases hi : i = pre.length
        · subst hi
          have : (pre ++ [AV.sl N 0 len cap'] ++ post)[pre.length]'a = .sl N 0 len cap' := by simp
          rw [this, hcv]
          exact .sl (K.add_same ..) (.inl rfl) hcap q4
        · have hr' := (hr.2 i (by simpa using a) b).mono (K.le_add (l := ⟨l.blk, l.base, l.size, cap' * l.size, 0⟩) hrN)
          have hq : (pre ++ [AV.sl N 0 len cap'] ++ post)[i]? = (pre ++ [AV.sl n 0 len len] ++ post)[i]? := by
            simp only [List.append_assoc, List.getElem?_append, List.length_singleton]
            split
            · rfl
            · rw [if_neg (by omega), if_neg (by omega)]
          have this := hq
          rw [List.getElem?_eq_getElem a, List.getElem?_eq_getElem (by simpa using a)] at this
          have this := Option.some.inj this
          rw [this]; exact hr'
      refine ((h cap' N hcap hN).2 _ w cargs hst.sim hrels).mono ?_
      rintro e w' ⟨cv, r, m', κ', a, b, c, d⟩
      exact ⟨cv, r, m', κ', a, b, hst.trans c, d⟩
    · rw [q1] at e1; cases e1
theorem run_overlaps_apart' (w : World) (tS tR e : TypeId) (ht : P.underlying tS = some (.slice e)) (size : Nat) (hz : ∀ w, (Go.sizeOf e).run P w = .ok size w)
    (a b : Addr) (la ca lb cb : Nat) (hne : a.block ≠ b.block) (tA tB : TypeId) (kA kB : Nat)
    (hsa : w.shape? a.block = some (tA, kA)) (hsb : w.shape? b.block = some (tB, kB)) (hkB : kB ≠ 0) (hkA : kA ≠ 0)
    (hfb : w.frozen? b = false) (hfe : w.frozen? { block := b.block, off := kB } = false) :
    (Extern.SlicesOverlaps.overlaps #[tS, tS] #[tR] #[.slice (some a) la ca, .slice (some b) lb cb]).run P w = .ok (.bool false) w := by
  have hnb : (a.block != b.block) = true := by simpa using hne
  have hnb' : (a.block == b.block) = false := by simpa using hne
  change Sem.run P (α := Value) (do
    let some t := (#[tS, tS] : Array TypeId)[0]? | stuck "slices.overlaps: no parameter types"
    let .slice elem ← underlying t | stuck "slices.overlaps: slice type expected"
    let size ← sizeOf elem
    match (some a : Option Addr), (some b : Option Addr) with
    | some a, some b =>
      if la = 0 ∨ lb = 0 ∨ size = 0 then pure (Value.bool false)
      else if a.block != b.block && (← frozen a) && (← frozen b) then unsupported .addressObserved
      else do
        if a.block != b.block then do
          noView a; noView b
          if ← mayBeOne a b then return Value.bool ((← choose (.extern "sameAddr.stringBytes" 2)) == 1)
        pure (Value.bool (a.block == b.block && a.off < b.off + lb * size && b.off < a.off + la * size))
    | _, _ => pure (Value.bool false)) w = _
  by_cases h0 : la = 0 ∨ lb = 0 ∨ size = 0
  · simp [run_underlying ht, hz, h0]
  · cases kB with
    | zero => exact absurd rfl hkB
    | succ kB =>
     cases kA with
     | zero => exact absurd rfl hkA
     | succ kA =>
      cases hfa : w.frozen? a <;> cases hff : w.frozen? { block := a.block, off := kA + 1 } <;>
        simp [run_underlying ht, hz, h0, hnb, hnb', frozen, noView, viewAt, mayBeOne, stringish, shape, Sem.run, hsa, hsb, hfa, hff, hfb, hfe]
theorem X.overlaps {g : FuncId} {fn : Func} {t e rt : TypeId} {i j : TI} (hfn : P.funcs[g]? = some fn) (hname : (fn.name == "runtime.NumGoroutine") = false) (hb : fn.body.isNone = true) (hnext : Extern.findNext fn = none)
    (hfind : Extern.find fn = some (Extern.SlicesOverlaps.overlaps #[t, t] #[rt])) (hi : ti P t = some i) (hd : i.desc = .slice e) (hj : ti P e = some j) {es : List (List AV)} {x : Bool} (hes : ∀ y ∈ es, 0 < y.length)
    {n off len cap : Nat} {opn : Bool} {bt : TypeId} {cs : List AV} {m : Mem} (hm : m n = some (.cells opn bt cs)) (hbt : byteT P bt = false) (hoff : len = 0 ∨ off < cs.length) {K' : AV → Mem → Prop} (hk : K' (.val (.bool false)) m) : X P g [.vs es x, .sl n off len cap] m K' := by
  refine ⟨fn, _, hfn, hname, hb, hnext, hfind, fun κ w cargs hs hr => ⟨.bool false, w, _, m, κ, ?_, hk, Step.refl hs, .val rfl⟩⟩
  obtain ⟨c0, c1, rfl⟩ : ∃ c0 c1, cargs = #[c0, c1] := by
    obtain ⟨l⟩ := cargs
    match l, hr.1 with
    | [a, b], _ => exact ⟨a, b, rfl⟩
  have h0 : Rel κ (.vs es x) c0 := hr.2 0 (by simp) (by simp)
  have h1 : Rel κ (.sl n off len cap) c1 := hr.2 1 (by simp) (by simp)
  have ht : P.underlying t = some (.slice e) := (ti_spec hi).1.trans (by rw [hd])
  have hz : ∀ w : World, (Go.sizeOf e).run P w = .ok j.size w := fun w => run_sizeOf hj w
  have small : ∀ (a b : Option Addr) (la ca lb cb : Nat), (a = none ∨ b = none ∨ la = 0 ∨ lb = 0) → (Extern.SlicesOverlaps.overlaps #[t, t] #[rt] #[.slice a la ca, .slice b lb cb]).run P w = .ok (.bool false) w := by
    intro a b la ca lb cb h
    change Sem.run P (α := Value) (do
      let some t := (#[t, t] : Array TypeId)[0]? | stuck "slices.overlaps: no parameter types"
      let .slice elem ← underlying t | stuck "slices.overlaps: slice type expected"
      let size ← sizeOf elem
      match (a : Option Addr), (b : Option Addr) with
      | some a, some b =>
        if la = 0 ∨ lb = 0 ∨ size = 0 then pure (Value.bool false)
        else if a.block != b.block && (← frozen a) && (← frozen b) then unsupported .addressObserved
        else do
          if a.block != b.block then do
            noView a; noView b
            if ← mayBeOne a b then return Value.bool ((← choose (.extern "sameAddr.stringBytes" 2)) == 1)
          pure (Value.bool (a.block == b.block && a.off < b.off + lb * size && b.off < a.off + la * size))
      | _, _ => pure (Value.bool false)) w = _
    rcases h with rfl | rfl | rfl | rfl
    · simp [run_underlying ht, hz]
    · cases a <;> simp [run_underlying ht, hz]
    · cases a <;> cases b <;> simp [run_underlying ht, hz]
    · cases a <;> cases b <;> simp [run_underlying ht, hz]
  have low : ∃ b lb cb, c1 = .slice b lb cb ∧ (b = none ∨ lb = 0 ∨ off < cs.length ∧ ∃ l, κ.rho n = some (some l) ∧ b = some ⟨l.blk, l.base + off, none⟩) := by
    cases h1 with
    | snil => exact ⟨_, _, _, rfl, .inl rfl⟩
    | szero => exact ⟨_, _, _, rfl, .inr (.inl rfl)⟩
    | @sl _ _ _ _ cap' c' o' l q1 q2 q3 q4 =>
      by_cases h : len = 0
      · exact ⟨_, _, _, rfl, .inr (.inl h)⟩
      · have ha : c' = l.blk ∧ o' = l.base + off := by
          rcases q4 with q4 | q4
          · rcases q2 with q2 | q2 <;> omega
          · exact q4
        obtain ⟨rfl, rfl⟩ := ha
        exact ⟨_, _, _, rfl, .inr (.inr ⟨hoff.resolve_left h, l, q1, rfl⟩)⟩
  obtain ⟨b, lb, cb, rfl, hbb⟩ := low
  cases h0 with
  | vnil => exact small _ _ _ _ _ _ (.inl rfl)
  | vz => exact small _ _ _ _ _ _ (.inr (.inr (.inl rfl)))
  | @vs _ _ c o s ca f q1 q2 q3 q4 q5 =>
    rcases hbb with rfl | rfl | ⟨hoc, l, hl, rfl⟩
    · exact small _ _ _ _ _ _ (.inr (.inl rfl))
    · exact small _ _ _ _ _ _ (.inr (.inr (.inr rfl)))
    · by_cases he : es.length = 0
      · exact small _ _ _ _ _ _ (.inr (.inr (.inl he)))
      · by_cases hlb : lb = 0
        · exact small _ _ _ _ _ _ (.inr (.inr (.inr hlb)))
        rcases hs.blk n _ hm with ⟨l', e1, e2, e3⟩ | ⟨e1, _⟩
        · rw [hl] at e1; cases e1
          obtain ⟨arr, t', fz, z1, z2, z3, z4, z5, z6, z7⟩ := e2
          have hs0 : 0 < s := by rw [← q1 _ (List.getElem_mem (show 0 < es.length by omega))]; exact hes _ (List.getElem_mem _)
          have hp := q4 0 0 (by omega) hs0
          have hne : c ≠ l.blk := fun e => by rw [e, e3] at hp; cases hp
          have hcell := hs.prot _ _ _ hp
          have hA : ∃ arrA tA fzA, w.heap[c]? = some (.cells arrA tA fzA) ∧ arrA.size ≠ 0 := by
            unfold World.cell? at hcell
            split at hcell
            · rename_i arrA tA fzA hh
              refine ⟨arrA, tA, fzA, hh, fun h0 => ?_⟩
              rw [Array.eq_empty_of_size_eq_zero h0] at hcell
              simp at hcell
            · exact absurd hcell (by simp)
          obtain ⟨arrA, tA, fzA, hA1, hA2⟩ := hA
          have harr : arr.size ≠ 0 := by omega
          refine run_overlaps_apart' w t rt e ht j.size hz _ _ _ _ _ _ hne tA t' arrA.size arr.size (by simp [World.shape?, hA1]) (by simp [World.shape?, z1]) harr hA2 ?_ ?_
          · simp only [World.frozen?, z1]
            have := z2 (l.base + off) (.inl (by omega))
            simp only [Bool.and_eq_false_imp, decide_eq_true_eq, decide_eq_false_iff_not]; omega
          · simp only [World.frozen?, z1]
            have := z2 arr.size (.inr ⟨rfl, hbt⟩)
            simp only [Bool.and_eq_false_imp, decide_eq_true_eq, decide_eq_false_iff_not]; omega
        · rw [hl] at e1; cases e1
end Go.Abs

set_option linter.unusedVariables false
set_option linter.unusedSimpArgs false
set_option linter.unusedSectionVars false
namespace Go.Abs
variable {P : Program}
def Turns (P : Program) (r : AV) (m : Mem) (K' : AV → Mem → Prop) : Prop :=
  ∀ κ w cv, Sim P κ m w → Rel κ r cv → ∃ r' m' κ', K' r' m' ∧ Step P κ m w κ' m' w ∧ Rel κ' r' cv
theorem C.turn {f : FuncId} {args : List AV} {m : Mem} {K' : AV → Mem → Prop} (h : C P f args m (fun r m' => Turns P r m' K')) : C P f args m K' :=
  ⟨h.1, fun κ w cargs hs hr => (h.2 κ w cargs hs hr).mono fun e w' ⟨cv, r, m', κ', a, b, c, d⟩ =>
    let ⟨r2, m2, κ2, x, y, z⟩ := b κ' w' cv c.sim d; ⟨cv, r2, m2, κ2, a, x, c.trans y, z⟩⟩
theorem Turns.id {r : AV} {m : Mem} {K' : AV → Mem → Prop} (h : K' r m) : Turns P r m K' := fun κ w cv hs hr => ⟨r, m, κ, h, Step.refl hs, hr⟩
theorem Turns.nil (t : TypeId) {m : Mem} {K' : AV → Mem → Prop} (h : ∀ n, m n = none → K' (.sl n 0 0 0) (m.set n (.cells true t []))) : Turns P (.val (.slice none 0 0)) m K' := fun κ w cv hs hr => by
  obtain ⟨n, hr', hm⟩ := hs.fresh
  obtain ⟨rfl, _⟩ := hr.val_inv
  exact ⟨_, _, _, h n hm, Step.empty hs hm hr' t, .snil⟩
theorem Turns.reopen {t : TypeId} {N len c : Nat} {bt : TypeId} {cs rest : List AV} {m : Mem} {K' : AV → Mem → Prop} (hm : m N = some (.cells false bt (cs ++ rest))) (h0 : 0 < len) (hl : cs.length = len * P.cellsOf t) (hc : len ≤ c) (hrest : rest.length = (c - len) * P.cellsOf t)
    (h : ∀ n, m n = none → K' (.sl n 0 len len) ((m.del N).set n (.cells true t cs))) (hby : byteT P bt = true → byteT P t = true := by exact fun h => h) : Turns P (.sl N 0 len c) m K' := fun κ w cv hs hr => by
  cases hr with
  | snil => omega
  | szero => omega
  | @sl _ _ _ _ cap' c' o' l q1 q2 q3 q4 =>
    rcases hs.blk N _ hm with ⟨l', e1, e2, e3⟩ | ⟨e1, _⟩
    · rw [q1] at e1; cases e1
      obtain ⟨arr, t', fz, z1, z2, z3, z4, z5, z6, z7⟩ := e2
      have hext := z5 rfl
      have hcap : cap' = c := by rcases q2 with q2 | q2 <;> omega
      subst hcap
      obtain ⟨n, hrn, hn⟩ := hs.fresh
      have hmul : cap' * P.cellsOf t = len * P.cellsOf t + (cap' - len) * P.cellsOf t := by rw [← Nat.add_mul]; congr 1; omega
      rw [List.length_append] at z3
      have hst := Step.move (w' := w) (l' := ⟨l.blk, l.base, P.cellsOf t, cs.length, cap' - len⟩) hs (by rw [hm]; simp) q1 e3 hn hrn rfl (But.refl w _) (.cells true t cs)
        ⟨arr, t', fz, z1, (fun i hi => z2 i (hi.imp (fun q => q) fun hi => ⟨hi.1, by
          cases hbb : byteT P bt with
          | false => rfl
          | true => rw [hby hbb] at hi; cases hi.2⟩)), rfl, by simp only; omega, (fun h => by cases h), (fun _ => rfl), fun i hi => by
          obtain ⟨cv, y1, y2⟩ := z7 i (by simp; omega)
          refine ⟨cv, y1, ?_⟩
          rw [List.getElem_append_left hi] at y2
          exact y2.mono (K.le_add hrn)⟩
      refine ⟨_, _, _, h n hn, hst, .sl (K.add_same ..) (.inr ⟨by simp [hl], by simp only; omega⟩) (Nat.le_refl _) ?_⟩
      rcases q4 with q4 | q4
      · exact .inl q4
      · exact .inr q4
    · rw [q1] at e1; cases e1
theorem rels_retell {κ : K} {env : List AV} {ca : Array Value} (h : Rels κ env ca) (t : Nat) (ht : t < env.length) {v : AV} (hv : ∀ cv, Rel κ (nth env t) cv → Rel κ v cv) : Rels κ (upd env t v) ca := by
  have hc : t < ca.size := h.1 ▸ ht
  have := h.upd t (v := v) (cv := ca[t]) (hv _ (by rw [nth_eq, List.getElem?_eq_getElem ht]; exact h.2 t ht hc))
  have e : ca.setIfInBounds t ca[t] = ca := by
    apply Array.ext'
    rw [Array.toList_setIfInBounds, ← Array.getElem_toList]
    exact List.set_getElem_self _
  rwa [e] at this
theorem Ghosts.nil {env : List AV} {m : Mem} {K' : List AV → Mem → Prop} (t : Nat) (e : TypeId) (ht : t < env.length) (h0 : nth env t = .val (.slice none 0 0)) (h : ∀ n, m n = none → Ghosts P (upd env t (.sl n 0 0 0)) (m.set n (.cells true e [])) K') : Ghosts P env m K' := fun κ w ca hs hr => by
  obtain ⟨n, hrn, hm⟩ := hs.fresh
  have hst := Step.empty hs hm hrn e
  obtain ⟨env', m', κ', a, b, c⟩ := h n hm (κ.ghost n) w ca hst.sim (rels_retell (hr.mono hst.le) t ht (fun cv hv => by
    rw [h0] at hv
    obtain ⟨rfl, _⟩ := hv.val_inv
    exact .snil))
  exact ⟨env', m', κ', a, hst.trans b, c⟩
theorem flatten_set {s : Nat} : ∀ {es : List (List AV)} {k : Nat} {v : List AV}, (∀ e ∈ es, e.length = s) → v.length = s → k < es.length → setRange es.flatten (k * s) v = (es.set k v).flatten
  | e :: es, 0, v, h, hv, hk => by
    have he := h e (by simp)
    simp only [Nat.zero_mul, setRange, List.take_zero, List.nil_append, Nat.zero_add, List.set_cons_zero, List.flatten_cons]
    rw [hv, ← he, List.drop_left]
  | e :: es, k + 1, v, h, hv, hk => by
    have he := h e (by simp)
    have ih := flatten_set (es := es) (k := k) (fun x hx => h x (by simp [hx])) hv (by simpa using hk)
    simp only [List.set_cons_succ, List.flatten_cons]
    rw [← ih]
    unfold setRange
    have e1 : (k + 1) * s = e.length + k * s := by rw [Nat.add_mul, he]; omega
    rw [e1, List.take_append, List.drop_append, List.take_of_length_le (show e.length ≤ e.length + k * s by omega), List.drop_eq_nil_of_le (show e.length ≤ e.length + k * s + v.length by omega)]
    simp only [Nat.add_sub_cancel_left, List.nil_append, List.append_assoc]
    congr 3
    congr 1
    omega
theorem flatten_take {s : Nat} {es : List (List AV)} (h : ∀ e ∈ es, e.length = s) (k : Nat) : es.flatten.take (k * s) = (es.take k).flatten := by
  induction k generalizing es with
  | zero => simp
  | succ k ih =>
    cases es with
    | nil => simp
    | cons e es =>
      have he := h e (by simp)
      simp only [List.flatten_cons, List.take_succ_cons]
      rw [List.take_append, List.take_of_length_le (by rw [he, Nat.add_mul]; omega), show (k + 1) * s - e.length = k * s by rw [he, Nat.add_mul]; omega, ih (fun x hx => h x (by simp [hx]))]
theorem flatten_drop {s : Nat} {es : List (List AV)} (h : ∀ e ∈ es, e.length = s) (k : Nat) : es.flatten.drop (k * s) = (es.drop k).flatten := by
  induction k generalizing es with
  | zero => simp
  | succ k ih =>
    cases es with
    | nil => simp
    | cons e es =>
      have he := h e (by simp)
      simp only [List.flatten_cons, List.drop_succ_cons]
      rw [List.drop_append, List.drop_eq_nil_of_le (by rw [he, Nat.add_mul]; omega), List.nil_append, show (k + 1) * s - e.length = k * s by rw [he, Nat.add_mul]; omega, ih (fun x hx => h x (by simp [hx]))]
theorem flatten_put {s : Nat} {es ms : List (List AV)} (h : ∀ e ∈ es, e.length = s) (hm : ∀ e ∈ ms, e.length = s) {k : Nat} (hk : k + ms.length ≤ es.length) : setRange es.flatten (k * s) ms.flatten = (es.take k ++ ms ++ es.drop (k + ms.length)).flatten := by
  unfold setRange
  rw [flatten_len hm, ← Nat.add_mul, flatten_take h, flatten_drop h]
  simp
theorem src_own {xt e : TypeId} {i : TI} (hi : ti P xt = some i) (hd : i.desc = .slice e) {m : Mem} {n : Nat} {opn : Bool} {bt : TypeId} {s : Nat} {es : List (List AV)} (hm : m n = some (.cells opn bt es.flatten)) (hes : ∀ e ∈ es, e.length = s) {k q cap : Nat} (hk : k + q ≤ es.length)
    (h1 : ∀ x ∈ ((es.drop k).take q).flatten, x.one = true) : srcA P m xt s (.sl n (k * s) q cap) = some (q, ((es.drop k).take q).flatten) := by
  have hl := flatten_len hes
  have h2 : k * s + q * s ≤ es.length * s := by rw [← Nat.add_mul]; exact Nat.mul_le_mul_right _ hk
  have e : (es.flatten.drop (k * s)).take (q * s) = ((es.drop k).take q).flatten := by
    rw [flatten_drop hes, flatten_take (fun x hx => hes x (List.mem_of_mem_drop hx))]
  simp only [srcA, hi, hd, hm, e]
  rw [if_pos ⟨by omega, List.all_eq_true.2 h1⟩]
def sliceOwn (P : Program) (s : Nat) (b : Option Blk) (n off len cap : Nat) (lo hi mx : Option AV) : Option AV :=
  match b with
  | some (.cells opn bt _) => if opn = false ∨ P.cellsOf bt = s then
      (match boundsA len cap lo hi mx with
      | some (l, h, mm) => some (.sl n (off + l * s) (h - l) (mm - l))
      | none => none) else none
  | _ => none
theorem sliceA_own {t e : TypeId} {i j : TI} (ht : ti P t = some i) (hd : i.desc = .slice e) (he : ti P e = some j) (m : Mem) (n off len cap : Nat) (lo hi mx : Option AV) :
    sliceA P m t (.sl n off len cap) lo hi mx = sliceOwn P j.size (m n) n off len cap lo hi mx := by
  simp only [sliceA, ht, hd, he, sliceOwn]
  cases m n with
  | none => rfl
  | some b => cases b <;> rfl
def sliceTo (s n off : Nat) (r : Option (Nat × Nat × Nat)) : Option AV := match r with | some (l, h, mm) => some (.sl n (off + l * s) (h - l) (mm - l)) | none => none
theorem sliceTo_some (s n off l h mm : Nat) : sliceTo s n off (some (l, h, mm)) = some (.sl n (off + l * s) (h - l) (mm - l)) := rfl
theorem sliceOwn_false (s : Nat) (bt : TypeId) (cs : List AV) (n off len cap : Nat) (lo hi mx : Option AV) : sliceOwn P s (some (.cells false bt cs)) n off len cap lo hi mx = sliceTo s n off (boundsA len cap lo hi mx) := by
  simp only [sliceOwn, true_or, if_true]; rfl
theorem sliceOwn_true (s : Nat) (bt : TypeId) (cs : List AV) (n off len cap : Nat) (lo hi mx : Option AV) : sliceOwn P s (some (.cells true bt cs)) n off len cap lo hi mx = if P.cellsOf bt = s then sliceTo s n off (boundsA len cap lo hi mx) else none := by
  simp only [sliceOwn, reduceCtorEq, false_or]; rfl
theorem bnd_none (len cap : Nat) (h : len ≤ cap) : boundsA len cap none none none = some (0, len, cap) := by
  simp only [boundsA, natOf]; rw [if_pos (by simp [h])]
theorem bnd_lo (len cap : Nat) (k : IntKind) (lo : Int) (h0 : 0 ≤ lo) (h1 : lo ≤ len) (h : len ≤ cap) : boundsA len cap (some (.val (.int k lo))) none none = some (lo.toNat, len, cap) := by
  simp only [boundsA, natOf]
  rw [if_pos h0]
  simp only
  rw [if_pos (by refine ⟨by omega, h, by omega, by simp⟩)]
theorem bnd_hi (len cap : Nat) (k : IntKind) (hi : Int) (h0 : 0 ≤ hi) (h1 : hi ≤ cap) : boundsA len cap none (some (.val (.int k hi))) none = some (0, hi.toNat, cap) := by
  simp only [boundsA, natOf]
  rw [if_pos h0]
  simp only
  rw [if_pos (by refine ⟨by omega, by omega, by omega, by simp⟩)]
theorem bnd_lohi (len cap : Nat) (k k' : IntKind) (lo hi : Int) (h0 : 0 ≤ lo) (h1 : lo ≤ hi) (h2 : hi ≤ cap) : boundsA len cap (some (.val (.int k lo))) (some (.val (.int k' hi))) none = some (lo.toNat, hi.toNat, cap) := by
  simp only [boundsA, natOf]
  rw [if_pos h0, if_pos (by omega)]
  simp only
  rw [if_pos (by refine ⟨by omega, by omega, by omega, by simp⟩)]
theorem len_own {t e : TypeId} {i : TI} (ht : ti P t = some i) (hd : i.desc = .slice e) (m : Mem) (n off len cap : Nat) : lenA P m t (.sl n off len cap) = some (.val (.int .i64 len)) := by simp only [lenA, ht, hd]
theorem len_read {t e : TypeId} {i : TI} (ht : ti P t = some i) (hd : i.desc = .slice e) (m : Mem) (es : List (List AV)) (x : Bool) : lenA P m t (.vs es x) = some (.val (.int .i64 es.length)) := by simp only [lenA, ht, hd]
theorem len_nil {t e : TypeId} {i : TI} (ht : ti P t = some i) (hd : i.desc = .slice e) (m : Mem) : lenA P m t (.val (.slice none 0 0)) = some (.val (.int .i64 0)) := by simp only [lenA, ht, hd]
theorem len_str {t : TypeId} {i : TI} (ht : ti P t = some i) (hd : i.desc = .string) (m : Mem) (s : ByteArray) : lenA P m t (.val (.string s)) = some (.val (.int .i64 s.size)) := by simp only [lenA, ht, hd]
theorem index_own {t e : TypeId} {i j : TI} (ht : ti P t = some i) (hd : i.desc = .slice e) (he : ti P e = some j) (n off len cap : Nat) (kk : IntKind) (k : Int) (h0 : 0 ≤ k) (h1 : k < len) :
    indexAddrA P t (.sl n off len cap) (.val (.int kk k)) = some (.ptr n (off + k.toNat * j.size)) := by
  simp only [indexAddrA, ht, hd, he]
  rw [if_pos ⟨h0, h1⟩]
def capOwn (b : Option Blk) (cap : Nat) : Option AV := match b with | some (.cells false _ _) => some (.val (.int .i64 cap)) | _ => none
theorem capOwn_false (bt : TypeId) (cs : List AV) (cap : Nat) : capOwn (some (.cells false bt cs)) cap = some (.val (.int .i64 cap)) := rfl
theorem cap_own {t e : TypeId} {i : TI} (ht : ti P t = some i) (hd : i.desc = .slice e) (m : Mem) (n off len cap : Nat) : capA P m t (.sl n off len cap) = capOwn (m n) cap := by
  simp only [capA, ht, hd, capOwn]
  cases m n with
  | none => rfl
  | some b => cases b <;> first | rfl | (rename_i o _ _; cases o <;> rfl)
theorem setRange_cons (x : AV) (l : List AV) (off : Nat) (vs : List AV) : setRange (x :: l) off vs = (x :: l).take off ++ vs ++ (x :: l).drop (off + vs.length) := rfl
theorem Mem.del_at (m : Mem) (n k : Nat) : m.del n k = if k = n then none else m k := rfl
theorem if_le {α : Type} {a b : Nat} [inst : Decidable (a ≤ b)] {x y : α} (h : a ≤ b) : (if a ≤ b then x else y) = x := if_pos h
theorem Mem.del_set_eq (m : Mem) (n : Nat) (b : Blk) : (m.set n b).del n = m.del n := by
  funext k; unfold Mem.del Mem.set; split <;> rfl
theorem Mem.del_set_ne (m : Mem) (n c : Nat) (b : Blk) (h : n ≠ c) : (m.set n b).del c = (m.del c).set n b := by
  funext k; unfold Mem.del Mem.set
  by_cases h1 : k = c
  · subst h1; simp [Ne.symm h]
  · simp [h1]
theorem nomem_del (c : Nat) : nomem.del c = nomem := by funext k; unfold Mem.del nomem; simp
theorem setRange_nil (l : List AV) (off : Nat) : setRange l off [] = l := by simp [setRange]
theorem Mem.set_id {m : Mem} {n : Nat} {b : Blk} (h : m n = some b) : m.set n b = m := by
  funext k; unfold Mem.set; split
  · rename_i e; rw [e, h]
  · rfl
theorem copy_own {t xt e : TypeId} {i j : TI} (ht : ti P t = some i) (hd : i.desc = .slice e) (he : ti P e = some j) {m : Mem} {n off len cap : Nat} {x : AV} {opn : Bool} {bt : TypeId} {cs src : List AV} {k q : Nat} (hm : m n = some (.cells opn bt cs)) (hk : lenS x = some k)
    (hs : srcA P m xt j.size (truncA (min k len) x) = some (q, src)) (hl : src.length = min k len * j.size) (hfit : off + len * j.size ≤ cs.length) {K : Nat × Mem → Prop} {h : Hid K} (hK : K (min k len, m.set n (.cells opn bt (setRange cs off src)))) :
    got (copyA P m t xt (.sl n off len cap) x) (hid K h) := by
  have : copyA P m t xt (.sl n off len cap) x = some (min k len, m.set n (.cells opn bt (setRange cs off src))) := by
    simp only [copyA, ht, hd, he, hk]
    by_cases h0 : min k len = 0
    · rw [if_pos h0, h0]
      rw [h0, Nat.zero_mul] at hl
      rw [List.eq_nil_of_length_eq_zero hl, setRange_nil, Mem.set_id hm]
    · rw [if_neg h0]
      simp only [hm, hs]
      rw [if_pos hfit]
  rw [this]; exact hK
theorem copy_rows {t xt e : TypeId} {i j : TI} (ht : ti P t = some i) (hd : i.desc = .slice e) (he : ti P e = some j) {m : Mem} {n k len cap : Nat} {x : AV} {opn : Bool} {bt : TypeId} {es ms : List (List AV)} {q : Nat} (hm : m n = some (.cells opn bt es.flatten)) (hes : ∀ e ∈ es, e.length = j.size)
    (hfit : k + len ≤ es.length) (hk : lenS x = some q) (hs : srcA P m xt j.size (truncA (min q len) x) = some (min q len, ms.flatten)) (hms : ∀ e ∈ ms, e.length = j.size) (hml : ms.length = min q len) {K : Nat × Mem → Prop} {h : Hid K}
    (hK : K (ms.length, m.set n (.cells opn bt (es.take k ++ ms ++ es.drop (k + ms.length)).flatten))) : got (copyA P m t xt (.sl n (k * j.size) len cap) x) (hid K h) := by
  have hle : ms.length ≤ len := by rw [hml]; exact Nat.min_le_right _ _
  refine copy_own ht hd he hm hk hs (by rw [flatten_len hms, hml]) (by rw [← Nat.add_mul, flatten_len hes]; exact Nat.mul_le_mul_right _ hfit) ?_
  rw [flatten_put hes hms (by omega), ← hml]
  exact hK
theorem shr_half64' (x : Int) : x.fdiv (2 ^ min 1 IntKind.u64.bits) = x / 2 := shr_half64 x
theorem toNat_add (a b : Nat) : ((a : Int) + (b : Int)).toNat = a + b := by omega
theorem toNat_add1 (a : Nat) : ((a : Int) + 1).toNat = a + 1 := by omega
theorem toNat_sub1 (a : Nat) : ((a : Int) - 1).toNat = a - 1 := by omega
theorem toNat_sub (a b : Nat) : ((a : Int) - (b : Int)).toNat = a - b := by omega
theorem row_len' {α : Type} (f : α → List AV) {s : Nat} (hf : ∀ a, (f a).length = s) (l : List α) : (l.map f).flatten.length = l.length * s := by
  rw [flatten_len (fun e he => by obtain ⟨a, _, rfl⟩ := List.mem_map.1 he; exact hf a)]; simp
section
variable {α : Type} [Inhabited α] (f : α → List AV) {s : Nat} (hf : ∀ a, (f a).length = s) (l : List α)
include hf
theorem row_all : ∀ e ∈ l.map f, e.length = s := fun e he => by obtain ⟨a, _, rfl⟩ := List.mem_map.1 he; exact hf a
theorem row_len : (l.map f).flatten.length = l.length * s := by rw [flatten_len (row_all f hf l)]; simp
theorem row_part {k : Nat} (hk : k < l.length) : ((l.map f).flatten.drop (k * s)).take s = f (l.getD k default) := by
  rw [flatten_drop (row_all f hf l), ← List.map_drop, List.drop_eq_getElem_cons hk, List.map_cons, List.flatten_cons]
  rw [List.take_append_of_le_length (by rw [hf]; omega), List.take_of_length_le (by rw [hf]; omega)]
  simp [List.getD_eq_getElem?_getD, hk]
theorem row_in {k j : Nat} (hk : k < l.length) (hj : j ≤ s) : k * s + j ≤ (l.map f).flatten.length := by
  have h1 : (k + 1) * s ≤ l.length * s := Nat.mul_le_mul_right _ hk
  rw [Nat.add_mul] at h1
  rw [row_len f hf]; omega
theorem row_set {k : Nat} (hk : k < l.length) (b : α) : setRange (l.map f).flatten (k * s) (f b) = ((l.set k b).map f).flatten := by
  rw [flatten_set (row_all f hf l) (hf b) (by simpa using hk), List.map_set]
end
structure SlT (P : Program) (t e : TypeId) (j : TI) (z : List AV) : Prop where
  ht : ∃ i, ti P t = some i ∧ i.desc = .slice e
  he : ti P e = some j
  hz : zeroA P e = some z
  zl : z.length = j.size
  zo : z.all AV.one = true
  pos : 0 < j.size
  bpos : 0 < j.bytes
section
variable {t e : TypeId} {j : TI} {z : List AV} (T : SlT P t e j z)
include T
theorem SlT.sl (m : Mem) (n off len cap : Nat) (lo hi mx : Option AV) : sliceA P m t (.sl n off len cap) lo hi mx = sliceOwn P j.size (m n) n off len cap lo hi mx := let ⟨_, a, b⟩ := T.ht; sliceA_own a b T.he m n off len cap lo hi mx
theorem SlT.len (m : Mem) (n off len cap : Nat) : lenA P m t (.sl n off len cap) = some (.val (.int .i64 len)) := let ⟨_, a, b⟩ := T.ht; len_own a b m n off len cap
theorem SlT.lenr (m : Mem) (es : List (List AV)) (x : Bool) : lenA P m t (.vs es x) = some (.val (.int .i64 es.length)) := let ⟨_, a, b⟩ := T.ht; len_read a b m es x
theorem SlT.cap (m : Mem) (n off len cap : Nat) : capA P m t (.sl n off len cap) = capOwn (m n) cap := let ⟨_, a, b⟩ := T.ht; cap_own a b m n off len cap
theorem SlT.ix (n off len cap : Nat) (kk : IntKind) (k : Int) (h0 : 0 ≤ k) (h1 : k < len) : indexAddrA P t (.sl n off len cap) (.val (.int kk k)) = some (.ptr n (off + k.toNat * j.size)) := let ⟨_, a, b⟩ := T.ht; index_own a b T.he n off len cap kk k h0 h1
theorem SlT.cs : P.cellsOf e = j.size := cellsOf_ti T.he
theorem SlT.app : AppT P t t e j z := let ⟨i, a, b⟩ := T.ht; ⟨⟨i, a, b⟩, ⟨i, a, .inl ⟨_, b⟩⟩, T.he, T.hz, T.zl, T.pos, T.bpos⟩
theorem SlT.appz {xt : TypeId} {ix : TI} {k : IntKind} (hx : ti P xt = some ix) (hd : ix.desc = .int k) : AppT P t xt e j z := ⟨T.ht, ⟨ix, hx, .inr (.inr ⟨_, hd⟩)⟩, T.he, T.hz, T.zl, T.pos, T.bpos⟩
theorem SlT.lit0 : litA P t 0 [] = some (e, j.size, []) := by
  obtain ⟨i, a, b⟩ := T.ht
  simp only [litA, a, b, T.he, T.hz]
  rw [if_pos ⟨T.zl, T.pos, by omega⟩]
  simp [fillA]
theorem SlT.src {α : Type} {F : α → List AV} (hF : ∀ a, (F a).length = j.size ∧ (F a).all AV.one = true) (m : Mem) (l : List α) (x : Bool) : srcA P m t j.size (.vs (l.map F) x) = some (l.length, (l.map F).flatten) := let ⟨i, a, b⟩ := T.ht; src_vs F a b hF m l x
theorem SlT.nil {op : BinOp} {x : AV} {K : AV → Prop} {h : Hid K} (hop : op = .eql ∨ op = .neq) (hx : (∃ es ex, x = .vs es ex) ∨ ∃ n off len cap, x = .sl n off len cap) (hk : ∀ b, K (.val (.bool b))) :
    binK P op t x (.val (.slice none 0 0)) (cmpA P t op x (.val (.slice none 0 0))) (hid K h) := let ⟨_, a, b⟩ := T.ht; nil_any a b hop hx hk
theorem SlT.notNil (es : List (List AV)) (x : Bool) (h : 0 < es.length) : cmpA P t .eql (.vs es x) (.val (.slice none 0 0)) = some (.val (.bool false)) := by
  obtain ⟨i, a, b⟩ := T.ht
  simp only [cmpA, a, b, binA, nilBin, isNilA, if_pos h]
theorem SlT.notNilC (y : List AV) (es : List (List AV)) (x : Bool) : cmpA P t .eql (.vs (y :: es) x) (.val (.slice none 0 0)) = some (.val (.bool false)) := T.notNil (y :: es) x (Nat.zero_lt_succ _)
theorem SlT.copy {xt : TypeId} {m : Mem} {n k len cap : Nat} {x : AV} {opn : Bool} {bt : TypeId} {es ms : List (List AV)} {q : Nat} (hm : m n = some (.cells opn bt es.flatten)) (hes : ∀ e ∈ es, e.length = j.size)
    (hfit : k + len ≤ es.length) (hk : lenS x = some q) (hs : srcA P m xt j.size (truncA (min q len) x) = some (min q len, ms.flatten)) (hms : ∀ e ∈ ms, e.length = j.size) (hml : ms.length = min q len) {K : Nat × Mem → Prop} {h : Hid K}
    (hK : K (ms.length, m.set n (.cells opn bt (es.take k ++ ms ++ es.drop (k + ms.length)).flatten))) : got (copyA P m t xt (.sl n (k * j.size) len cap) x) (hid K h) := let ⟨_, a, b⟩ := T.ht; copy_rows a b T.he hm hes hfit hk hs hms hml hK
theorem SlT.srcOwn {m : Mem} {n : Nat} {opn : Bool} {bt : TypeId} {es : List (List AV)} (hm : m n = some (.cells opn bt es.flatten)) (hes : ∀ e ∈ es, e.length = j.size) {k q cap : Nat} (hk : k + q ≤ es.length)
    (h1 : ∀ x ∈ ((es.drop k).take q).flatten, x.one = true) : srcA P m t j.size (.sl n (k * j.size) q cap) = some (q, ((es.drop k).take q).flatten) := let ⟨_, a, b⟩ := T.ht; src_own a b hm hes hk h1
end
structure Is (P : Program) (f : FuncId) (lc : LC) (n : Nat) (rs : List ResultVar) : Prop where
  ex : ∃ fn, P.funcs[f]? = some fn ∧ fn.body.map leanC = some lc ∧ fn.ntmps = n ∧ fn.results.toList = rs ∧ (fn.name == "runtime.NumGoroutine") = false
  mixed : P.follows .mixedOrders = true
theorem C.of_is {f : FuncId} {lc : LC} {n : Nat} {rs : List ResultVar} (h : Is P f lc n rs) {args env : List AV} {m : Mem} {K' : AV → Mem → Prop} (he : args ++ List.replicate (n - args.length) (.tup []) = env)
    (hV : V P none lc (fun e env m => endK e (got (resL P m env rs) (hid (fun r => K' r m) .mk))) env m) : C P f args m K' := by
  obtain ⟨⟨fn, h1, h2, h3, h4, h5⟩, hm⟩ := h
  refine C.of_code h1 h2 h3 rfl h5 hm he ?_
  rw [h4]
  exact hV
theorem F.of_is {f : FuncId} {lc : LC} {n : Nat} {rs : List ResultVar} (h : Is P f lc n rs) {args env : List AV} {R : AV} (he : args ++ List.replicate (n - args.length) (.tup []) = env)
    (hV : V P none lc (fun e env m => endK e (got (resL P m env rs) (hid (fun r => New m r R) .mk))) env nomem) : F P f args R := F.of_C (C.of_is h he hV)
theorem Is.fn {f : FuncId} {lc : LC} {n : Nat} {rs : List ResultVar} (h : Is P f lc n rs) : IsFn P f := by
  obtain ⟨⟨fn, h1, h2, h3, h4, h5⟩, hm⟩ := h
  refine ⟨fn, h1, ?_, h5⟩
  cases hb : fn.body with
  | none => rw [hb] at h2; cases h2
  | some c => rfl
theorem New.eq {m : Mem} {x R : AV} (h : x = R) (hf : x.flat = true) : New m x R := h ▸ New.flat hf
end Go.Abs

set_option linter.unusedVariables false
set_option linter.unusedSimpArgs false
namespace Go.Abs
variable {P : Program}
theorem Turns.sub {r : AV} {m m' : Mem} {K' : AV → Mem → Prop} (hm : m'.sub m) (h : K' r m') : Turns P r m K' := fun κ w cv hs hr => ⟨r, m', κ, h, (Step.refl hs).sub hm, hr⟩
theorem Y.less {n : Nat} {args : List AV} {m M : Mem} {K' : AV → Mem → Prop} (h : Y P n args m K') (hsub : m.sub M) : Y P n args M K' :=
  fun κ w l cargs hs hl hr => let ⟨f, t, a, b, h1, h2⟩ := h κ w l cargs (hs.sub hsub) hl hr
    ⟨f, t, a, b, h1, h2.mono fun e w' ⟨cv, r, m', κ', a, b, c, d⟩ => ⟨cv, r, m', κ', a, b, c.less hsub hs, d⟩⟩
theorem C.less {f : FuncId} {args : List AV} {m M : Mem} {K' : AV → Mem → Prop} (h : C P f args m K') (hsub : m.sub M) : C P f args M K' :=
  ⟨h.1, fun κ w cargs hs hr => (h.2 κ w cargs (hs.sub hsub) hr).mono fun e w' ⟨cv, r, m', κ', a, b, c, d⟩ => ⟨cv, r, m', κ', a, b, c.less hsub hs, d⟩⟩
theorem Mem.del_none {m : Mem} {n : Nat} (h : m n = none) : m.del n = m := by
  funext k; unfold Mem.del; split
  · rename_i e; rw [e, h]
  · rfl
theorem Mem.sub_del {m M : Mem} {n : Nat} (hs : m.sub M) (h : m n = none) : m.sub (M.del n) := fun k b hk => by
  unfold Mem.del
  split
  · rename_i e; rw [e, h] at hk; cases hk
  · exact hs k b hk
theorem Mem.set_mono {m M : Mem} {n : Nat} {b : Blk} (hs : m.sub M) : (m.set n b).sub (M.set n b) := fun k b' hk => by
  unfold Mem.set at *
  split at hk
  · rename_i e; rw [if_pos e]; exact hk
  · rename_i e; rw [if_neg e]; exact hs k b' hk
theorem Mem.sub_set_new {m M : Mem} {n : Nat} {b : Blk} (hs : m.sub M) (h : m n = none) : m.sub (M.set n b) := fun k b' hk => by
  unfold Mem.set
  split
  · rename_i e; rw [e, h] at hk; cases hk
  · exact hs k b' hk
theorem yield_on {n : Nat} {args : List AV} {mI m : Mem} {K' K'' : AV → Mem → Prop} {x : Hid K'} (h : Y P n args mI K'') (hsub : mI.sub m)
    (hk : ∀ r m' M', K'' r m' → m'.sub M' → (∀ q b, mI q = none → m q = some b → m' q = none ∧ M' q = some b) → K' r M') : Y P n args m (hid K' x) :=
  (h.frame hsub).mono fun r M' ⟨m', h1, h2, h3⟩ => by
    subst h3
    refine hk r m' _ h1 (fun q b hq => Mem.plus_some hq) fun q b hq hb => ?_
    have : m' q = none := by
      cases hm : m' q with
      | none => rfl
      | some b' => have := h2 q hq (by rw [hm]; simp); rw [hb] at this; cases this
    exact ⟨this, by rw [Mem.plus_none this hq]; exact hb⟩
def Iter (P : Program) (f : FuncId) (first caps : List AV) (mB : Mem) (L : List (List AV)) : Prop :=
  ∀ (n : Nat) (M : Mem) (I : Nat → Mem → Prop) (S : Mem → Prop) (K' : AV → Mem → Prop), mB.sub M → I 0 M →
    (∀ k (h : k < L.length) m, I k m → Y P n L[k] m (fun r m' => (r = .val (.bool true) ∧ I (k + 1) m') ∨ (r = .val (.bool false) ∧ S m'))) →
    (∀ m, I L.length m → K' (.tup []) m) → (∀ m, S m → K' (.tup []) m) → C P f (first ++ [.yld n] ++ caps) M K'
def roundV (n : Nat) (env : List AV) (ps : Array Tmp) (asg body : Code) (J' : Mem → Prop) (Q : Exit → List AV → Mem → Prop) (e : Exit) (_ : List AV) (m3 : Mem) : Prop :=
  m3 n = some (.loop .busy none env ps asg body) ∧ match e with
    | .normal => ∃ m1, m1.sub (m3.del n) ∧ J' m1
    | .ret => Q .ret env (m3.del n)
    | .exit id => Q (.exit id) env (m3.del n)
    | .goto t => Q (.goto t) env (m3.del n)
    | _ => False
section
variable {n : Nat} {env : List AV} {ps : Array Tmp} {asg body : Code} {J' : Mem → Prop} {Q : Exit → List AV → Mem → Prop} {env3 : List AV} {m3 : Mem}
theorem roundV_normal : roundV n env ps asg body J' Q .normal env3 m3 = (m3 n = some (.loop .busy none env ps asg body) ∧ ∃ m1, m1.sub (m3.del n) ∧ J' m1) := rfl
theorem roundV_ret : roundV n env ps asg body J' Q .ret env3 m3 = (m3 n = some (.loop .busy none env ps asg body) ∧ Q .ret env (m3.del n)) := rfl
end
theorem range_iter {rd : Option Nat} {f : FuncId} {first caps : List AV} {L : List (List AV)} {ps : Array Tmp} {asg body : Code} {la lb : LC} {Q : Exit → List AV → Mem → Prop} {x : Hid Q} {env : List AV} {m : Mem} (hm : P.follows .mixedOrders = true) (ha : leanC asg = la) (hb : leanC body = lb)
    {mB : Mem} (hI : Iter P f first caps mB L) (hB : mB.sub m) (hps : ∀ l ∈ L, l.length = ps.size) (hrd : ∀ n, rd = some n → ∃ st pend env ps asg body, m n = some (.loop st pend env ps asg body)) (J : Nat → Mem → Prop) (m0 : Mem) (hsub : m0.sub m) (h0 : J 0 m0)
    (hbody : ∀ k (hk : k < L.length) n m1, J k m1 → m1 n = none → V P (some n) la (fun e env1 m2 => e = .normal ∧ m2 n = some (.loop .ready none env ps asg body) ∧ V P (some n) lb (roundV n env ps asg body (J (k + 1)) (hid Q .mk)) env1 (m2.set n (.loop .busy none env ps asg body)))
      (startA env ps L[k]) (m1.set n (.loop .ready none env ps asg body)))
    (hend : ∀ m1, J L.length m1 → Q .normal env m1) : rangeV P rd (.fn (.func f) first caps) ps asg body (hid Q x) env m := by
  refine range_intro hrd fun n hn => C.turn ?_
  refine hI n _ (fun k M => ∃ m1, J k m1 ∧ m1 n = none ∧ (m1.set n (.loop .ready none env ps asg body)).sub M) (fun M => rangeK n env ps asg body Q M) _ (Mem.sub_set_new hB ?_) ?_ ?_ ?_ ?_
  · cases h : mB n with
    | none => rfl
    | some b => have := hB n b h; rw [hn] at this; cases this
  · have hm0 : m0 n = none := by
      cases h : m0 n with
      | none => rfl
      | some b => have := hsub n b h; rw [hn] at this; cases this
    exact ⟨m0, h0, hm0, Mem.set_mono hsub⟩
  · rintro k hk M ⟨m1, hJ, h1, hs1⟩
    refine Y.less ?_ hs1
    refine Y.of_W (env := env) (ps := ps) (asg := asg) (body := body) (Mem.set_same _ _ _) (hps _ (List.getElem_mem hk)) ?_
    have hV := hbody k hk n m1 hJ h1
    subst ha hb
    refine (W.of_V hm asg _ _ _ hV).mono fun e env1 m2 ⟨a, b, c⟩ => ⟨a, b, (W.of_V hm body _ _ _ c).mono fun e2 env2 m3 h => ?_⟩
    obtain ⟨g1, g2⟩ := h
    refine ⟨g1, ?_⟩
    cases e2 with
    | normal =>
      obtain ⟨m4, q1, q2⟩ := g2
      have h4 : m4 n = none := by
        cases h : m4 n with
        | none => rfl
        | some b => have := q1 n b h; rw [Mem.del_same] at this; cases this
      refine .inl ⟨rfl, m4, q2, h4, fun k' b' hk' => ?_⟩
      unfold Mem.set at hk' ⊢
      split at hk'
      · rename_i e; rw [if_pos e]; exact hk'
      · rename_i e; rw [if_neg e]; exact Mem.del_sub m3 n _ _ (q1 _ _ hk')
    | ret => exact .inr ⟨rfl, .done, some .ret, Mem.set_same _ _ _, rfl, by rw [Mem.del_set_eq]; exact g2⟩
    | exit id => exact .inr ⟨rfl, .done, some (.exit id), Mem.set_same _ _ _, rfl, by rw [Mem.del_set_eq]; exact g2⟩
    | goto t => exact .inr ⟨rfl, .done, some (.goto t), Mem.set_same _ _ _, rfl, by rw [Mem.del_set_eq]; exact g2⟩
    | panic c => exact g2.elim
    | outgrown => exact g2.elim
  · rintro M ⟨m1, hJ, h1, hs1⟩
    refine Turns.sub hs1 ⟨.ready, none, Mem.set_same _ _ _, rfl, ?_⟩
    rw [Mem.del_set_eq, Mem.del_none h1]
    exact hend m1 hJ
  · intro M hM
    exact Turns.id hM
end Go.Abs

set_option maxRecDepth 100000
namespace Go.Abs
theorem rulesA : type_of% (And.intro @V_ops (And.intro @V_any (And.intro @V_skip (And.intro @V_label (And.intro @V_ret (And.intro @V_exit (And.intro @V_seq (And.intro @V_cond (And.intro @V_block (And.intro @V_loop (And.intro @V_range (And.intro @V_scope (And.intro @noGo_normal (And.intro @noGo_ret (And.intro @noGo_exit (And.intro @condK_bool (And.intro @andThen_normal (And.intro @andThen_ret (And.intro @andThen_exit (And.intro @inBlk_normal (And.intro @inBlk_ret (And.intro @inBlk_exit (And.intro @endK_ret (And.intro @endK_normal (And.intro @resL_one (And.intro @resL_nil (And.intro @resL_two (And.intro @planK_nil (And.intro @planK_first (And.intro @planK_only (And.intro @planK_adds (And.intro @firstK_move (And.intro @firstK_assign (And.intro @firstK_pick (And.intro @firstK_load (And.intro @firstK_nilCheck (And.intro @firstK_arrPtr (And.intro @firstK_bin (And.intro @firstK_un (And.intro @firstK_convert (And.intro @firstK_iface (And.intro @firstK_fn (And.intro @firstK_slice (And.intro @firstK_fieldAddr (And.intro @firstK_field (And.intro @firstK_indexAddr (And.intro @firstK_index (And.intro @firstK_build (And.intro @firstK_extract (And.intro @firstK_len (And.intro @firstK_min (And.intro @firstK_max (And.intro @firstK_lookup (And.intro @firstK_call (And.intro @stepsK_cons (And.intro @stepsK_nil (And.intro @onK_none (And.intro @onK_some (And.intro @opK_move (And.intro @opK_assign (And.intro @opK_pick (And.intro @opK_load (And.intro @opK_nilCheck (And.intro @opK_arrPtr (And.intro @opK_bin (And.intro @opK_un (And.intro @opK_convert (And.intro @opK_iface (And.intro @opK_fn (And.intro @opK_slice (And.intro @opK_fieldAddr (And.intro @opK_field (And.intro @opK_indexAddr (And.intro @opK_index (And.intro @opK_build (And.intro @opK_extract (And.intro @opK_len (And.intro @opK_min (And.intro @opK_max (And.intro @opK_store (And.intro @opK_alloc (And.intro @opK_box (And.intro @opK_call (And.intro @opK_append (And.intro @opK_makeSlice (And.intro @opK_copy (And.intro @opK_cap (And.intro @opK_clear (And.intro @opK_lookup (And.intro @opK_mapPut (And.intro @opK_makeMap (And.intro @opK_lit (And.intro @binK_some (And.intro @convK_some (And.intro @got_some (And.intro @ifK_true (And.intro @ifK_false (And.intro @onB_bool (@onB_off))))))))))))))))))))))))))))))))))))))))))))))))))))))))))))))))))))))))))))))))))))))))))))))))))) := And.intro @V_ops (And.intro @V_any (And.intro @V_skip (And.intro @V_label (And.intro @V_ret (And.intro @V_exit (And.intro @V_seq (And.intro @V_cond (And.intro @V_block (And.intro @V_loop (And.intro @V_range (And.intro @V_scope (And.intro @noGo_normal (And.intro @noGo_ret (And.intro @noGo_exit (And.intro @condK_bool (And.intro @andThen_normal (And.intro @andThen_ret (And.intro @andThen_exit (And.intro @inBlk_normal (And.intro @inBlk_ret (And.intro @inBlk_exit (And.intro @endK_ret (And.intro @endK_normal (And.intro @resL_one (And.intro @resL_nil (And.intro @resL_two (And.intro @planK_nil (And.intro @planK_first (And.intro @planK_only (And.intro @planK_adds (And.intro @firstK_move (And.intro @firstK_assign (And.intro @firstK_pick (And.intro @firstK_load (And.intro @firstK_nilCheck (And.intro @firstK_arrPtr (And.intro @firstK_bin (And.intro @firstK_un (And.intro @firstK_convert (And.intro @firstK_iface (And.intro @firstK_fn (And.intro @firstK_slice (And.intro @firstK_fieldAddr (And.intro @firstK_field (And.intro @firstK_indexAddr (And.intro @firstK_index (And.intro @firstK_build (And.intro @firstK_extract (And.intro @firstK_len (And.intro @firstK_min (And.intro @firstK_max (And.intro @firstK_lookup (And.intro @firstK_call (And.intro @stepsK_cons (And.intro @stepsK_nil (And.intro @onK_none (And.intro @onK_some (And.intro @opK_move (And.intro @opK_assign (And.intro @opK_pick (And.intro @opK_load (And.intro @opK_nilCheck (And.intro @opK_arrPtr (And.intro @opK_bin (And.intro @opK_un (And.intro @opK_convert (And.intro @opK_iface (And.intro @opK_fn (And.intro @opK_slice (And.intro @opK_fieldAddr (And.intro @opK_field (And.intro @opK_indexAddr (And.intro @opK_index (And.intro @opK_build (And.intro @opK_extract (And.intro @opK_len (And.intro @opK_min (And.intro @opK_max (And.intro @opK_store (And.intro @opK_alloc (And.intro @opK_box (And.intro @opK_call (And.intro @opK_append (And.intro @opK_makeSlice (And.intro @opK_copy (And.intro @opK_cap (And.intro @opK_clear (And.intro @opK_lookup (And.intro @opK_mapPut (And.intro @opK_makeMap (And.intro @opK_lit (And.intro @binK_some (And.intro @convK_some (And.intro @got_some (And.intro @ifK_true (And.intro @ifK_false (And.intro @onB_bool (@onB_off))))))))))))))))))))))))))))))))))))))))))))))))))))))))))))))))))))))))))))))))))))))))))))))))))
theorem rulesB : type_of% (And.intro @orT_some (And.intro @orT_text (And.intro @seeE_go (And.intro @CW_func (And.intro @CW_yld (And.intro @PureCV_func (And.intro @wantB_true (And.intro @wantB_false (And.intro @resOne_tmp (And.intro @resOne_cell (And.intro @two_some (And.intro @pickA_bool (And.intro @moveA_ptr (And.intro @moveA_vp (And.intro @extractA_tup (And.intro @nth_upd (And.intro @pickB_true (And.intro @pickB_false (And.intro @inB_lt (And.intro @upd_len (And.intro @wrap_i64 (And.intro @wrap_u64 (And.intro @shr_half64 (And.intro @shr_half64' (And.intro @evA_tmp (And.intro @evA_int (And.intro @evA_bool (And.intro @evA_str (And.intro @evA_nilS (And.intro @evA_nilP (And.intro @evA_nilI (And.intro @evA_nilF (And.intro @evA_func (And.intro @loadOne_ptr (And.intro @loadOne_vp (And.intro @loadAgg_ptr (And.intro @loadAgg_vp (And.intro @cells_val (And.intro @cells_vs (And.intro @cells_vp (And.intro @cells_ptr (And.intro @cells_sl (And.intro @cells_fn (And.intro @cells_yld (And.intro @cells_map (And.intro @cells_agg (And.intro @sub_self (And.intro @keeps_self (And.intro @Mem.set_set (And.intro @Mem.set_same (And.intro @Mem.set_at (And.intro @Mem.del_at (And.intro @Mem.del_set_eq (And.intro @Mem.del_set_ne (And.intro @nomem_del (And.intro @if_le (And.intro @fresh_set (And.intro @cmpA_ii (And.intro @cmpA_ss (And.intro @cmpA_bb (And.intro @onTi_some (And.intro @setRange_cons (And.intro @chunk_one (And.intro @chunk_zero (And.intro @capOwn_false (And.intro @sliceOwn_false (And.intro @sliceOwn_true (And.intro @sliceTo_some (And.intro @bnd_none (And.intro @bnd_lo (And.intro @bnd_hi (And.intro @bnd_lohi (And.intro @toNat_add (And.intro @toNat_add1 (And.intro @toNat_sub1 (And.intro @toNat_sub (And.intro @got_some (And.intro @binK_some (And.intro @ifK_true (And.intro @ifK_false (And.intro @onB_bool (And.intro @onB_off (@condK_bool))))))))))))))))))))))))))))))))))))))))))))))))))))))))))))))))))))))))))))))))))) := And.intro @orT_some (And.intro @orT_text (And.intro @seeE_go (And.intro @CW_func (And.intro @CW_yld (And.intro @PureCV_func (And.intro @wantB_true (And.intro @wantB_false (And.intro @resOne_tmp (And.intro @resOne_cell (And.intro @two_some (And.intro @pickA_bool (And.intro @moveA_ptr (And.intro @moveA_vp (And.intro @extractA_tup (And.intro @nth_upd (And.intro @pickB_true (And.intro @pickB_false (And.intro @inB_lt (And.intro @upd_len (And.intro @wrap_i64 (And.intro @wrap_u64 (And.intro @shr_half64 (And.intro @shr_half64' (And.intro @evA_tmp (And.intro @evA_int (And.intro @evA_bool (And.intro @evA_str (And.intro @evA_nilS (And.intro @evA_nilP (And.intro @evA_nilI (And.intro @evA_nilF (And.intro @evA_func (And.intro @loadOne_ptr (And.intro @loadOne_vp (And.intro @loadAgg_ptr (And.intro @loadAgg_vp (And.intro @cells_val (And.intro @cells_vs (And.intro @cells_vp (And.intro @cells_ptr (And.intro @cells_sl (And.intro @cells_fn (And.intro @cells_yld (And.intro @cells_map (And.intro @cells_agg (And.intro @sub_self (And.intro @keeps_self (And.intro @Mem.set_set (And.intro @Mem.set_same (And.intro @Mem.set_at (And.intro @Mem.del_at (And.intro @Mem.del_set_eq (And.intro @Mem.del_set_ne (And.intro @nomem_del (And.intro @if_le (And.intro @fresh_set (And.intro @cmpA_ii (And.intro @cmpA_ss (And.intro @cmpA_bb (And.intro @onTi_some (And.intro @setRange_cons (And.intro @chunk_one (And.intro @chunk_zero (And.intro @capOwn_false (And.intro @sliceOwn_false (And.intro @sliceOwn_true (And.intro @sliceTo_some (And.intro @bnd_none (And.intro @bnd_lo (And.intro @bnd_hi (And.intro @bnd_lohi (And.intro @toNat_add (And.intro @toNat_add1 (And.intro @toNat_sub1 (And.intro @toNat_sub (And.intro @got_some (And.intro @binK_some (And.intro @ifK_true (And.intro @ifK_false (And.intro @onB_bool (And.intro @onB_off (@condK_bool))))))))))))))))))))))))))))))))))))))))))))))))))))))))))))))))))))))))))))))))))
theorem rulesC : type_of% (And.intro @List.all_cons.{0} (And.intro @List.all_nil.{0} (And.intro @Bool.and_true (And.intro @Bool.true_and (And.intro @Bool.and_self (And.intro @Bool.false_and (And.intro @Bool.and_false (And.intro @Bool.or_false (And.intro @Bool.false_or (And.intro @Bool.true_or (And.intro @Bool.or_true (And.intro @if_true.{1} (And.intro @if_false.{1} (And.intro @beq_self_eq_true.{0} (And.intro @not_true_eq_false (And.intro @not_false_eq_true (And.intro @List.getElem?_cons_zero.{0} (And.intro @List.getElem?_cons_succ.{0} (And.intro @List.length_cons.{0} (And.intro @List.length_nil.{0} (And.intro @List.drop_zero.{0} (And.intro @List.drop_succ_cons.{0} (And.intro @List.take_succ_cons.{0} (And.intro @List.take_zero.{0} (And.intro @List.cons_append.{0} (And.intro @List.nil_append.{0} (And.intro @List.append_nil.{0} (And.intro @Nat.zero_add (And.intro @Nat.add_zero (And.intro @Nat.zero_mul (And.intro @Nat.sub_zero (And.intro @List.map_cons.{0, 0} (And.intro @List.map_nil.{0, 0} (And.intro @List.replicate_succ.{0} (And.intro @List.replicate_zero.{0} (And.intro @true_and (And.intro @and_true (And.intro @decide_eq_true_eq (And.intro @Bool.false_eq_true (And.intro @ge_iff_le.{0} (And.intro @gt_iff_lt.{0} (And.intro @Nat.not_lt_zero (And.intro @Nat.le_refl (And.intro @Nat.lt_irrefl (And.intro @List.drop_nil.{0} (And.intro @List.take_nil.{0} (And.intro @Int.toNat_natCast (And.intro @Int.toNat_zero (And.intro @Option.map_some.{0, 0} (And.intro @Option.map_none.{0, 0} (And.intro @Int.cast_ofNat_Int (And.intro @List.length_map.{0, 0} (And.intro @and_self (And.intro @Bool.not_eq_true (And.intro @Bool.not_true (And.intro @Bool.not_false (And.intro @decide_true (@decide_false)))))))))))))))))))))))))))))))))))))))))))))))))))))))))) := And.intro @List.all_cons.{0} (And.intro @List.all_nil.{0} (And.intro @Bool.and_true (And.intro @Bool.true_and (And.intro @Bool.and_self (And.intro @Bool.false_and (And.intro @Bool.and_false (And.intro @Bool.or_false (And.intro @Bool.false_or (And.intro @Bool.true_or (And.intro @Bool.or_true (And.intro @if_true.{1} (And.intro @if_false.{1} (And.intro @beq_self_eq_true.{0} (And.intro @not_true_eq_false (And.intro @not_false_eq_true (And.intro @List.getElem?_cons_zero.{0} (And.intro @List.getElem?_cons_succ.{0} (And.intro @List.length_cons.{0} (And.intro @List.length_nil.{0} (And.intro @List.drop_zero.{0} (And.intro @List.drop_succ_cons.{0} (And.intro @List.take_succ_cons.{0} (And.intro @List.take_zero.{0} (And.intro @List.cons_append.{0} (And.intro @List.nil_append.{0} (And.intro @List.append_nil.{0} (And.intro @Nat.zero_add (And.intro @Nat.add_zero (And.intro @Nat.zero_mul (And.intro @Nat.sub_zero (And.intro @List.map_cons.{0, 0} (And.intro @List.map_nil.{0, 0} (And.intro @List.replicate_succ.{0} (And.intro @List.replicate_zero.{0} (And.intro @true_and (And.intro @and_true (And.intro @decide_eq_true_eq (And.intro @Bool.false_eq_true (And.intro @ge_iff_le.{0} (And.intro @gt_iff_lt.{0} (And.intro @Nat.not_lt_zero (And.intro @Nat.le_refl (And.intro @Nat.lt_irrefl (And.intro @List.drop_nil.{0} (And.intro @List.take_nil.{0} (And.intro @Int.toNat_natCast (And.intro @Int.toNat_zero (And.intro @Option.map_some.{0, 0} (And.intro @Option.map_none.{0, 0} (And.intro @Int.cast_ofNat_Int (And.intro @List.length_map.{0, 0} (And.intro @and_self (And.intro @Bool.not_eq_true (And.intro @Bool.not_true (And.intro @Bool.not_false (And.intro @decide_true (@decide_false)))))))))))))))))))))))))))))))))))))))))))))))))))))))))
end Go.Abs

set_option linter.unusedVariables false
set_option linter.unusedSimpArgs false
namespace Go.Abs
variable {P : Program}
theorem byte_of {P : Program} {t : TypeId} {i : TI} (ht : ti P t = some i) (hd : i.desc = .int .u8) {x : List AV} (h : Shaped P t x) (hl : x.length = 1) : ∃ b : UInt8, x = byteC b ∧ True := by
  match x, hl with
  | [c], _ =>
    obtain ⟨v, rfl, h0, h1⟩ := h.u8 ht hd
    refine ⟨UInt8.ofNat v.toNat, ?_, trivial⟩
    unfold byteC
    have : ((UInt8.ofNat v.toNat).toNat : Int) = v := by rw [UInt8.toNat_ofNat']; omega
    rw [this]
theorem Shaped.bytes {P : Program} {t e : TypeId} {c : AV} {i j : TI} (ht : ti P t = some i) (hd : i.desc = .slice e) (he : ti P e = some j) (hj : j.desc = .int .u8) (hs : j.size = 1) (hb : j.bytes = 1) (h : Shaped P t [c]) :
    ∃ l : List UInt8, c = .vs (l.map byteC) false ∧ l.length ≤ 140737488351232 := by
  obtain ⟨l, e1, e2, _, _⟩ := Shaped.rows byteC (fun _ => True) ht hd he (by rw [hs]; rfl) (fun x hx hl => byte_of he hj hx (hl.trans hs)) h
  exact ⟨l, e1, by rw [hb] at e2; omega⟩
theorem mm_min0 (k k' : IntKind) (a b : Int) : mmA false [.val (.int k a), .val (.int k' b)] = some (.val (.int k (if b < a then b else a))) := rfl
theorem mm_min (k k' : IntKind) (a b : Int) : mmA false [.val (.int k a), .val (.int k' b)] = some (.val (.int k (if b < a then b else a))) := by have h := mm_min0 k k' a b; exact h
theorem mm_max0 (k k' : IntKind) (a b : Int) : mmA true [.val (.int k a), .val (.int k' b)] = some (.val (.int k (if a < b then b else a))) := rfl
theorem mm_max (k k' : IntKind) (a b : Int) : mmA true [.val (.int k a), .val (.int k' b)] = some (.val (.int k (if a < b then b else a))) := by have h := mm_max0 k k' a b; exact h
def buOf (o : Option (List AV)) : Option AV := match o with | some cs => some (.agg cs) | none => none
theorem buOf_some (cs : List AV) : buOf (some cs) = some (.agg cs) := rfl
theorem build_struct {t : TypeId} {i : TI} {fs : Array Field} {pl : List (Nat × Nat)} {z : List AV} (hi : ti P t = some i) (hd : i.desc = .struct fs) (hz : zeroA P t = some z) (hp : placesA P fs.toList = some pl) (parts : List (Nat × AV)) : buildA P t parts = buOf (fillA (pl[·]?) z parts) := by
  simp only [buildA, hi, hz, hd, hp]; rfl
theorem Seen.fnOf {m : Mem} {f : Fn} {fs fs' cs cs' : List AV} (h : Seens m fs fs') (h' : Seens m cs cs') : Seen m (.fn f fs cs) (.fn f fs' cs') := .fn h.1 h.2 h'.1 h'.2
theorem Seen.ptrOf {m : Mem} {n off : Nat} {opn : Bool} {t : TypeId} {cs cs' : List AV} (hm : m n = some (.cells opn t cs)) (h0 : 0 < cs.length) (h : Seens m cs cs') : Seen m (.ptr n off) (.vp cs' off) := .ptr hm h0 h.1 h.2
theorem Seen.var {m : Mem} {n : Nat} {opn : Bool} {t : TypeId} {c : AV} (hm : m n = some (.cells opn t [c])) : Seen m (.ptr n 0) (.vp [c] 0) := .ptrOf hm (Nat.zero_lt_succ _) (Seens.refl _ _)
theorem Seens.one {m : Mem} {x x' : AV} (h : Seen m x x') : Seens m [x] [x'] := .cons h (.nil m)
theorem Seens.two {m : Mem} {x x' y y' : AV} (h : Seen m x x') (h' : Seen m y y') : Seens m [x, y] [x', y'] := .cons h (.one h')
theorem Seens.three {m : Mem} {x x' y y' z z' : AV} (h : Seen m x x') (h' : Seen m y y') (h'' : Seen m z z') : Seens m [x, y, z] [x', y', z'] := .cons h (.two h' h'')
theorem New.two {m : Mem} {a a' b b' : AV} (h : New m a a') (h' : New m b b') : New m (.tup [a, b]) (.tup [a', b']) := .tup rfl fun i hi hi' => by
  match i, hi with
  | 0, _ => exact h
  | 1, _ => exact h'
theorem Rel.two {κ : K} {a a' b b' : AV} {cv : Value} (h : Rel κ (.tup [a, b]) cv) (ha : ∀ c, Rel κ a c → Rel κ a' c) (hb : ∀ c, Rel κ b c → Rel κ b' c) : Rel κ (.tup [a', b']) cv := by
  cases h with
  | tup hl hr =>
    refine .tup hl fun i h h' => ?_
    match i, h with
    | 0, _ => exact ha _ (hr 0 (by simp) h')
    | 1, _ => exact hb _ (hr 1 (by simp) h')
theorem Turns.freeze {r r' : AV} {m : Mem} {K' : AV → Mem → Prop} (hs : Seen m r r') (h : K' r' nomem) : Turns P r m K' := fun κ w cv hsim hr => by
  obtain ⟨κ', hle, hs1, hrho, hp, hf⟩ := freezeAll' hsim
  refine ⟨r', nomem, κ', h, ⟨hle, hs1, Nat.le_refl _, fun _ _ _ => rfl, fun c hc ⟨n, l, _, e, _⟩ => absurd rfl e, rfl, rfl, rfl, fun c o _ h => hp c o h, fun n _ _ => rfl⟩, seen_rel hsim hle hrho hf hs (hr.mono hle)⟩
theorem nilCheck_vp (cs : List AV) (off : Nat) : nilCheckA (.vp cs off) = some (.vp cs off) := rfl
theorem nilCheck_ptr (n off : Nat) : nilCheckA (.ptr n off) = some (.ptr n off) := rfl
theorem nilCheck_yld (n : Nat) : nilCheckA (.yld n) = some (.yld n) := rfl
theorem nilCheck_func (g : FuncId) (a b : List AV) : nilCheckA (.fn (.func g) a b) = some (.fn (.func g) a b) := rfl
section
variable {t e : TypeId} {i : TI}
theorem eq_ptr (hi : ti P t = some i) (hd : i.desc = .pointer e) (n off : Nat) : cmpA P t .eql (.ptr n off) (.val (.pointer none)) = some (.val (.bool false)) := by simp only [cmpA, hi, hd, binA, nilBin, isNilA]; rfl
theorem ne_ptr (hi : ti P t = some i) (hd : i.desc = .pointer e) (n off : Nat) : cmpA P t .neq (.ptr n off) (.val (.pointer none)) = some (.val (.bool true)) := by simp only [cmpA, hi, hd, binA, nilBin, isNilA]; rfl
theorem eq_vp (hi : ti P t = some i) (hd : i.desc = .pointer e) (cs : List AV) (off : Nat) : cmpA P t .eql (.vp cs off) (.val (.pointer none)) = some (.val (.bool false)) := by simp only [cmpA, hi, hd, binA, nilBin, isNilA]; rfl
theorem ne_vp (hi : ti P t = some i) (hd : i.desc = .pointer e) (cs : List AV) (off : Nat) : cmpA P t .neq (.vp cs off) (.val (.pointer none)) = some (.val (.bool true)) := by simp only [cmpA, hi, hd, binA, nilBin, isNilA]; rfl
theorem eq_pnil (hi : ti P t = some i) (hd : i.desc = .pointer e) : cmpA P t .eql (.val (.pointer none)) (.val (.pointer none)) = some (.val (.bool true)) := by simp only [cmpA, hi, hd, binA, nilBin, isNilA]; rfl
theorem ne_pnil (hi : ti P t = some i) (hd : i.desc = .pointer e) : cmpA P t .neq (.val (.pointer none)) (.val (.pointer none)) = some (.val (.bool false)) := by simp only [cmpA, hi, hd, binA, nilBin, isNilA]; rfl
theorem eq_snil (hi : ti P t = some i) (hd : i.desc = .slice e) : cmpA P t .eql (.val (.slice none 0 0)) (.val (.slice none 0 0)) = some (.val (.bool true)) := by simp only [cmpA, hi, hd, binA, nilBin, isNilA]; rfl
theorem ne_snil (hi : ti P t = some i) (hd : i.desc = .slice e) : cmpA P t .neq (.val (.slice none 0 0)) (.val (.slice none 0 0)) = some (.val (.bool false)) := by simp only [cmpA, hi, hd, binA, nilBin, isNilA]; rfl
theorem eq_vs (hi : ti P t = some i) {α : Type} (f : α → List AV) (hd : i.desc = .slice e) (l : List α) (x : Bool) (h : 0 < l.length) : cmpA P t .eql (.vs (l.map f) x) (.val (.slice none 0 0)) = some (.val (.bool false)) := by
  simp only [cmpA, hi, hd, binA, nilBin, isNilA, List.length_map]; rw [if_pos h]
theorem ne_vs (hi : ti P t = some i) {α : Type} (f : α → List AV) (hd : i.desc = .slice e) (l : List α) (x : Bool) (h : 0 < l.length) : cmpA P t .neq (.vs (l.map f) x) (.val (.slice none 0 0)) = some (.val (.bool true)) := by
  simp only [cmpA, hi, hd, binA, nilBin, isNilA, List.length_map]; rw [if_pos h]; rfl
theorem eq_sl (hi : ti P t = some i) (hd : i.desc = .slice e) (n off len cap : Nat) (h : 0 < cap) : cmpA P t .eql (.sl n off len cap) (.val (.slice none 0 0)) = some (.val (.bool false)) := by
  simp only [cmpA, hi, hd, binA, nilBin, isNilA]; rw [if_pos h]
theorem ne_sl (hi : ti P t = some i) (hd : i.desc = .slice e) (n off len cap : Nat) (h : 0 < cap) : cmpA P t .neq (.sl n off len cap) (.val (.slice none 0 0)) = some (.val (.bool true)) := by
  simp only [cmpA, hi, hd, binA, nilBin, isNilA]; rw [if_pos h]; rfl
end
def Apart (m m' : Mem) : Prop := ∀ q, m q = none ∨ m' q = none
theorem Apart.symm {m m' : Mem} (h : Apart m m') : Apart m' m := fun q => (h q).symm
theorem Apart.zero (m : Mem) : Apart m nomem := fun q => .inr rfl
theorem Apart.sub {m m' k : Mem} (h : Apart m m') (hs : k.sub m') : Apart m k := fun q => (h q).elim .inl fun h' => .inr (by
  cases hk : k q with
  | none => rfl
  | some b => have := hs q b hk; rw [h'] at this; cases this)
theorem Apart.new {m : Mem} {n : Nat} {b : Blk} (h : m n = none) : Apart (nomem.set n b) m := fun q => by
  by_cases e : q = n
  · subst e; exact .inr h
  · exact .inl (by rw [Mem.set_ne _ _ e]; rfl)
theorem Apart.set {m m' : Mem} {n : Nat} {b : Blk} (h : Apart m m') (hn : m' n = none) : Apart (m.set n b) m' := fun q => by
  by_cases e : q = n
  · subst e; exact .inr hn
  · rw [Mem.set_ne _ _ e]; exact h q
theorem Apart.live {m m' : Mem} (h : Apart m m') {n : Nat} {b : Blk} (hn : m n = some b) : m' n = none := (h n).elim (fun e => by rw [hn] at e; cases e) id
def Left (m1 m m1' M' : Mem) : Prop := ∀ q b, m1 q = none → m q = some b → m1' q = none ∧ M' q = some b
theorem Left.keep {m1 m m1' M' m2 : Mem} (h : Left m1 m m1' M') (hs : m2.sub m) (ha : Apart m1 m2) : m2.sub M' ∧ Apart m1' m2 := by
  refine ⟨fun q b hq => ?_, fun q => ?_⟩
  · have : m1 q = none := (ha q).elim id fun e => by rw [hq] at e; cases e
    exact (h q b this (hs q b hq)).2
  · cases hm : m2 q with
    | none => exact .inr rfl
    | some b =>
      have : m1 q = none := (ha q).elim id fun e => by rw [hm] at e; cases e
      exact .inl (h q b this (hs q b hm)).1
theorem call_at {f : FuncId} {args : List AV} {m1 m : Mem} {K' K'' : AV → Mem → Prop} {x : Hid K'} (h : C P f args m1 K'') (hsub : m1.sub m)
    (hk : ∀ r m1' M', K'' r m1' → m1'.sub M' → Left m1 m m1' M' → K' r M') : CC P f args m (hid K' x) :=
  call_on h hsub fun r m' h1 h2 => hk r m' _ h1 (fun q b hq => Mem.plus_some hq) fun q b hq hb => by
    have : m' q = none := by
      cases hm : m' q with
      | none => rfl
      | some b' => have := h2 q hq (by rw [hm]; simp); rw [hb] at this; cases this
    exact ⟨this, by rw [Mem.plus_none this hq]; exact hb⟩
theorem rulesD : type_of% (And.intro @bne_self_eq_false.{0} (And.intro @mm_min (And.intro @mm_max (And.intro @buOf_some (And.intro @nilCheck_vp (And.intro @nilCheck_ptr (And.intro @nilCheck_yld (@nilCheck_func)))))))) := And.intro @bne_self_eq_false.{0} (And.intro @mm_min (And.intro @mm_max (And.intro @buOf_some (And.intro @nilCheck_vp (And.intro @nilCheck_ptr (And.intro @nilCheck_yld (@nilCheck_func)))))))
theorem rulesE : type_of% (And.intro @decide_eq_true_eq (And.intro @decide_eq_false_iff_not (And.intro @Bool.not_eq_true' (@Bool.not_eq_false')))) := And.intro @decide_eq_true_eq (And.intro @decide_eq_false_iff_not (And.intro @Bool.not_eq_true' (@Bool.not_eq_false')))
theorem rulesF : type_of% (And.intro @beq_iff_eq.{0} (And.intro @beq_eq_false_iff_ne.{0} (And.intro @bne_iff_ne.{0} (And.intro @bne_eq_false_iff_eq.{0} (@ne_eq.{1}))))) := And.intro @beq_iff_eq.{0} (And.intro @beq_eq_false_iff_ne.{0} (And.intro @bne_iff_ne.{0} (And.intro @bne_eq_false_iff_eq.{0} (@ne_eq.{1}))))
end Go.Abs

set_option linter.unusedVariables false
set_option linter.unusedSimpArgs false
namespace Go.Abs
variable {P : Program}
def AV.clean : AV → Bool
  | .val _ | .ptr _ _ | .sl _ _ _ _ | .map _ | .junk => true
  | .agg cs | .tup cs => cleans cs
  | _ => false
where
  cleans : List AV → Bool
  | [] => true
  | c :: cs => AV.clean c && cleans cs
theorem AV.clean.cleans_at : ∀ {l : List AV}, AV.clean.cleans l = true → ∀ i (h : i < l.length), AV.clean l[i] = true
  | c :: l, h, 0, hi => by simp only [AV.clean.cleans, Bool.and_eq_true] at h; exact h.1
  | c :: l, h, i + 1, hi => by
    simp only [AV.clean.cleans, Bool.and_eq_true] at h
    exact AV.clean.cleans_at h.2 i (by simpa using hi)
theorem Rel.clean {κ κ' : K} (hr : κ'.rho = κ.rho) {x : AV} {cv : Value} (h : Rel κ x cv) : x.clean = true → Rel κ' x cv := by
  induction h with
  | val hp => exact fun _ => .val hp
  | agg hl _ ih => exact fun hc => .agg hl fun i a b => ih i a b (AV.clean.cleans_at (by simpa [AV.clean] using hc) i a)
  | tup hl _ ih => exact fun hc => .tup hl fun i a b => ih i a b (AV.clean.cleans_at (by simpa [AV.clean] using hc) i a)
  | ptr h => exact fun _ => .ptr (by rw [hr]; exact h)
  | snil => exact fun _ => .snil
  | szero => exact fun _ => .szero
  | sl h h1 h2 h3 => exact fun _ => .sl (by rw [hr]; exact h) h1 h2 h3
  | map h => exact fun _ => .map (by rw [hr]; exact h)
  | junk => exact fun _ => .junk
  | vnil => exact fun hc => by simp [AV.clean] at hc
  | vz => exact fun hc => by simp [AV.clean] at hc
  | vs f h1 h2 h3 h4 _ _ => exact fun hc => by simp [AV.clean] at hc
  | vp f h1 _ _ => exact fun hc => by simp [AV.clean] at hc
  | fn hs h1 _ h3 _ _ _ => exact fun hc => by simp [AV.clean] at hc
  | yld h => exact fun hc => by simp [AV.clean] at hc
  | ifc _ _ => exact fun hc => by simp [AV.clean] at hc
def cleanB : Blk → Prop
  | .cells _ _ cs => AV.clean.cleans cs = true
  | .map es => ∀ i (h : i < es.length), AV.clean es[i].1 = true ∧ AV.clean es[i].2 = true
  | .loop .. => False
theorem BlkOK.clean {κ κ' : K} (hr : κ'.rho = κ.rho) {w : World} {l : Loc} {b : Blk} (h : BlkOK P κ w l b) (hc : cleanB b) : BlkOK P κ' w l b := by
  cases b with
  | cells opn t cs =>
    obtain ⟨arr, t', fz, h1, h2, h3, h4, h5, h6, h7⟩ := h
    exact ⟨arr, t', fz, h1, h2, h3, h4, h5, h6, fun i hi => let ⟨cv, a, b⟩ := h7 i hi; ⟨cv, a, b.clean hr (AV.clean.cleans_at hc i hi)⟩⟩
  | map es =>
    obtain ⟨ents, clock, h1, h2, h3⟩ := h
    exact ⟨ents, clock, h1, h2, fun i a b => ⟨(h3 i a b).1.clean hr (hc i a).1, (h3 i a b).2.clean hr (hc i a).2⟩⟩
  | loop st pend env ps asg body => exact hc.elim
def Mem.rest (mI m : Mem) : Mem := fun n => match mI n with | some _ => none | none => m n
theorem Mem.rest_sub (mI m : Mem) : (mI.rest m).sub m := fun n b h => by
  unfold Mem.rest at h
  cases hI : mI n with
  | some x => rw [hI] at h; cases h
  | none => rw [hI] at h; exact h
theorem Mem.rest_none {mI m : Mem} {n : Nat} (h : mI n = none) : mI.rest m n = m n := by simp [Mem.rest, h]
theorem Mem.rest_some {mI m : Mem} {n : Nat} (h : mI n ≠ none) : mI.rest m n = none := by
  unfold Mem.rest
  cases hI : mI n with
  | some x => rfl
  | none => exact absurd hI h
theorem Mem.rest_live {mI m : Mem} {n : Nat} (h : mI.rest m n ≠ none) : mI n = none ∧ m n ≠ none := by
  cases hI : mI n with
  | some x => exact absurd (Mem.rest_some (by rw [hI]; simp)) h
  | none => rw [Mem.rest_none hI] at h; exact ⟨rfl, h⟩
theorem Step.seen {κ κ1 κ2 : K} {m mI m1 : Mem} {w w' : World} (hs : Sim P κ m w) (hsub : mI.sub m) (hle : κ.le κ1) (hrho : κ1.rho = κ.rho)
    (hp1 : ∀ c o, κ1.prot c o ≠ none → κ.prot c o ≠ none ∨ Backs κ (mI.rest m) c) (h : Step P κ1 mI w κ2 m1 w') (hclean : ∀ n b, m1 n = some b → cleanB b) :
    ∃ κ3, Step P κ m w κ3 (m1.plus mI m) w' ∧ κ3.rho = κ2.rho ∧ ∀ n, mI n = none → m1 n ≠ none → m n = none := by
  classical
  have extra : ∀ n, mI n = none → m n ≠ none → m1 n = none := fun n h1 h2 => h.dead n (by rw [hrho]; exact hs.used h2) h1
  have rho : ∀ n x, κ.rho n = some x → κ2.rho n = some x := fun n x hx => h.le.rho n x (by rw [hrho]; exact hx)
  have bk : ∀ {c}, Backs κ1 mI c → Backs κ mI c := fun ⟨n, l, a, b, e⟩ => ⟨n, l, by rw [← hrho]; exact a, b, e⟩
  have apart : ∀ n l, mI n = none → m n ≠ none → κ.rho n = some (some l) → ¬ Backs κ mI l.blk := by
    rintro n l h1 h2 h3 ⟨n2, l2, g1, g2, g3⟩
    have hne : n ≠ n2 := fun e => g2 (e ▸ h1)
    exact hs.excl n n2 l l2 hne h2 (hsub.live g2) h3 g1 g3.symm
  have old : ∀ n l, m n ≠ none → κ2.rho n = some (some l) → κ.rho n = some (some l) := fun n l b c => by
    cases hk : κ.rho n with
    | none => exact absurd hk (hs.used b)
    | some x => rw [rho _ _ hk] at c; exact c
  have live : ∀ n, m1.plus mI m n ≠ none → m1 n ≠ none ∨ (mI n = none ∧ m n ≠ none ∧ m1 n = none) := fun n hn => by
    cases h1 : m1 n with
    | some b => exact .inl (by simp)
    | none =>
      cases h2 : mI n with
      | some b => exact absurd (Mem.plus_gone h1 (by rw [h2]; simp)) hn
      | none => rw [Mem.plus_none h1 h2] at hn; exact .inr ⟨rfl, hn, rfl⟩
  -- a block of the rest is none of what the call has left
  have mixed : ∀ n n' l l', m1 n ≠ none → mI n' = none → m n' ≠ none → κ2.rho n = some (some l) → κ.rho n' = some (some l') → l.blk ≠ l'.blk := fun n n' l l' a b c d e hbl => by
    exact apart n' l' b c e (bk (h.origin l'.blk (hs.lt n' l' e) ⟨n, l, d, a, hbl⟩))
  let κ3 : K := { prot := fun c o => if Backs κ (mI.rest m) c then κ.prot c o else κ2.prot c o, rho := κ2.rho }
  have le3 : κ.le κ3 := by
    refine ⟨fun c o v hv => ?_, rho⟩
    show (if Backs κ (mI.rest m) c then κ.prot c o else κ2.prot c o) = some v
    split
    · exact hv
    · exact h.le.prot _ _ _ (hle.prot _ _ _ hv)
  have noRest : ∀ {c o v}, Backs κ (mI.rest m) c → κ.prot c o = some v → False := fun {c o v} ⟨n, l, a, b, e⟩ hv => by
    obtain ⟨b1, b2⟩ := Mem.rest_live b
    cases hm : m n with
    | none => exact b2 hm
    | some bb =>
      rcases hs.blk n bb hm with ⟨l', g1, g2, g3⟩ | ⟨g1, _⟩
      · rw [a] at g1; cases g1
        rw [e] at g3
        rw [g3 o] at hv; cases hv
      · rw [a] at g1; cases g1
  refine ⟨κ3, ⟨le3, ⟨?_, ?_, h.sim.lt, ?_, ?_⟩, h.size, fun c hc hb => h.frame c hc fun hb' => hb ((bk hb').sub hsub), ?_, h.os, h.tape, h.output, ?_, ?_⟩, rfl, fun n h1 h2 => ?_⟩
  · intro c o v hv
    have hv' : (if Backs κ (mI.rest m) c then κ.prot c o else κ2.prot c o) = some v := hv
    split at hv'
    · rename_i hb; exact (noRest hb hv').elim
    · exact h.sim.prot c o v hv'
  · intro n b hb
    cases h1 : m1 n with
    | some b' =>
      rw [Mem.plus_some h1] at hb; cases hb
      rcases h.sim.blk n _ h1 with ⟨l, g1, g2, g3⟩ | g
      · refine .inl ⟨l, g1, BlkOK.clean (κ' := κ3) (show κ3.rho = κ2.rho from rfl) g2 (hclean n _ h1), fun o => ?_⟩
        show (if Backs κ (mI.rest m) l.blk then κ.prot l.blk o else κ2.prot l.blk o) = none
        split
        · rename_i hb
          cases hp : κ.prot l.blk o with
          | none => rfl
          | some v => exact (noRest hb hp).elim
        · exact g3 o
      · exact .inr g
    | none =>
      cases h2 : mI n with
      | some b' => rw [Mem.plus_gone h1 (by rw [h2]; simp)] at hb; cases hb
      | none =>
        rw [Mem.plus_none h1 h2] at hb
        have hM : m n ≠ none := by rw [hb]; simp
        rcases hs.blk n b hb with ⟨l, g1, g2, g3⟩ | ⟨g1, g2⟩
        · refine .inl ⟨l, rho _ _ g1, (g2.congr (h.frame _ g2.lt fun hb' => apart n l h2 hM g1 (bk hb'))).mono le3, fun o => ?_⟩
          show (if Backs κ (mI.rest m) l.blk then κ.prot l.blk o else κ2.prot l.blk o) = none
          rw [if_pos ⟨n, l, g1, by rw [Mem.rest_none h2]; exact hM, rfl⟩]
          exact g3 o
        · exact .inr ⟨rho _ _ g1, g2⟩
  · intro n n' l l' hne h1 h2 h3 h4
    rcases live n h1 with a | ⟨a1, a2, a3⟩ <;> rcases live n' h2 with b | ⟨b1, b2, b3⟩
    · exact h.sim.excl n n' l l' hne a b h3 h4
    · exact mixed n n' l l' a b1 b2 h3 (old n' l' b2 h4)
    · exact fun e => mixed n' n l' l b a1 a2 h4 (old n l a2 h3) e.symm
    · exact hs.excl n n' l l' hne a2 b2 (old n l a2 h3) (old n' l' b2 h4)
  · obtain ⟨N, hN⟩ := h.sim.fin
    obtain ⟨N', hN'⟩ := hs.fin
    refine ⟨max N N', fun n hn => ⟨(hN n (by omega)).1, ?_⟩⟩
    have h1 := (hN n (by omega)).2
    have h2 := (hN' n (by omega)).2
    cases hm : mI n with
    | some b => exact Mem.plus_gone h1 (by rw [hm]; simp)
    | none => rw [Mem.plus_none h1 hm, h2]
  · rintro c hc ⟨n, l, h1, h2, h3⟩
    rcases live n h2 with a | ⟨a1, a2, a3⟩
    · exact (bk (h.origin c hc ⟨n, l, h1, a, h3⟩)).sub hsub
    · exact ⟨n, l, old n l a2 h1, a2, h3⟩
  · intro c o hc hp
    have hp' : (if Backs κ (mI.rest m) c then κ.prot c o else κ2.prot c o) ≠ none := hp
    split at hp'
    · rename_i hb; exact .inr (hb.sub (Mem.rest_sub mI m))
    · rcases h.porigin c o hc hp' with q | q
      · rcases hp1 c o q with q | q
        · exact .inl q
        · exact .inr (q.sub (Mem.rest_sub mI m))
      · exact .inr ((bk q).sub hsub)
  · intro n hr hM
    have hm : mI n = none := by
      cases hm : mI n with
      | none => rfl
      | some b => rw [hsub n b hm] at hM; cases hM
    rw [Mem.plus_none (h.dead n (by rw [hrho]; exact hr) hm) hm]; exact hM
  · cases hM : m n with
    | none => rfl
    | some b => exact absurd (extra n h1 (by rw [hM]; simp)) h2
def Mem.or (a b : Mem) : Mem := fun q => match a q with | some x => some x | none => b q
theorem call_seen {f : FuncId} {args args' : List AV} {mI m : Mem} {K' K'' : AV → Mem → Prop} {x : Hid K'} (h : C P f args mI K'') (hsub : mI.sub m) (hseen : Seens (mI.rest m) args' args)
    (hcl : ∀ r m', K'' r m' → r.clean = true ∧ ∀ n b, m' n = some b → cleanB b)
    (hk : ∀ r m1' M', K'' r m1' → m1'.sub M' → Left mI m m1' M' → K' r M') : CC P f args' m (hid K' x) := by
  refine .inl ⟨h.1, fun κ w cargs hs hr => ?_⟩
  have hs0 : Sim P κ (mI.rest m) w := hs.sub (Mem.rest_sub mI m)
  obtain ⟨κ1, hle, hs1, hrho, hp1, hf⟩ := freezeAll' hs0
  have hr1 : Rels κ1 args cargs := ⟨hseen.1 ▸ hr.1, fun i a b => seen_rel hs0 hle hrho hf (hseen.2 i (hseen.1 ▸ a) a) ((hr.2 i (hseen.1 ▸ a) b).mono hle)⟩
  have hsI : Sim P κ1 mI w := by
    refine ⟨hs1.prot, fun n b hn => ?_, fun n l hl => hs.lt n l (by rw [← hrho]; exact hl), fun n n' l l' hne a b c d => hs.excl n n' l l' hne (hsub.live a) (hsub.live b) (by rw [← hrho]; exact c) (by rw [← hrho]; exact d), ?_⟩
    · have hm := hsub n b hn
      rcases hs.blk n b hm with ⟨l, g1, g2, g3⟩ | ⟨g1, g2⟩
      · refine .inl ⟨l, by rw [hrho]; exact g1, g2.mono hle, fun o => ?_⟩
        cases hp : κ1.prot l.blk o with
        | none => rfl
        | some v =>
          rcases hp1 l.blk o (by rw [hp]; simp) with q | ⟨n2, l2, q1, q2, q3⟩
          · exact absurd (g3 o) q
          · obtain ⟨e1, e2⟩ := Mem.rest_live q2
            have hne : n ≠ n2 := fun e => by rw [← e, hn] at e1; cases e1
            exact absurd q3.symm (hs.excl n n2 l l2 hne (by rw [hm]; simp) e2 g1 q1)
      · exact .inr ⟨by rw [hrho]; exact g1, g2⟩
    · obtain ⟨N, hN⟩ := hs.fin
      refine ⟨N, fun n hn => ⟨by rw [hrho]; exact (hN n hn).1, ?_⟩⟩
      cases hm : mI n with
      | none => rfl
      | some b => have := hsub n b hm; rw [(hN n hn).2] at this; cases this
  refine (h.2 κ1 w cargs hsI hr1).mono ?_
  rintro e w' ⟨cv, r, m1, κ2, rfl, hK, hst, hrel⟩
  obtain ⟨hc1, hc2⟩ := hcl r m1 hK
  obtain ⟨κ3, g1, g2, g3⟩ := Step.seen hs hsub hle hrho hp1 hst hc2
  refine ⟨cv, r, m1.plus mI m, κ3, rfl, hk r m1 _ hK (fun q b hq => Mem.plus_some hq) (fun q b hq hb => ?_), g1, hrel.clean g2 hc1⟩
  have : m1 q = none := by
    cases hm : m1 q with
    | none => rfl
    | some b' => have := g3 q hq (by rw [hm]; simp); rw [hb] at this; cases this
  exact ⟨this, by rw [Mem.plus_none this hq]; exact hb⟩
end Go.Abs

set_option linter.unusedVariables false
set_option linter.unusedSimpArgs false
namespace Go.Abs
variable {P : Program}
def IterOn (P : Program) (f : FuncId) (first caps : List AV) (B : Nat → Mem → Prop) (L : List (List AV)) : Prop :=
  ∀ (n : Nat) (M : Mem) (I : Nat → Mem → Prop) (S : Mem → Prop) (K' : AV → Mem → Prop), I 0 M → (∀ k m, I k m → B k m) →
    (∀ k (h : k < L.length) m, I k m → Y P n L[k] m (fun r m' => (r = .val (.bool true) ∧ I (k + 1) m') ∨ (r = .val (.bool false) ∧ S m'))) →
    (∀ m, I L.length m → K' (.tup []) m) → (∀ m, S m → K' (.tup []) m) → C P f (first ++ [.yld n] ++ caps) M K'
section
variable {n : Nat} {env : List AV} {ps : Array Tmp} {asg body : Code} {J' : Mem → Prop} {Q : Exit → List AV → Mem → Prop} {env3 : List AV} {m3 : Mem}
end
theorem range_on {rd : Option Nat} {f : FuncId} {first caps : List AV} {L : List (List AV)} {ps : Array Tmp} {asg body : Code} {la lb : LC} {Q : Exit → List AV → Mem → Prop} {x : Hid Q} {env : List AV} {m : Mem} (hm : P.follows .mixedOrders = true) (ha : leanC asg = la) (hb : leanC body = lb)
    {B : Nat → Mem → Prop} (hI : IterOn P f first caps B L) (hBs : ∀ k m m', m.sub m' → B k m → B k m') (hps : ∀ l ∈ L, l.length = ps.size) (hrd : ∀ n, rd = some n → ∃ st pend env ps asg body, m n = some (.loop st pend env ps asg body)) (J : Nat → Mem → Prop) (m0 : Mem) (hsub : m0.sub m) (h0 : J 0 m0)
    (hJB : ∀ k m1, J k m1 → B k m1)
    (hbody : ∀ k (hk : k < L.length) n m1, J k m1 → m1 n = none → V P (some n) la (fun e env1 m2 => e = .normal ∧ m2 n = some (.loop .ready none env ps asg body) ∧ V P (some n) lb (roundV n env ps asg body (J (k + 1)) (hid Q .mk)) env1 (m2.set n (.loop .busy none env ps asg body)))
      (startA env ps L[k]) (m1.set n (.loop .ready none env ps asg body)))
    (hend : ∀ m1, J L.length m1 → Q .normal env m1) : rangeV P rd (.fn (.func f) first caps) ps asg body (hid Q x) env m := by
  refine range_intro hrd fun n hn => C.turn ?_
  refine hI n _ (fun k M => ∃ m1, J k m1 ∧ m1 n = none ∧ (m1.set n (.loop .ready none env ps asg body)).sub M) (fun M => rangeK n env ps asg body Q M) _ ?_ ?_ ?_ ?_ ?_
  · have hm0 : m0 n = none := by
      cases h : m0 n with
      | none => rfl
      | some b => have := hsub n b h; rw [hn] at this; cases this
    exact ⟨m0, h0, hm0, Mem.set_mono hsub⟩
  · rintro k M ⟨m1, hJ, h1, hs1⟩
    exact hBs k m1 M ((Mem.sub_set h1).trans hs1) (hJB k m1 hJ)
  · rintro k hk M ⟨m1, hJ, h1, hs1⟩
    refine Y.less ?_ hs1
    refine Y.of_W (env := env) (ps := ps) (asg := asg) (body := body) (Mem.set_same _ _ _) (hps _ (List.getElem_mem hk)) ?_
    have hV := hbody k hk n m1 hJ h1
    subst ha hb
    refine (W.of_V hm asg _ _ _ hV).mono fun e env1 m2 ⟨a, b, c⟩ => ⟨a, b, (W.of_V hm body _ _ _ c).mono fun e2 env2 m3 h => ?_⟩
    obtain ⟨g1, g2⟩ := h
    refine ⟨g1, ?_⟩
    cases e2 with
    | normal =>
      obtain ⟨m4, q1, q2⟩ := g2
      have h4 : m4 n = none := by
        cases h : m4 n with
        | none => rfl
        | some b => have := q1 n b h; rw [Mem.del_same] at this; cases this
      refine .inl ⟨rfl, m4, q2, h4, fun k' b' hk' => ?_⟩
      unfold Mem.set at hk' ⊢
      split at hk'
      · rename_i e; rw [if_pos e]; exact hk'
      · rename_i e; rw [if_neg e]; exact Mem.del_sub m3 n _ _ (q1 _ _ hk')
    | ret => exact .inr ⟨rfl, .done, some .ret, Mem.set_same _ _ _, rfl, by rw [Mem.del_set_eq]; exact g2⟩
    | exit id => exact .inr ⟨rfl, .done, some (.exit id), Mem.set_same _ _ _, rfl, by rw [Mem.del_set_eq]; exact g2⟩
    | goto t => exact .inr ⟨rfl, .done, some (.goto t), Mem.set_same _ _ _, rfl, by rw [Mem.del_set_eq]; exact g2⟩
    | panic c => exact g2.elim
    | outgrown => exact g2.elim
  · rintro M ⟨m1, hJ, h1, hs1⟩
    refine Turns.sub hs1 ⟨.ready, none, Mem.set_same _ _ _, rfl, ?_⟩
    rw [Mem.del_set_eq, Mem.del_none h1]
    exact hend m1 hJ
  · intro M hM
    exact Turns.id hM
end Go.Abs

set_option linter.unusedVariables false
set_option linter.unusedSimpArgs false
namespace Go.Abs
variable {P : Program}
theorem toList_loop (b : ByteArray) : ∀ (k i : Nat) (r : List UInt8), b.size = i + k → ByteArray.toList.loop b i r = r.reverse ++ b.data.toList.drop i
  | 0, i, r, h => by
    unfold ByteArray.toList.loop
    have hs : b.size = b.data.toList.length := rfl
    rw [if_neg (by omega), List.drop_of_length_le (by omega), List.append_nil]
  | k + 1, i, r, h => by
    unfold ByteArray.toList.loop
    have hs : b.size = b.data.toList.length := rfl
    have hi : i < b.data.toList.length := by omega
    rw [if_pos (by omega), toList_loop b k (i + 1) _ (by omega), List.drop_eq_getElem_cons hi]
    have hi' : i < b.data.size := hi
    have : b.get! i = b.data.toList[i] := by
      show b.data[i]! = _
      rw [getElem!_pos b.data i hi', Array.getElem_toList]
    rw [this, List.reverse_cons, List.append_assoc]; rfl
theorem text_list (b : ByteArray) : b.toList = b.data.toList := by
  unfold ByteArray.toList
  rw [toList_loop b b.size 0 [] (by omega)]; simp
theorem text_inj (a b : ByteArray) : (a.toList == b.toList) = decide (a = b) := by
  rw [text_list, text_list]
  by_cases h : a = b
  · subst h; simp
  · rw [decide_eq_false h, beq_eq_false_iff_ne]
    intro e
    apply h
    cases a; cases b; simp at e ⊢; exact e
theorem text_beq (a b : List UInt8) : ((⟨a.toArray⟩ : ByteArray).toList == (⟨b.toArray⟩ : ByteArray).toList) = decide (a = b) := by
  rw [text_list, text_list, Bool.eq_iff_iff]; simp
theorem text_of (s : ByteArray) : (⟨s.data.toList.toArray⟩ : ByteArray) = s := by cases s; simp
theorem Shaped.txt {t : TypeId} {i : TI} {c : AV} (ht : ti P t = some i) (hd : i.desc = .string) (h : Shaped P t [c]) : ∃ l : List UInt8, c = .val (.string ⟨l.toArray⟩) ∧ l.length ≤ 140737488351232 := by
  obtain ⟨s, e, hs⟩ := Shaped.str ht hd h
  exact ⟨s.data.toList, by rw [text_of]; exact e, hs⟩
theorem Turns.less {r : AV} {m m' : Mem} {K' : AV → Mem → Prop} (hm : m'.sub m) (h : Turns P r m' K') : Turns P r m K' := fun κ w cv hs hr =>
  let ⟨r', m2, κ', a, b, c⟩ := h κ w cv (hs.sub hm) hr
  ⟨r', m2, κ', a, b.less hm hs, c⟩
theorem set_comm (m : Mem) {a b : Nat} (h : a ≠ b) (x y : Blk) : (m.set a x).set b y = (m.set b y).set a x := by
  funext k
  unfold Mem.set
  by_cases e1 : k = a <;> by_cases e2 : k = b <;> simp [e1, e2, h, Ne.symm h]
end Go.Abs

set_option linter.unusedVariables false
namespace Go.Abs
variable {P : Program}
theorem Step.below {κ : K} {m : Mem} {w w' : World} (hs : Sim P κ m w) (hb : Go.RowKit.Below w.heap.size w w') : Step P κ m w κ m w' :=
  Step.quiet hs fun g => ⟨hb.size, fun c hc _ => hb.block c hc, hb.os, hb.tape, hb.output⟩
end Go.Abs

set_option linter.unusedVariables false
set_option linter.unusedSimpArgs false
namespace Go.Abs
open Go.RowKit Go.ChangeShapes Go.WideShapes
variable {P : Program}
mutual
/-- How many elements the rows in a value have, each counted with its own. -/
def wt : AV → Nat
  | .vs es _ => wtR es
  | .agg cs => wtL cs
  | _ => 0
def wtL : List AV → Nat
  | [] => 0
  | c :: cs => wt c + wtL cs
def wtR : List (List AV) → Nat
  | [] => 0
  | e :: es => 1 + wtL e + wtR es
end
theorem wtL_append : ∀ (a b : List AV), wtL (a ++ b) = wtL a + wtL b
  | [], b => by simp [wtL]
  | x :: a, b => by simp only [List.cons_append, wtL, wtL_append a b]; omega
theorem wtL_junk : ∀ n, wtL (List.replicate n .junk) = 0
  | 0 => rfl
  | n + 1 => by rw [List.replicate_succ]; simp only [wtL, wt, wtL_junk n]
theorem wtR_len : ∀ es : List (List AV), es.length ≤ wtR es
  | [] => Nat.le_refl _
  | e :: es => by have := wtR_len es; simp only [wtR, List.length_cons]; omega
structure Bulk {H : Type} (B : DataW H → Nat) (BA : List (DataW H) → Nat) : Prop where
  one : ∀ d, 1 ≤ B d
  nil : BA [] = 0
  cons : ∀ d r, BA (d :: r) = B d + BA r
  slice : ∀ e s, BA e + 1 ≤ B (.slice e s)
  agg : ∀ p, BA p + 1 ≤ B (.agg p)
theorem join_partsW {κ : K} : ∀ (l : List (Piece × Nat)) (cs : List Value), cs.length = (l.map (·.1.1)).sum →
    (∀ (j : Nat) (p : Piece × Nat), l[j]? = some p → ∃ as, Rels' κ as ((cs.drop ((l.take j).map (·.1.1)).sum).take p.1.1) ∧ p.1.2 as ∧ wtL as ≤ p.2) → ∃ as, Rels' κ as cs ∧ wtL as ≤ (l.map (·.2)).sum ∧ ∀ (j : Nat) (p : Piece × Nat), l[j]? = some p → p.1.2 ((as.drop ((l.take j).map (·.1.1)).sum).take p.1.1)
  | [], cs, hl, _ => ⟨[], ⟨by simpa using hl.symm, fun i h => by simp at h⟩, Nat.zero_le _, fun j p h => by simp at h⟩
  | q :: l, cs, hl, h => by
    simp only [List.map_cons, List.sum_cons] at hl
    obtain ⟨as0, g1, g2, g3⟩ := h 0 q rfl
    simp only [List.take_zero, List.map_nil, List.sum_nil, List.drop_zero] at g1
    obtain ⟨as1, k1, k3, k2⟩ := join_partsW l (cs.drop q.1.1) (by simp; omega) (fun j p hj => by
      obtain ⟨as, a1, a2, a3⟩ := h (j + 1) p (by simpa using hj)
      simp only [List.take_succ_cons, List.map_cons, List.sum_cons] at a1
      exact ⟨as, by rw [List.drop_drop]; exact a1, a2, a3⟩)
    have hlen : as0.length = q.1.1 := by rw [g1.1]; simp; omega
    refine ⟨as0 ++ as1, ?_, ?_, fun j p hj => ?_⟩
    · have := g1.append k1
      rwa [List.take_append_drop] at this
    · rw [wtL_append]; simp only [List.map_cons, List.sum_cons]; omega
    · cases j with
      | zero =>
        simp only [List.getElem?_cons_zero, Option.some.injEq] at hj
        subst hj
        simp only [List.take_zero, List.map_nil, List.sum_nil, List.drop_zero]
        rw [List.take_append_of_le_length (by omega), List.take_of_length_le (by omega)]
        exact g2
      | succ j =>
        simp only [List.take_succ_cons, List.map_cons, List.sum_cons]
        rw [← hlen]
        have e : ∀ s, (as0 ++ as1).drop (as0.length + s) = as1.drop s := fun s => by
          rw [List.drop_append, List.drop_eq_nil_of_le (by omega), List.nil_append]; congr 1; omega
        rw [e]
        exact k2 j p (by simpa using hj)
section
variable {H : Type} {enc : TypeId × Value → H} {w : World}
theorem bulk_map {B : DataW H → Nat} {BA : List (DataW H) → Nat} (hB : Bulk B BA) : ∀ l : List (DataW H), (l.map fun d => B d - 1).sum ≤ BA l
  | [] => Nat.zero_le _
  | d :: l => by
    have := bulk_map hB l
    rw [hB.cons]
    simp only [List.map_cons, List.sum_cons]; omega
theorem wtR_ofFn {B : DataW H → Nat} {BA : List (DataW H) → Nat} (hB : Bulk B BA) : ∀ (es : List (List AV)) (ds : List (DataW H)), es.length = ds.length → (∀ i (h : i < es.length) (h' : i < ds.length), 1 + wtL es[i] ≤ B ds[i]) → wtR es ≤ BA ds
  | [], _, _, _ => Nat.zero_le _
  | e :: es, [], hl, _ => by simp at hl
  | e :: es, d :: ds, hl, h => by
    have h0 := h 0 (by simp) (by simp)
    have ih := wtR_ofFn hB es ds (by simpa using hl) (fun i a b => by have := h (i + 1) (by simpa using a) (by simpa using b); simpa using this)
    rw [hB.cons]
    simp only [wtR, List.getElem_cons_zero] at *
    omega
theorem shape_of_trodW {B : DataW H → Nat} {BA : List (DataW H) → Nat} (hB : Bulk B BA) (hl : laidOutB P = true) : ∀ (fuel : Nat) (t : TypeId) (cs : List Value) (d : DataW H) (ps : List MemPlace), t < P.types.size → DataW.trod enc P w 0 (fun _ => true) true fuel t cs = some (d, ps) → light P t d →
    ∃ as, Rels' (K.of w) as cs ∧ Shape P fuel t as ∧ 1 + wtL as ≤ B d
  | 0, t, cs, d, ps, ht, h, hw => by simp [DataW.trod] at h
  | n + 1, t, cs, d, ps, ht, h, hw => by
    have ih := shape_of_trodW hB hl n
    have h1 := hB.one d
    have junk : (Shape P (n + 1) t (List.replicate cs.length .junk)) → ∃ as, Rels' (K.of w) as cs ∧ Shape P (n + 1) t as ∧ 1 + wtL as ≤ B d := fun h => ⟨_, Rels'.junk _ cs, h, by rw [wtL_junk]; exact h1⟩
    cases hu : P.underlying t with
    | none => exact junk (by simp only [Shape, hu])
    | some k =>
      cases k with
      | bool =>
        unfold DataW.trod at h
        rw [hu] at h
        match cs, h with
        | [.bool b], h => exact ⟨[.val (.bool b)], Rels'.one (.val rfl), by simp only [Shape, hu]; exact ⟨_, rfl⟩, h1⟩
      | int k =>
        unfold DataW.trod at h
        rw [hu] at h
        match cs, h with
        | [.int k' x], h =>
          simp only at h
          split at h
          · rename_i hk
            obtain ⟨rfl, hk⟩ := hk
            exact ⟨[.val (.int _ x)], Rels'.one (.val rfl), by simp only [Shape, hu]; exact ⟨_, rfl, hk⟩, h1⟩
          · cases h
      | string =>
        unfold DataW.trod at h
        rw [hu] at h
        match cs, h with
        | [.string s], h =>
          simp only at h
          split at h
          · cases h
            refine ⟨[.val (.string s)], Rels'.one (.val rfl), ?_, h1⟩
            simp only [Shape, hu]
            exact ⟨_, rfl, hw _ (by simp [DataW.weights])⟩
          · cases h
      | slice e =>
        unfold DataW.trod at h
        rw [hu] at h
        have he : e < P.types.size := kid_slice hl ht hu
        match cs, h with
        | [.slice none 0 0], h =>
          refine ⟨[.vs [] false], Rels'.one .vnil, ?_, h1⟩
          simp only [Shape, hu]
          exact fun _ => ⟨[], rfl, by simp, by simp, fun x h => by simp at h⟩
        | [.slice (some a) len cap], h =>
          simp only at h
          split at h
          · rename_i hc
            obtain ⟨_, hlc, hcm⟩ := hc
            by_cases hs : 0 < P.cellsOf e
            · simp only [if_true, Option.bind_eq_some_iff, Option.map_eq_some_iff] at h
              obtain ⟨elems, hE, rest, hR, h⟩ := h
              obtain ⟨rfl, rfl⟩ := Prod.mk.inj h
              obtain ⟨e1, e2⟩ := mapM_get' hE
              obtain ⟨r1, r2⟩ := mapM_get' hR
              simp only [List.length_range] at e1 r1
              have spot : 0 < cap → a.spot = none := fun h0 => by
                rcases Nat.eq_zero_or_pos len with hlen | hlen
                · have := r2 0 (by simp; omega) (by omega)
                  simp only [List.getElem_range, Option.bind_eq_some_iff] at this
                  obtain ⟨cl, g1, g2⟩ := this
                  obtain ⟨g3, g4⟩ := cells_get g1
                  have := g4 0 (by omega)
                  simp only [hlen, Nat.add_zero, Nat.zero_mul, Addr.add, if_true] at this
                  exact cell_spot this
                · have := e2 0 (by simp; omega) (by omega)
                  simp only [List.getElem_range, Option.bind_eq_some_iff] at this
                  obtain ⟨cl, g1, g2⟩ := this
                  obtain ⟨g3, g4⟩ := cells_get g1
                  have := g4 0 (by omega)
                  simp only [Nat.zero_mul, Addr.add, if_true] at this
                  exact cell_spot this
              have hlight : ∀ x ∈ elems, light P e x.1 := fun x hx m hm => hw m (by
                simp only [DataW.weights, hu, List.mem_cons, List.mem_append]
                exact .inr (.inl (weightsAll_mem (List.mem_map.2 ⟨x, hx, rfl⟩) m hm)))
              have hbytes : len * P.bytesOf e ≤ reachBytes := by
                have := hw ((elems.length + rest.length) * P.bytesOf e) (by simp [DataW.weights, hu])
                refine Nat.le_trans (Nat.mul_le_mul_right _ ?_) this
                omega
              rcases Nat.eq_zero_or_pos cap with h0 | h0
              · have : len = 0 := by omega
                subst h0 this
                refine ⟨[.vs [] false], Rels'.one .vz, ?_, h1⟩
                simp only [Shape, hu]
                exact fun _ => ⟨[], rfl, by simp, by simp, fun x h => by simp at h⟩
              · have hsp := spot h0
                obtain ⟨c, o, sp⟩ := a
                simp only at hsp
                subst hsp
                have each : ∀ i : Fin len, ∃ as : List AV, (as.length = P.cellsOf e ∧ Shape P n e as ∧ ∀ j (hj : j < as.length), ∃ cv, w.cell? ⟨c, o + (i.1 * P.cellsOf e + j), none⟩ = some cv ∧ Rel (K.of w) as[j] cv) ∧ 1 + wtL as ≤ B (elems[i.1]'(by omega)).1 := fun i => by
                  have := e2 i.1 (by simp) (by omega)
                  simp only [List.getElem_range, Option.bind_eq_some_iff] at this
                  obtain ⟨cl, g1, g2⟩ := this
                  obtain ⟨g3, g4⟩ := cells_get g1
                  obtain ⟨as, k1, k2, k3⟩ := ih e cl _ _ he g2 (hlight _ (List.getElem_mem _))
                  refine ⟨as, ⟨k1.1.trans g3, k2, fun j hj => ⟨cl[j]'(k1.1 ▸ hj), ?_, k1.2 j hj _⟩⟩, k3⟩
                  have := g4 j (k1.1 ▸ hj)
                  rw [addr_plain, addr_plain] at this
                  rw [← this, Nat.add_assoc]
                let g : Fin len → List AV := fun i => Classical.choose (each i)
                have hg := fun i => (Classical.choose_spec (each i)).1
                have hgw := fun i => (Classical.choose_spec (each i)).2
                refine ⟨[.vs (List.ofFn g) false], Rels'.one ?_, ?_, ?_⟩
                · have hlen : (List.ofFn g).length = len := by simp
                  have := @Rel.vs (K.of w) (List.ofFn g) false c o (P.cellsOf e) cap (fun i j => (w.cell? ⟨c, o + (i * P.cellsOf e + j), none⟩).getD default)
                    (fun x hx => by obtain ⟨i, rfl⟩ := List.mem_ofFn.1 hx; exact (hg i).1) (by rw [hlen]; exact hlc) (fun h => by cases h)
                    (fun i j hi hj => by
                      rw [hlen] at hi
                      obtain ⟨cv, y1, _⟩ := (hg ⟨i, hi⟩).2.2 j (by rw [(hg ⟨i, hi⟩).1]; exact hj)
                      show w.cell? _ = _
                      simp only at y1
                      rw [y1]; rfl)
                    (fun i hi j hj => by
                      rw [hlen] at hi
                      have hge : (List.ofFn g)[i] = g ⟨i, hi⟩ := by simp
                      have hj' : j < (g ⟨i, hi⟩).length := by rw [← hge]; exact hj
                      obtain ⟨cv, y1, y2⟩ := (hg ⟨i, hi⟩).2.2 j hj'
                      simp only at y1
                      rw [y1]
                      simp only [hge, Option.getD_some]
                      exact y2)
                  rwa [hlen] at this
                · simp only [Shape, hu]
                  refine fun _ => ⟨_, rfl, by simpa using hbytes, by simp; omega, fun x hx => ?_⟩
                  obtain ⟨i, rfl⟩ := List.mem_ofFn.1 hx
                  exact ⟨(hg i).1, (hg i).2.1⟩
                · have h2 := hB.slice (elems.map (·.1)) (rest.map (·.1))
                  have h3 := wtR_ofFn hB (List.ofFn g) (elems.map (·.1)) (by simp; omega) (fun i a b => by
                    have hi : i < len := by simpa using a
                    have hge : (List.ofFn g)[i] = g ⟨i, hi⟩ := by simp
                    rw [hge, List.getElem_map]
                    exact hgw ⟨i, hi⟩)
                  simp only [wtL, wt]
                  omega
            · refine junk ?_
              simp only [Shape, hu]
              exact fun h => absurd h hs
          · cases h
      | struct fs =>
        unfold DataW.trod at h
        rw [hu] at h
        simp only at h
        obtain ⟨k1, k2, k3⟩ := kid_struct hl ht hu
        split at h
        · rename_i hlen
          simp only [Option.map_eq_some_iff] at h
          obtain ⟨xs, hX, h⟩ := h
          obtain ⟨rfl, rfl⟩ := Prod.mk.inj h
          obtain ⟨x1, x2⟩ := mapM_get' hX
          have hz : ∀ (j : Nat) (p : Piece × Nat), ((fs.toList.zip xs).map fun z => (((P.cellsOf z.1.type, Shape P n z.1.type) : Piece), B z.2.1 - 1))[j]? = some p → ∃ (f : Field) (hjl : j < fs.toList.length) (hjx : j < xs.length), fs.toList[j] = f ∧ p = (((P.cellsOf f.type, Shape P n f.type) : Piece), B (xs[j]).1 - 1) := fun j p hj => by
            rw [List.getElem?_map, Option.map_eq_some_iff] at hj
            obtain ⟨z, hz, rfl⟩ := hj
            obtain ⟨hjl, hze⟩ := List.getElem?_eq_some_iff.1 hz
            simp only [List.length_zip] at hjl
            rw [List.getElem_zip] at hze
            subst hze
            exact ⟨_, by omega, by omega, rfl, rfl⟩
          have hzm : ∀ j, (((((fs.toList.zip xs).map fun z => (((P.cellsOf z.1.type, Shape P n z.1.type) : Piece), B z.2.1 - 1)).take j).map (·.1.1)).sum) = ((fs.toList.take j).map fun f => P.cellsOf f.type).sum := fun j => by
            have : ∀ (a : List Field) (b : List (DataW H × List MemPlace)) (j : Nat), a.length ≤ b.length → ((((a.zip b).map fun z => (((P.cellsOf z.1.type, Shape P n z.1.type) : Piece), B z.2.1 - 1)).take j).map (·.1.1)) = (a.take j).map fun f => P.cellsOf f.type := by
              intro a
              induction a with
              | nil => intro b j _; simp
              | cons x a iha =>
                intro b j hb
                cases b with
                | nil => simp at hb
                | cons y b =>
                  cases j with
                  | zero => rfl
                  | succ j => simp only [List.zip_cons_cons, List.map_cons, List.take_succ_cons]; rw [iha b j (by simpa using hb)]
            rw [this _ _ _ (by omega)]
          have hzall := hzm fs.toList.length
          rw [List.take_of_length_le (by simp only [List.length_map, List.length_zip]; exact Nat.min_le_left _ _), List.take_length] at hzall
          obtain ⟨as, g1, g3, g2⟩ := join_partsW (κ := K.of w) ((fs.toList.zip xs).map fun z => (((P.cellsOf z.1.type, Shape P n z.1.type) : Piece), B z.2.1 - 1)) cs (by rw [hzall]; exact hlen.trans k2) (fun j p hj => by
            obtain ⟨f, hjl, hjx, hfe, rfl⟩ := hz j p hj
            have := x2 j hjl hjx
            rw [hfe] at this
            have hoff := k3 j f (by rw [List.getElem?_eq_getElem hjl, hfe])
            have hx : light P f.type (xs[j]).1 := fun m hm => hw m (by
              simp only [DataW.weights, hu]
              exact DataW.weights_mem_each (j := j) (t := f.type) (d := (xs[j]).1) (by rw [List.getElem?_map, List.getElem?_eq_getElem hjl, hfe]; rfl) (by simp [List.getElem?_map, List.getElem?_eq_getElem hjx]) m hm)
            obtain ⟨as, y1, y2, y3⟩ := ih f.type _ _ _ (k1 f (by rw [← hfe]; exact List.getElem_mem hjl)) this hx
            refine ⟨as, ?_, y2, ?_⟩
            · rw [hoff] at y1
              rw [hzm j]
              exact y1
            · exact Nat.le_sub_of_add_le (by rw [Nat.add_comm]; exact y3))
          refine ⟨as, g1, ?_, ?_⟩
          · simp only [Shape, hu]
            refine ⟨g1.1.trans hlen, fun f hf => ?_⟩
            obtain ⟨j, hjl, hfe⟩ := List.getElem_of_mem hf
            have hjx : j < xs.length := by omega
            have := g2 j (((P.cellsOf f.type, Shape P n f.type) : Piece), B (xs[j]).1 - 1) (by
              rw [List.getElem?_map, List.getElem?_eq_getElem (by simp only [List.length_zip]; omega), List.getElem_zip, hfe]; rfl)
            rw [hzm j] at this
            rw [k3 j f (by rw [List.getElem?_eq_getElem hjl, hfe])]
            exact this
          · have h2 := hB.agg (xs.map (·.1))
            have h3 := bulk_map hB (xs.map (·.1))
            have h4 : (((fs.toList.zip xs).map fun z => (((P.cellsOf z.1.type, Shape P n z.1.type) : Piece), B z.2.1 - 1)).map (·.2)) = (xs.map (·.1)).map fun d => B d - 1 := by
              rw [List.map_map, List.map_map]
              have : ∀ (a : List Field) (b : List (DataW H × List MemPlace)), a.length = b.length → ((a.zip b).map ((fun x : Piece × Nat => x.2) ∘ fun z => (((P.cellsOf z.1.type, Shape P n z.1.type) : Piece), B z.2.1 - 1))) = b.map ((fun d => B d - 1) ∘ (·.1)) := by
                intro a
                induction a with
                | nil => intro b hb; cases b with
                  | nil => rfl
                  | cons y b => simp at hb
                | cons x a iha =>
                  intro b hb
                  cases b with
                  | nil => simp at hb
                  | cons y b => simp only [List.zip_cons_cons, List.map_cons, Function.comp_apply]; rw [iha b (by simpa using hb)]
              exact this _ _ (by omega)
            rw [h4] at g3
            omega
        · cases h
      | array k e =>
        unfold DataW.trod at h
        rw [hu] at h
        simp only at h
        obtain ⟨k1, k2⟩ := kid_array hl ht hu
        split at h
        · rename_i hlen
          simp only [Option.map_eq_some_iff] at h
          obtain ⟨xs, hX, h⟩ := h
          obtain ⟨rfl, rfl⟩ := Prod.mk.inj h
          obtain ⟨x1, x2⟩ := mapM_get' hX
          simp only [List.length_range] at x1
          have hconst : ∀ l : List (DataW H × List MemPlace), ((l.map fun x => (((P.cellsOf e, Shape P n e) : Piece), B x.1 - 1)).map (·.1.1)) = List.replicate l.length (P.cellsOf e) := fun l => by
            rw [List.map_map]
            induction l with
            | nil => rfl
            | cons x l ihl => rw [List.map_cons, ihl, List.length_cons, List.replicate_succ]; rfl
          have hsum : ∀ j, j ≤ k → (((xs.map fun x => (((P.cellsOf e, Shape P n e) : Piece), B x.1 - 1)).take j).map (·.1.1)).sum = j * P.cellsOf e := fun j hj => by
            rw [← List.map_take, hconst, List.sum_replicate_nat, List.length_take, Nat.min_eq_left (by omega)]
          obtain ⟨as, g1, g3, g2⟩ := join_partsW (κ := K.of w) (xs.map fun x => (((P.cellsOf e, Shape P n e) : Piece), B x.1 - 1)) cs (by rw [hconst, List.sum_replicate_nat, x1]; exact hlen.trans k2) (fun j p hj => by
            rw [List.getElem?_map, Option.map_eq_some_iff] at hj
            obtain ⟨z, hz, rfl⟩ := hj
            obtain ⟨hjx, hze⟩ := List.getElem?_eq_some_iff.1 hz
            have hjk : j < k := by omega
            have := x2 j (by simpa using hjk) (by omega)
            simp only [List.getElem_range] at this
            have hx : light P e (xs[j]).1 := fun m hm => hw m (by
              simp only [DataW.weights, hu]
              exact weightsAll_mem (List.mem_map.2 ⟨_, List.getElem_mem _, rfl⟩) m hm)
            obtain ⟨as, y1, y2, y3⟩ := ih e _ _ _ k1 this hx
            refine ⟨as, by rw [hsum j (by omega)]; exact y1, y2, ?_⟩
            rw [← hze]
            exact Nat.le_sub_of_add_le (by rw [Nat.add_comm]; exact y3))
          refine ⟨as, g1, ?_, ?_⟩
          · simp only [Shape, hu]
            refine ⟨g1.1.trans hlen, fun i hi => ?_⟩
            have := g2 i (((P.cellsOf e, Shape P n e) : Piece), B (xs[i]'(by omega)).1 - 1) (by rw [List.getElem?_map, List.getElem?_eq_getElem (by omega)]; rfl)
            rw [hsum i (by omega)] at this
            exact this
          · have h2 := hB.agg (xs.map (·.1))
            have h3 := bulk_map hB (xs.map (·.1))
            have h4 : ((xs.map fun x => (((P.cellsOf e, Shape P n e) : Piece), B x.1 - 1)).map (·.2)) = (xs.map (·.1)).map fun d => B d - 1 := by
              rw [List.map_map, List.map_map]; rfl
            rw [h4] at g3
            omega
        · cases h
      | _ => exact junk (by simp only [Shape, hu])
theorem arg_shapedW {B : DataW H → Nat} {BA : List (DataW H) → Nat} (hB : Bulk B BA) (hl : laidOutB P = true) {t : TypeId} {v : Value} {d : DataW H} {ps : List MemPlace} {base : Nat} (ht : t < P.types.size) (h : DataW.Trod enc P w 0 (fun _ => true) true t v d ps) (hv : Value.okWide P w .any base t v) (hw : light P t d) :
    ∃ a, Rel (K.of w) a v ∧ ShapedV P t a ∧ wt a ≤ B d := by
  obtain ⟨fuel, h⟩ := h
  obtain ⟨as, h1, h2, h3⟩ := shape_of_trodW hB hl fuel t _ d ps ht h hw
  have one : v.cells = #[v] → Shaped P t as → ∃ a, Rel (K.of w) a v ∧ Shaped P t [a] ∧ wt a ≤ B d := fun hc hs => by
    rw [hc] at h1
    have hlen := h1.1
    simp only [List.length_cons, List.length_nil] at hlen
    match as, hlen, h1, hs, h3 with
    | [a], _, h1, hs, h3 => exact ⟨a, h1.2 0 (by simp) (by simp), hs, by simp only [wtL] at h3; omega⟩
  have agg : ∀ ca, v = .agg ca → ∃ a, Rel (K.of w) a v ∧ (∃ cs, a = .agg cs ∧ Shaped P t cs) ∧ wt a ≤ B d := fun ca hca => by
    subst hca
    exact ⟨.agg as, .agg (by simpa [Value.cells] using h1.1) (fun i a b => by have := h1.2 i a (by simpa [Value.cells] using b); simpa [Value.cells] using this), ⟨as, rfl, fuel, h2⟩, by simp only [wt]; omega⟩
  unfold Value.okWide at hv
  unfold ShapedV
  split at hv
  · rename_i fs hu; obtain ⟨ca, hca, _⟩ := hv; rw [hu]; exact agg ca hca
  · rename_i k e hu; obtain ⟨ca, hca, _⟩ := hv; rw [hu]; exact agg ca hca
  · rename_i hn1 hn2
    have hc : v.cells = #[v] := by
      cases v with
      | agg ca =>
        exfalso
        unfold Cell.okWide Cell.ok at hv
        cases hu : P.underlying t with
        | none => rw [hu] at hv; exact hv
        | some k => rw [hu] at hv; cases k <;> exact hv
      | _ => rfl
    obtain ⟨a, g1, g2, g3⟩ := one hc ⟨fuel, h2⟩
    refine ⟨a, g1, ?_, g3⟩
    split
    · rename_i fs hu; exact absurd hu (hn1 fs)
    · rename_i k e hu; exact absurd hu (hn2 k e)
    · exact g2
theorem args_shapedW {B : DataW H → Nat} {BA : List (DataW H) → Nat} (hB : Bulk B BA) (hl : laidOutB P = true) {base : Nat} : ∀ (ts : List TypeId) (vs : List Value) (ds : List (DataW H)) (ps : List MemPlace), (∀ t ∈ ts, t < P.types.size) → DataW.TrodAll enc P w 0 (fun _ => true) true ts vs ds ps →
    (∀ (j : Nat) t v, ts[j]? = some t → vs[j]? = some v → Value.okWide P w .any base t v) → (∀ n ∈ DataW.weightsEach P ts ds, n ≤ reachBytes) → ∃ as, Rels' (K.of w) as vs ∧ ShapedAll P ts as ∧ wtL as ≤ BA ds
  | [], [], [], _, _, _, _, _ => ⟨[], ⟨rfl, fun i h => by simp at h⟩, trivial, Nat.zero_le _⟩
  | t :: ts, v :: vs, d :: ds, ps, ht, h, hv, hw => by
    obtain ⟨p, q, h1, h2, rfl⟩ := h
    obtain ⟨a, g1, g2, g3⟩ := arg_shapedW hB hl (ht t (by simp)) h1 (hv 0 t v rfl rfl) (fun n hn => hw n (by simp [DataW.weightsEach, hn]))
    obtain ⟨as, k1, k2, k3⟩ := args_shapedW hB hl ts vs ds q (fun t h => ht t (by simp [h])) h2 (fun j t v a b => hv (j + 1) t v (by simpa using a) (by simpa using b)) (fun n hn => hw n (by simp [DataW.weightsEach, hn]))
    exact ⟨a :: as, (Rels'.one g1).append k1, ⟨g2, k2⟩, by rw [hB.cons]; simp only [wtL]; omega⟩
  | [], [], _ :: _, _, _, h, _, _ => h.elim
  | [], _ :: _, _, _, _, h, _, _ => h.elim
  | _ :: _, [], _, _, _, h, _, _ => h.elim
  | _ :: _, _ :: _, [], _, _, h, _, _ => h.elim
end
theorem law_liftU {C : Checked} {f : FuncId} {fn : Func} {s : ChangeSpec} {k : (H : Type) → List (DataW H) → Bool} {N : Nat} {conds : List PathCond} {rt : TypeId} {os : Os} {H : Type} {enc : TypeId × Value → H} {F' : Stop.Interp} (own : ownKnob C.prog.godebug = none) (started : os.Started) (noInit : C.prog.inits.idxOf? f = none) (hfn : C.prog.funcs[f]? = some fn)
    (witness : ∃ (w : World) (tape : Tape) (i : Input), w.os = os ∧ (w.forCall tape i).Shaped C.prog ∧ i.vars = [] ∧ Input.okWide C.prog (w.forCall tape i) .any w.heap.size f i ∧
      ({ OpenSpec.ofChange s with cond := some k } : OpenSpec).pre6 enc C.prog fn conds false (w.forCall tape i).memory i.args ∧ Assume.holds {} C.prog (lone (Frame.enter C.prog f i.args .normal) [] (w.forCall tape i)))
    (hvars : s.vars = []) (hs : ∀ (H : Type) (ds : List (DataW H)), ds.length = fn.params.size → s.fn H ds = { results := [.lit (.bool true)], args := ds })
    (laid : laidOutB C.prog = true) (hread : fn.params.toList.all (fun t => C.prog.readableRec t && decide (t < C.prog.types.size)) = true) (hrt : fn.resultTypes = #[rt]) (hb : C.prog.underlying rt = some .bool)
    {B : DataW H → Nat} {BA : List (DataW H) → Nat} (hB : Bulk B BA) (hk : ∀ ds : List (DataW H), k H ds = true → BA ds ≤ N)
    (hF : ∀ args : List AV, ShapedAll C.prog fn.params.toList args → wtL args ≤ N → F C.prog f args (.val (.bool true))) :
    ReturnsInHanded {} C os f .any (({ OpenSpec.ofChange s with cond := some k } : OpenSpec).pre6 enc C.prog fn conds false) ((({ OpenSpec.ofChange s with cond := some k } : OpenSpec).at F').post enc C.prog fn false true false false) := by
  refine returnsInHanded_of_cond_sized (s := { OpenSpec.ofChange s with cond := some k }) (k := k) rfl own started noInit hfn witness ?_
  intro W base args ds gs before hval hW _ hkk hsz _
  show Calls C.prog f args W fun e W' => ∃ v, e = .returned v ∧ s.post enc C.prog fn false true false false W args v W'
  have hW : DataW.Whole enc C.prog fn.params.toList s.vars false W args.toList ds gs before := hW
  have hW' := hW
  obtain ⟨p, q, hA, hV, rfl, hfz, hnd⟩ := hW
  rw [hvars] at hV
  obtain ⟨rfl, rfl⟩ := trodVars_none hV
  have hread' : ∀ t ∈ fn.params.toList, C.prog.readableRec t = true ∧ t < C.prog.types.size := fun t ht => by
    have := List.all_eq_true.1 hread t ht
    simpa using this
  have hlen := trodAll_len _ _ _ _ hA
  obtain ⟨as, k1, k2, k3⟩ := args_shapedW hB laid (base := base) _ _ _ _ (fun t ht => (hread' t ht).2) hA (fun j t v a b => hval j t v (by simpa using a) (by simpa using b)) (fun n hn => by
    have := List.all_eq_true.1 hsz n (weights_of_left _ _ _ _ hlen n hn)
    simpa using this)
  rw [List.append_nil] at hkk
  refine ((hF as k2 (Nat.le_trans k3 (hk _ hkk))).below k1).mono ?_
  rintro e W' ⟨cv, κ', rfl, hbel, hrel⟩
  obtain ⟨rfl, _⟩ := hrel.val_inv
  have hlt : ∀ x ∈ p, x.block < W.heap.size := fun x hx => by simpa using hW'.lt x (by simpa using hx)
  have hsf := hs H (ds ++ []) (by simpa using hlen)
  refine ⟨_, rfl, ds, [], p ++ [], [], p, [], hW', ?_, ?_, ?_, hbel.frame _, fun h => by cases h⟩
  · rw [hsf, hrt]
    exact trodAll_mk1 (shut_bool hb _)
  · rw [hsf]
    simp only [List.append_nil]
    exact trodAll_below laid hbel _ _ _ _ hread' hA hlt
  · rw [hsf, hvars]
    trivial
end Go.Abs
