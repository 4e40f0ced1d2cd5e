/- The abstract layer, eighteenth part: regions that draw their order. -/
import Derived.Test.YteilhoojlcpbpaaA17
set_option linter.unusedVariables false
set_option linter.unusedSimpArgs false
namespace Go.Abs
variable {P : Program}

/-! ### More memory, the same values -/
theorem cellsAt_mono {m m' : Mem} (h : m.sub m') {x : AV} {r : List AV × Nat} (hr : cellsAt m x = some r) : cellsAt m' x = some r := by
  unfold cellsAt at *
  split at hr
  · rename_i n off
    split at hr
    · rename_i hm; simp only [h _ _ hm]; exact hr
    · cases hr
  · exact hr
  · cases hr
theorem loadA_mono {m m' : Mem} (h : m.sub m') {t : TypeId} {x r : AV} (hr : loadA P m t x = some r) : loadA P m' t x = some r := by
  unfold loadA at *
  cases hi : ti P t with
  | none => rw [hi] at hr; cases hr
  | some i =>
    cases hc : cellsAt m x with
    | none => rw [hi, hc] at hr; cases hr
    | some p => rw [hi, hc] at hr; rw [cellsAt_mono h hc]; exact hr
theorem lenA_mono {m m' : Mem} (h : m.sub m') {t : TypeId} {x r : AV} (hr : lenA P m t x = some r) : lenA P m' t x = some r := by
  unfold lenA at *
  cases hi : ti P t with
  | none => rw [hi] at hr; cases hr
  | some i =>
    rw [hi] at hr
    simp only at hr ⊢
    split at hr
    case h_8 => cases hr
    case h_7 n e =>
      try simp only [e]
      split at hr
      · rename_i hm; simp only [h _ _ hm]; exact hr
      · cases hr
    all_goals exact hr
theorem sliceA_mono {m m' : Mem} (h : m.sub m') {t : TypeId} {x r : AV} {lo hi mx : Option AV} (hr : sliceA P m t x lo hi mx = some r) : sliceA P m' t x lo hi mx = some r := by
  unfold sliceA at *
  cases ht : ti P t with
  | none => rw [ht] at hr; cases hr
  | some i =>
    rw [ht] at hr
    simp only at hr ⊢
    cases hd : i.desc with
    | slice e =>
      rw [hd] at hr
      simp only at hr ⊢
      cases he : ti P e with
      | none => rw [he] at hr; cases hr
      | some j =>
        rw [he] at hr
        simp only at hr ⊢
        split at hr
        case h_3 n off len cap =>
          split at hr
          · rename_i hm; simp only [h _ _ hm]; exact hr
          · cases hr
        all_goals first | exact hr | cases hr
    | _ => rw [hd] at hr; exact hr
theorem convA_mono {m m' : Mem} (h : m.sub m') {s t : TypeId} {x r : AV} (hr : convA P m s t x = some r) : convA P m' s t x = some r := by
  unfold convA at *
  split at hr
  case h_2 => cases hr
  case h_1 i j hi hj =>
    split at hr
    case h_5 => cases hr
    case h_4 n off len cap e =>
      try simp only [e]
      split at hr
      · rename_i opn bt cs hd hm; first | (simp only [hd, h _ _ hm]; exact hr) | (simp only [h _ _ hm]; exact hr)
      · cases hr
    all_goals exact hr
theorem quietA_mono {m m' : Mem} (h : m.sub m') {ev : Operand → AV} {op : Op} {r : AV} (hr : quietA P m ev op = some r) : quietA P m' ev op = some r := by
  unfold quietA at *
  split at hr
  case h_4 => exact loadA_mono h hr
  case h_8 => exact convA_mono h hr
  case h_11 => exact sliceA_mono h hr
  case h_18 =>
    split at hr
    · rename_i h1 h2; first | exact lenA_mono h hr | (simp only [h1, h2]; exact lenA_mono h hr)
    · cases hr
  all_goals first | exact hr | cases hr

/-! ### Operations look at their operands alone -/
theorem quietA_congr {m : Mem} {ev ev' : Operand → AV} {op : Op} (h : ∀ x ∈ op.operands, ev x = ev' x) : quietA P m ev op = quietA P m ev' op := by
  have pairs : ∀ ps : List (Nat × Operand), (∀ x ∈ ps.map (·.2), ev x = ev' x) → (ps.map fun p => (p.1, ev p.2)) = (ps.map fun p => (p.1, ev' p.2)) := fun ps hp =>
    List.map_congr_left fun p hm => by rw [hp p.2 (List.mem_map.2 ⟨p, hm, rfl⟩)]
  have args : ∀ l : List Operand, (∀ x ∈ l, ev x = ev' x) → l.map ev = l.map ev' := fun l hp => List.map_congr_left hp
  cases op <;> simp only [Op.operands] at h
  case build t ps => simp only [quietA]; rw [pairs ps.toList fun x hx => h x (by simpa using hx)]
  case makeFunc f a b =>
    simp only [quietA, mkFnA]
    rw [args a.toList fun x hx => h x (by simp only [Array.mem_append]; exact .inl (by simpa using hx)), args b.toList fun x hx => h x (by simp only [Array.mem_append]; exact .inr (by simpa using hx))]
  case slice t x lo hi mx => cases lo <;> cases hi <;> cases mx <;> simp_all [quietA]
  case call c =>
    obtain ⟨callee, as, ts⟩ := c
    cases callee with
    | builtin b =>
      have h' : ∀ x ∈ as.toList, ev x = ev' x := fun x hx => h x (by simpa [Call.operands] using hx)
      cases b <;> try rfl
      · simp only [quietA]
        cases e1 : ts[0]? with
        | none => rfl
        | some t => cases e2 : as[0]? with
          | none => rfl
          | some x => simp only [h' x (by simpa using Array.mem_of_getElem? e2)]
      all_goals (simp only [quietA]; rw [args _ h'])
    | _ => rfl
  all_goals (first | rfl | (simp_all [quietA]; done))
theorem loudK_congr {m : Mem} {ev ev' : Operand → AV} {op : Op} {K' : AV → Mem → Prop} (h : ∀ x ∈ op.operands, ev x = ev' x) : loudK P op ev m K' = loudK P op ev' m K' := by
  have pairs : ∀ ps : List (Nat × Operand), (∀ x ∈ ps.map (·.2), ev x = ev' x) → (ps.map fun p => (p.1, ev p.2)) = (ps.map fun p => (p.1, ev' p.2)) := fun ps hp =>
    List.map_congr_left fun p hm => by rw [hp p.2 (List.mem_map.2 ⟨p, hm, rfl⟩)]
  have args : ∀ l : List Operand, (∀ x ∈ l, ev x = ev' x) → l.map ev = l.map ev' := fun l hp => List.map_congr_left hp
  cases op <;> simp only [Op.operands] at h
  case buildSlice t n ps => simp only [loudK]; rw [pairs ps.toList fun x hx => h x (by simpa using hx)]
  case makeMap t r => cases r <;> simp_all [loudK]
  case call c =>
    obtain ⟨callee, as, ts⟩ := c
    cases callee with
    | value f =>
      simp only [loudK]
      rw [h f (by simp [Call.operands]), args as.toList fun x hx => h x (by simp only [Call.operands, Array.mem_append]; exact .inr (by simpa using hx))]
    | builtin b =>
      have h' : ∀ x ∈ as.toList, ev x = ev' x := fun x hx => h x (by simpa [Call.operands] using hx)
      cases b <;> try rfl
      all_goals (
        simp only [loudK]
        split
        · first
            | (rename_i s x t xt e1 e2
               rw [e1] at h'
               rw [h' s (by simp), h' x (by simp)])
            | (rename_i x t e1 e2
               rw [e1] at h'
               rw [h' x (by simp)])
        · rfl)
    | _ => rfl
  all_goals (first | rfl | (simp_all [loudK]; done))
theorem opK_congr {m : Mem} {ev ev' : Operand → AV} {op : Op} {K' : AV → Mem → Prop} (h : ∀ x ∈ op.operands, ev x = ev' x) : opK P op ev m K' = opK P op ev' m K' := by
  unfold opK; rw [quietA_congr h, loudK_congr h]
/-! ### Any order -/
def waitsB (ops : Array Oper) (a b : Nat) : Bool := match ops[a]? with | some o => o.after.any fun e => Region.binds .any e && e.on == b | none => false
/-- It waits for the other, or for one that does. -/
def reachB (ops : Array Oper) : Nat → Nat → Nat → Bool
  | 0, a, b => waitsB ops a b
  | n + 1, a, b => waitsB ops a b || (List.range ops.size).any fun c => waitsB ops a c && reachB ops n c b
/-- All others come before it or behind it, whatever is drawn. -/
def chainedB (ops : Array Oper) (j : Nat) : Bool := (List.range ops.size).all fun k => k == j || reachB ops 8 j k || reachB ops 8 k j
/-- What is listed has all that it waits for listed. -/
def Closed (ops : Array Oper) (listed : Array Bool) : Prop := ∀ (x : Nat) (o : Oper), ops[x]? = some o → listed.getD x false = true → ∀ e ∈ o.after, Region.binds .any e = true → listed.getD e.on false = true
theorem Closed.none (ops : Array Oper) (n : Nat) : Closed ops (Array.replicate n false) := fun x o _ h => by
  rw [Array.getD_eq_getD_getElem?] at h
  rw [Array.getElem?_replicate] at h
  split at h <;> simp at h
theorem waitsB_listed {ops : Array Oper} {listed : Array Bool} {a b : Nat} (h : ∀ o, ops[a]? = some o → ∀ e ∈ o.after, Region.binds .any e = true → listed.getD e.on false = true) (hw : waitsB ops a b = true) : listed.getD b false = true := by
  unfold waitsB at hw
  split at hw
  · rename_i o ho
    obtain ⟨e, he, hb⟩ := Array.any_eq_true'.1 hw
    simp only [Bool.and_eq_true, beq_iff_eq] at hb
    rw [← hb.2]
    exact h o ho e he hb.1
  · cases hw
theorem reachB_listed {ops : Array Oper} {listed : Array Bool} (hcl : Closed ops listed) : ∀ (n a b : Nat), (∀ o, ops[a]? = some o → ∀ e ∈ o.after, Region.binds .any e = true → listed.getD e.on false = true) → reachB ops n a b = true → listed.getD b false = true
  | 0, a, b, h, hr => waitsB_listed h hr
  | n + 1, a, b, h, hr => by
    simp only [reachB, Bool.or_eq_true, List.any_eq_true, Bool.and_eq_true] at hr
    rcases hr with hr | ⟨c, _, h1, h2⟩
    · exact waitsB_listed h hr
    · exact reachB_listed hcl n c b (fun o ho => hcl c o ho (waitsB_listed h h1)) h2
/-- What was looked at ahead of its place is what it would be behind operation j. -/
def Stab (P : Program) (ops : Array Oper) (listed : Array Bool) (j : Nat) (env : List AV) (m m' : Mem) : Prop :=
  ∀ i oi, ops[i]? = some oi → listed.getD i false = true → reachB ops 8 j i = false → onK env (leanG ops oi.guard) ((quietA P m (evA env) oi.op).isSome = true ∧ quietA P m' (evA env) oi.op = quietA P m (evA env) oi.op) True
def stA (P : Program) (ops : Array Oper) (sb : Bool) (listed : Array Bool) (j : Nat) (Kc : List AV → Mem → Prop) (env : List AV) (m : Mem) : Prop :=
  match ops[j]? with
  | none => Kc env m
  | some o => onK env (leanG ops o.guard) (opK P o.op (evA env) m fun v m' => (chainedB ops j = true ∨ m.sub m' ∨ (sb = true ∧ Stab P ops listed j env m m')) ∧ Kc (put env o.dst v) m') (Kc (put env o.dst (.tup [])) m)
def anyA (P : Program) (ops : Array Oper) (sb : Bool) (Q : List AV → Mem → Prop) : Nat → Array Bool → List AV → Mem → Prop
  | 0, listed, env, m => Region.ready .any ops listed = [] ∧ Q env m
  | fuel + 1, listed, env, m => (Region.ready .any ops listed = [] → Q env m) ∧ ∀ i ∈ Region.ready .any ops listed, stA P ops sb listed i (anyA P ops sb Q fuel (listed.setIfInBounds i true)) env m

theorem opK_mono {op : Op} {ev : Operand → AV} {m : Mem} {K' K'' : AV → Mem → Prop} (h : opK P op ev m K') (hk : ∀ r m', K' r m' → K'' r m') : opK P op ev m K'' := by
  unfold opK at *
  split
  · rename_i r hr; rw [hr] at h; exact hk _ _ h
  · rename_i hr; rw [hr] at h; exact stepsK_sound.loud_mono h hk
theorem onK_mono {env : List AV} {g : Option (Option Nat × Bool)} {yes no yes' no' : Prop} (h : onK env g yes no) (hy : yes → yes') (hn : no → no') : onK env g yes' no' := by
  match g with
  | none => exact hy h
  | some (none, _) => exact hn h
  | some (some t, want) =>
    rw [onK_some'] at h ⊢
    generalize nth env t = v at h ⊢
    split at h
    · split at h
      · rw [if_pos ‹_›]; exact hy h
      · rw [if_neg ‹_›]; exact hn h
    · exact hn h
    · exact h.elim
theorem onK_cases {env : List AV} {g : Option (Option Nat × Bool)} {yes no : Prop} (h : onK env g yes no) : (yes ∧ ∀ a b : Prop, onK env g a b = a) ∨ (no ∧ ∀ a b : Prop, onK env g a b = b) := by
  match g with
  | none => exact .inl ⟨h, fun _ _ => rfl⟩
  | some (none, _) => exact .inr ⟨h, fun _ _ => rfl⟩
  | some (some t, want) =>
    simp only [onK_some'] at h ⊢
    generalize nth env t = v at h ⊢
    split at h
    · split at h
      · exact .inl ⟨h, fun a b => by rw [if_pos ‹_›]⟩
      · exact .inr ⟨h, fun a b => by rw [if_neg ‹_›]⟩
    · exact .inr ⟨h, fun _ _ => rfl⟩
    · exact h.elim
theorem anyA_sound {ops : Array Oper} {sb : Bool} {Q : List AV → Mem → Prop} {rd : Option Nat} {κ0 : K} {m0 : Mem} {w0 : World} {d0 : List Deferred} {Q' : Exit → Act → World → Prop}
    (hq : ∀ env' m' κ' w' a', Q env' m' → Step P κ0 m0 w0 κ' m' w' → Rels κ' env' a'.tmps → a'.defers = d0 → Q' .normal a' w') :
    ∀ (fuel : Nat) (listed : Array Bool) (env : List AV) (m : Mem), anyA P ops sb Q fuel listed env m →
    ∀ (κ : K) (w : World) (a : Act), Step P κ0 m0 w0 κ m w → Rels κ env a.tmps → a.defers = d0 → wpAnyIn (Fr rd) 0 P .any ops Q' fuel listed a w
  | 0, listed, env, m, h => fun κ w a hs hr hd => ⟨h.1, hq env m κ w a h.2 hs hr hd⟩
  | fuel + 1, listed, env, m, h => fun κ w a hs hr hd => by
    refine ⟨fun h0 => hq env m κ w a (h.1 h0) hs hr hd, fun i hi => ?_⟩
    have h1 := h.2 i hi
    unfold stA at h1
    unfold wpOpIn
    cases ho : ops[i]? with
    | none =>
      rw [ho] at h1
      exact anyA_sound hq fuel _ env m h1 κ w a hs hr hd
    | some o =>
      rw [ho] at h1
      simp only at h1 ⊢
      have h2 := onK_sound (ops := ops) (o := o) h1
      have fin : ∀ env' m' κ' w' a', anyA P ops sb Q fuel (listed.setIfInBounds i true) env' m' → Step P κ m w κ' m' w' → Rels κ' env' a'.tmps → a'.defers = a.defers → wpAnyIn (Fr rd) 0 P .any ops Q' fuel (listed.setIfInBounds i true) a' w' :=
        fun env' m' κ' w' a' g1 g2 g3 g4 => anyA_sound hq fuel _ env' m' g1 κ' w' a' (hs.trans g2) g3 (g4.trans hd)
      split at h2
      · rename_i hw
        rw [if_pos (wantedA_sound hr hw)]
        refine opK_sound hs.sim (evA_rel hr) h2 rd fun r m' κ' cv w' g1 g2 g3 => ?_
        refine fin _ m' κ' w' _ g1.2 g2 ((hr.mono g2.le).put o.dst g3) ?_
        cases o.dst <;> rfl
      · rename_i hw
        rw [if_neg (by rw [wantedA_sound hr hw]; simp)]
        refine ⟨fun _ _ => trivial, fin _ m κ w _ h2 (Step.refl hs.sim) (hr.put o.dst (.tup rfl fun i h => by simp at h)) ?_⟩
        cases o.dst <;> rfl
      · exact h2.elim

/-- Operation o comes to r. -/
def Firm (P : Program) (ops : Array Oper) (o : Oper) (r : AV) (env : List AV) (m : Mem) : Prop :=
  onK env (leanG ops o.guard) (quietA P m (evA env) o.op = some r ∨ ∀ m', m.sub m' → ∀ K' : AV → Mem → Prop, K' r m' → opK P o.op (evA env) m' K') (r = .tup [])
theorem nth_put {env : List AV} {d : Option Nat} {t : Nat} (v : AV) (h : ∀ x, d = some x → x ≠ t) : nth (put env d v) t = nth env t := by
  cases d with
  | none => rfl
  | some x =>
    have := h x rfl
    simp only [put, nth_eq, upd_eq]
    rw [List.getElem?_set_ne this]
theorem evA_put {env : List AV} {d : Option Nat} {v : AV} {x : Operand} (h : ∀ t, d = some t → x ≠ .tmp t) : evA (put env d v) x = evA env x := by
  cases x with
  | tmp t => exact nth_put v fun y hy e => h y hy (by rw [e])
  | _ => rfl
theorem put_comm {env : List AV} {x y : Option Nat} (v u : AV) (h : ∀ d, x = some d → y ≠ some d) : put (put env x v) y u = put (put env y u) x v := by
  cases x with
  | none => rfl
  | some d => cases y with
    | none => rfl
    | some e =>
      have hne : d ≠ e := fun he => h d rfl (he ▸ rfl)
      simp only [put, upd_eq]
      exact List.set_comm _ _ hne
section
variable {ops : Array Oper}
theorem looks_op {o : Oper} {d : Nat} (h : d ∉ o.looksAt ops) : ∀ x ∈ o.op.operands, x ≠ .tmp d := fun x hx e => h (by
  subst e
  exact List.mem_append_left _ (List.mem_filterMap.2 ⟨.tmp d, by simpa using hx, rfl⟩))
theorem looks_guard {o : Oper} {d : Option Nat} (h : ∀ x, d = some x → x ∉ o.looksAt ops) {env : List AV} (v : AV) (yes no : Prop) : onK (put env d v) (leanG ops o.guard) yes no = onK env (leanG ops o.guard) yes no := by
  unfold onK leanG
  cases hg : o.guard with
  | none => rfl
  | some jw =>
    obtain ⟨j, want⟩ := jw
    simp only
    cases ht : (ops[j]?).bind (·.dst) with
    | none => rfl
    | some t =>
      have : nth (put env d v) t = nth env t := nth_put v fun x hx e => h x hx (by
        refine List.mem_append_right _ ?_
        rw [hg]
        simp only [ht, e]; simp)
      simp only [this]
theorem evA_putE {o : Oper} {d : Option Nat} {env : List AV} {v : AV} (hd : ∀ x, d = some x → x ∉ o.looksAt ops) : ∀ x ∈ o.op.operands, evA (put env d v) x = evA env x :=
  fun x hx => evA_put fun t ht => looks_op (hd t ht) x hx
theorem Firm.put {o : Oper} {r : AV} {env : List AV} {m m' : Mem} (h : Firm P ops o r env m) (hsub : m.sub m') {d : Option Nat} (v : AV) (hd : ∀ x, d = some x → x ∉ o.looksAt ops) : Firm P ops o r (put env d v) m' := by
  unfold Firm at *
  rw [looks_guard hd]
  refine onK_mono h (fun h => ?_) id
  rcases h with h | h
  · exact .inl (by rw [quietA_congr (ev' := evA env) (evA_putE hd)]; exact quietA_mono hsub h)
  · refine .inr fun m'' hm K' hk => ?_
    rw [opK_congr (ev' := evA env) (evA_putE hd)]
    exact h m'' (hsub.trans hm) K' hk
theorem Firm.stab {o : Oper} {r : AV} {env : List AV} {m m' : Mem} (h : Firm P ops o r env m) {d d' : Option Nat} (v v' : AV) (hd : ∀ x, d = some x → x ∉ o.looksAt ops) (hd' : ∀ x, d' = some x → x ∉ o.looksAt ops)
    (hs : onK (Go.Abs.put env d v) (leanG ops o.guard) ((quietA P m (evA (Go.Abs.put env d v)) o.op).isSome = true ∧ quietA P m' (evA (Go.Abs.put env d v)) o.op = quietA P m (evA (Go.Abs.put env d v)) o.op) True) : Firm P ops o r (Go.Abs.put env d' v') m' := by
  unfold Firm at *
  rw [looks_guard hd, quietA_congr (m := m) (ev' := evA env) (evA_putE hd), quietA_congr (m := m') (ev' := evA env) (evA_putE hd)] at hs
  rw [looks_guard hd']
  rcases onK_cases h with ⟨h, e⟩ | ⟨h, e⟩
  · rw [e] at hs ⊢
    obtain ⟨h1, h2⟩ := hs
    have hq : quietA P m (evA env) o.op = some r := by
      rcases h with h | h
      · exact h
      · cases hq : quietA P m (evA env) o.op with
        | none => rw [hq] at h1; cases h1
        | some r' =>
          have := h m (Mem.sub.refl m) (fun x _ => x = r) rfl
          unfold opK at this
          rw [hq] at this
          rw [show r' = r from this]
    exact .inl (by rw [quietA_congr (m := m') (ev' := evA env) (evA_putE hd'), h2, hq])
  · rw [e]; exact h
theorem Firm.st {sb : Bool} {listed : Array Bool} {i : Nat} {o : Oper} (hi : ops[i]? = some o) {r : AV} {env : List AV} {m : Mem} (h : Firm P ops o r env m) {Kc : List AV → Mem → Prop} (hk : Kc (Go.Abs.put env o.dst r) m) : stA P ops sb listed i Kc env m := by
  unfold stA
  simp only [hi]
  refine onK_mono h (fun h => ?_) (fun h => by rw [h] at hk; exact hk)
  rcases h with h | h
  · unfold opK; rw [h]; exact ⟨.inr (.inl (Mem.sub.refl m)), hk⟩
  · exact h m (Mem.sub.refl m) _ ⟨.inr (.inl (Mem.sub.refl m)), hk⟩
theorem stA_mono {sb : Bool} {listed : Array Bool} {j : Nat} {Kc Kc' : List AV → Mem → Prop} {env : List AV} {m : Mem} (h : stA P ops sb listed j Kc env m) (hk : ∀ e m', Kc e m' → Kc' e m') : stA P ops sb listed j Kc' env m := by
  unfold stA at *
  split
  · rename_i ho; rw [ho] at h; exact hk _ _ h
  · rename_i o ho; rw [ho] at h
    exact onK_mono h (fun h => opK_mono h fun r m' ⟨a, b⟩ => ⟨a, hk _ _ b⟩) (hk _ _)
/-- No operation that is done, nor i itself, looks at what i will put. -/
def Late (ops : Array Oper) (listed : Array Bool) (i : Nat) (oi : Oper) : Prop := ∀ i' o', ops[i']? = some o' → (i' = i ∨ listed.getD i' false = true) → ∀ d, oi.dst = some d → d ∉ o'.looksAt ops
/-- Operation j, with operation i's value there or not. -/
theorem stA_put {sb : Bool} {listed : Array Bool} {i j : Nat} {oi oj : Oper} {v : AV} (hi : ops[i]? = some oi) (hj : ops[j]? = some oj) (hap : oi.apart ops oj = true) (hch : chainedB ops j = false) (hlate : sb = true → Late ops listed i oi) (hiu : listed.getD i true = false) (hji : reachB ops 8 j i = false) {Kc : List AV → Mem → Prop} {env : List AV} {m : Mem}
    (hy : Firm P ops oi v env m) (h : stA P ops sb (listed.setIfInBounds i true) j Kc (put env oi.dst v) m) : stA P ops sb listed j (fun e m' => Firm P ops oi v e m' ∧ Kc (put e oi.dst v) m') env m := by
  obtain ⟨h1, h2, h3⟩ := Oper.apart_spec hap
  have hil : i < listed.size := by
    rcases Nat.lt_or_ge i listed.size with h' | h'
    · exact h'
    · simp [Array.getElem?_eq_none h'] at hiu
  unfold stA at *
  simp only [hj] at *
  rw [looks_guard h1] at h
  refine onK_mono h (fun h => ?_) (fun h => ⟨hy.put (Mem.sub.refl m) _ h3, by rw [← put_comm v _ h2]; exact h⟩)
  rw [opK_congr (ev' := evA env) fun x hx => evA_put fun t ht => looks_op (h1 t ht) x hx] at h
  refine opK_mono h fun r m' ⟨a, b⟩ => ?_
  rcases a with a | a | a
  · rw [hch] at a; cases a
  · exact ⟨.inr (.inl a), hy.put a _ h3, by rw [← put_comm v _ h2]; exact b⟩
  · obtain ⟨hsb, a⟩ := a
    have hself : ∀ x, oi.dst = some x → x ∉ oi.looksAt ops := hlate hsb i oi hi (.inl rfl)
    refine ⟨.inr (.inr ⟨hsb, fun i' o' ho' hl' hr' => ?_⟩), hy.stab (d := oi.dst) v _ hself h3 (a i oi hi (by simp [Array.getElem?_setIfInBounds_self, hil]) hji), by rw [← put_comm v _ h2]; exact b⟩
    have hd := hlate hsb i' o' ho' (.inr hl')
    have := a i' o' ho' (by
      by_cases e : i = i'
      · subst e; simp [Array.getElem?_setIfInBounds_self, hil]
      · rw [getD_set_ne false e]; exact hl') hr'
    rw [looks_guard hd, quietA_congr (m := m) (ev' := evA env) (evA_putE hd), quietA_congr (m := m') (ev' := evA env) (evA_putE hd)] at this
    exact this
theorem Closed.step {listed : Array Bool} (hcl : Closed ops listed) {j : Nat} (hj : j ∈ Region.ready .any ops listed) : Closed ops (listed.setIfInBounds j true) := fun x o ho hx e he hb => by
  obtain ⟨_, oj, hoj, hall⟩ := mem_ready.1 hj
  have keep : ∀ y, listed.getD y false = true → (listed.setIfInBounds j true).getD y false = true := fun y hy => by
    by_cases e : j = y
    · subst e
      rw [Array.getD_eq_getD_getElem?] at hy ⊢
      rcases Nat.lt_or_ge j listed.size with h' | h'
      · simp [h']
      · simp [Array.getElem?_eq_none h'] at hy
    · rw [getD_set_ne false e]; exact hy
  by_cases e' : j = x
  · subst e'
    rw [hoj] at ho; cases ho
    exact keep _ (hall e he hb)
  · rw [getD_set_ne false e'] at hx
    exact keep _ (hcl x o ho hx e he hb)
theorem anyA_first {sb : Bool} {Q : List AV → Mem → Prop} {i : Nat} {oi : Oper} {v : AV} (hi : ops[i]? = some oi) :
    ∀ (fuel : Nat) (listed : Array Bool) (env : List AV) (m : Mem),
      (∀ j oj, ops[j]? = some oj → j ≠ i → listed.getD j true = false → (∀ e ∈ oj.after, Region.binds .any e = true → e.on ≠ i) → oi.apart ops oj = true) →
      (sb = true → Late ops listed i oi) → Closed ops listed → i ∈ Region.ready .any ops listed → Firm P ops oi v env m →
      anyA P ops sb Q fuel (listed.setIfInBounds i true) (put env oi.dst v) m → anyA P ops sb Q (fuel + 1) listed env m := by
  intro fuel
  induction fuel with
  | zero =>
    intro listed env m _ _ _ hr hy H
    refine ⟨fun h => (by rw [h] at hr; cases hr), fun j hj => ?_⟩
    by_cases hji : j = i
    · subst hji; exact hy.st hi H
    · have := ready_mono hj hji
      rw [H.1] at this
      cases this
  | succ fuel ih =>
    intro listed env m hfree hlate hcl hr hy H
    refine ⟨fun h => (by rw [h] at hr; cases hr), fun j hj => ?_⟩
    by_cases hji : j = i
    · subst hji; exact hy.st hi H
    · have h1 := H.2 j (ready_mono hj hji)
      obtain ⟨hjun, oj, hoj, hall⟩ := mem_ready.1 hj
      obtain ⟨hiun, oi', hoi, halli⟩ := mem_ready.1 hr
      rw [hi] at hoi; cases hoi
      have unl : ∀ {x : Nat}, listed.getD x true = false → listed.getD x false = true → False := fun {x} h0 h1 => by
        rcases Nat.lt_or_ge x listed.size with h' | h'
        · simp [h'] at h0 h1; rw [h0] at h1; cases h1
        · simp [Array.getElem?_eq_none h'] at h1
      have hnot : ∀ e ∈ oj.after, Region.binds .any e = true → e.on ≠ i := fun e he hb heq => by
        have h1 := hall e he hb
        rw [heq] at h1
        exact unl hiun h1
      have hnot' : ∀ e ∈ oi.after, Region.binds .any e = true → e.on ≠ j := fun e he hb heq => by
        have h1 := halli e he hb
        rw [heq] at h1
        exact unl hjun h1
      have hji' : reachB ops 8 j i = false := by
        cases hc : reachB ops 8 j i with
        | false => rfl
        | true => exact (unl hiun (reachB_listed hcl 8 j i (fun o ho => by rw [hoj] at ho; cases ho; exact hall) hc)).elim
      have hch : chainedB ops j = false := by
        cases hc : chainedB ops j with
        | false => rfl
        | true =>
          have := List.all_eq_true.1 hc i (by simp; exact (Array.getElem?_eq_some_iff.1 hi).1)
          simp only [Bool.or_eq_true, beq_iff_eq] at this
          rcases this with (h | h) | h
          · exact absurd h.symm hji
          · exact (unl hiun (reachB_listed hcl 8 j i (fun o ho => by rw [hoj] at ho; cases ho; exact hall) h)).elim
          · exact (unl hjun (reachB_listed hcl 8 i j (fun o ho => by rw [hi] at ho; cases ho; exact halli) h)).elim
      have h2 := stA_put hi hoj (hfree j oj hoj hji hjun hnot) hch hlate hiun hji' hy h1
      have hfree' : ∀ k ok, ops[k]? = some ok → k ≠ i → (listed.setIfInBounds j true).getD k true = false →
          (∀ e ∈ ok.after, Region.binds .any e = true → e.on ≠ i) → oi.apart ops ok = true := fun k ok hk hki hun hno => by
        refine hfree k ok hk hki ?_ hno
        by_cases hjk : j = k
        · subst hjk; exact hjun
        · rw [getD_set_ne true hjk] at hun; exact hun
      have hlate' : sb = true → Late ops (listed.setIfInBounds j true) i oi := fun hsb i' o' ho' hl' d hd => by
        by_cases e : j = i'
        · subst e
          rw [hoj] at ho'; cases ho'
          exact (Oper.apart_spec (hfree j oj hoj hji hjun hnot)).1 d hd
        · refine hlate hsb i' o' ho' (hl'.imp_right fun h => ?_) d hd
          rwa [getD_set_ne false e] at h
      refine stA_mono h2 fun e m' h3 => ih (listed.setIfInBounds j true) e m' hfree' hlate' (hcl.step hj) (ready_mono hr (Ne.symm hji)) h3.1 ?_
      rw [Array.setIfInBounds_comm _ _ hji]
      exact h3.2
end

/-! ### One order for all -/
/-- A contract of a call that makes its result and no more. -/
def PureCV (P : Program) (f : AV) (args : List AV) (m : Mem) (K' : AV → Prop) : Prop :=
  match f with
  | .fn (.func g) first caps => ∃ args' R, F P g args' R ∧ Seens m (first ++ args ++ caps) args' ∧ K' R
  | _ => False
def firstK (P : Program) (op : Op) (ev : Operand → AV) (m : Mem) (K' : AV → Prop) : Prop :=
  match quietA P m ev op with
  | some r => K' r
  | none => match op with
    | .call { callee := .value f, args, .. } => PureCV P (ev f) (args.toList.map ev) m K'
    | _ => False
theorem Seen.mono {m m' : Mem} (h : m.sub m') {x y : AV} (hs : Seen m x y) : Seen m' x y := by
  induction hs with
  | same => exact .same
  | nilS => exact .nilS
  | agg a _ ih => exact .agg a ih
  | tup a _ ih => exact .tup a ih
  | sl hm a b c _ ih => exact .sl (h _ _ hm) a b c ih
  | ptr hm a b _ ih => exact .ptr (h _ _ hm) a b ih
  | fn a _ b _ ih ih' => exact .fn a ih b ih'
theorem firstK_firm {op : Op} {ev : Operand → AV} {m : Mem} {K' : AV → Prop} (h : firstK P op ev m K') : ∃ r, K' r ∧ ∀ m', m.sub m' → ∀ K'' : AV → Mem → Prop, K'' r m' → opK P op ev m' K'' := by
  unfold firstK at h
  split at h
  · rename_i r hr
    exact ⟨r, h, fun m' hm K'' hk => by unfold opK; rw [quietA_mono hm hr]; exact hk⟩
  · rename_i hr
    split at h
    · rename_i f args ats
      unfold PureCV at h
      split at h
      · rename_i g first caps ef
        obtain ⟨args', R, h1, h2, h3⟩ := h
        refine ⟨R, h3, fun m' hm K'' hk => ?_⟩
        show CW P (ev f) (args.toList.map ev) m' K''
        rw [ef]
        exact Or.inl <| C.of_F h1 ⟨h2.1, fun i a b => (h2.2 i a b).mono hm⟩ hk
      · exact h.elim
    · exact h.elim

/-- Looked at ahead, it is what it would be now. -/
def stabK (P : Program) (acc : List Ln) (env : List AV) (m m' : Mem) : Prop := ∀ o ∈ acc, onK env o.g ((quietA P m (evA env) o.op).isSome = true ∧ quietA P m' (evA env) o.op = quietA P m (evA env) o.op) True
/-- The way through: each operation either may come first, or is the only one that may come (with those that were taken ahead of it and need not have been). -/
def planK (P : Program) (Q : List AV → Mem → Prop) : List (Ln × Bool × Option (List Ln)) → List AV → Mem → Prop
  | [], env, m => Q env m
  | (o, true, _) :: rest, env, m => onK env o.g (firstK P o.op (evA env) m fun v => planK P Q rest (put env o.dst v) m) (planK P Q rest (put env o.dst (.tup [])) m)
  | (o, false, none) :: rest, env, m => onK env o.g (opK P o.op (evA env) m fun v m' => planK P Q rest (put env o.dst v) m') (planK P Q rest (put env o.dst (.tup [])) m)
  | (o, false, some acc) :: rest, env, m => onK env o.g (opK P o.op (evA env) m fun v m' => (m.sub m' ∨ stabK P acc env m m') ∧ planK P Q rest (put env o.dst v) m') (planK P Q rest (put env o.dst (.tup [])) m)
def lnOf (ops : Array Oper) (k : Nat) : List Ln := match ops[k]? with | some o => [⟨o.op, o.dst, leanG ops o.guard⟩] | none => []
def lateB (ops : Array Oper) (prev : List Nat) (o : Oper) : Bool := match o.dst with
  | none => true
  | some d => prev.all fun e => match ops[e]? with | some o' => !(o'.looksAt ops).contains d | none => true
/-- No look at anything. -/
def noLn : Ln := ⟨.store 0 (.tmp 0) (.tmp 0), none, none⟩
def planFrom (ops : Array Oper) (sb : Bool) : List Nat → List (Nat × Bool) → Array Bool → Option (List (Ln × Bool × Option (List Ln)))
  | _, [], listed => if (Region.ready .any ops listed).isEmpty then some [] else none
  | prev, (k, true) :: rest, listed => match ops[k]? with
    | some o => if (Region.ready .any ops listed).contains k && Region.free .any ops listed k && (!sb || lateB ops (k :: prev) o) then (planFrom ops sb (k :: prev) rest (listed.setIfInBounds k true)).map fun l => (⟨o.op, o.dst, leanG ops o.guard⟩, true, none) :: l else none
    | none => none
  | prev, (k, false) :: rest, listed => match ops[k]? with
    | some o => if Region.ready .any ops listed == [k] then (planFrom ops sb (k :: prev) rest (listed.setIfInBounds k true)).map fun l => (⟨o.op, o.dst, leanG ops o.guard⟩, false, if chainedB ops k then none else if sb then some ((prev.filter fun e => !reachB ops 8 k e).flatMap (lnOf ops)) else some [noLn]) :: l else none
    | none => none
theorem listed_set {listed : Array Bool} {prev : List Nat} {k : Nat} (h : ∀ i, listed.getD i false = true → i ∈ prev) : ∀ i, (listed.setIfInBounds k true).getD i false = true → i ∈ k :: prev := fun i hi => by
  by_cases e : k = i
  · simp [e]
  · rw [getD_set_ne false e] at hi; simp [h i hi]
theorem planK_sound {ops : Array Oper} {sb : Bool} {Q : List AV → Mem → Prop} : ∀ (prev : List Nat) (ks : List (Nat × Bool)) (listed : Array Bool) (l : List (Ln × Bool × Option (List Ln))), planFrom ops sb prev ks listed = some l → Closed ops listed → (∀ i, listed.getD i false = true → i ∈ prev) → ∀ (env : List AV) (m : Mem), planK P Q l env m → anyA P ops sb Q ks.length listed env m
  | prev, [], listed, l, hp, hcl, hpv, env, m, h => by
    simp only [planFrom] at hp
    split at hp
    · rename_i he; cases hp; exact ⟨by simpa using he, h⟩
    · cases hp
  | prev, (k, true) :: rest, listed, l, hp, hcl, hpv, env, m, h => by
    simp only [planFrom] at hp
    split at hp
    · rename_i o ho
      split at hp
      · rename_i hc
        simp only [Bool.and_eq_true] at hc
        obtain ⟨⟨hc1, hc2⟩, hc3⟩ := hc
        cases hpl : planFrom ops sb (k :: prev) rest (listed.setIfInBounds k true) with
        | none => rw [hpl] at hp; cases hp
        | some l' =>
          rw [hpl] at hp; cases hp
          simp only [planK] at h
          have ⟨v, hv, hk⟩ : ∃ v, Firm P ops o v env m ∧ planK P Q l' (put env o.dst v) m := by
            unfold Firm
            rcases onK_cases h with ⟨h, e⟩ | ⟨h, e⟩
            · cases hq : quietA P m (evA env) o.op with
              | some r =>
                have h' := h
                unfold firstK at h'
                rw [hq] at h'
                exact ⟨r, by rw [e]; exact .inl rfl, h'⟩
              | none => obtain ⟨r, a, b⟩ := firstK_firm h; exact ⟨r, by rw [e]; exact .inr b, a⟩
            · exact ⟨.tup [], by rw [e], h⟩
          have hlate : sb = true → Late ops listed k o := fun hsb i' o' ho' hl' d hd => by
            have hmem : i' ∈ k :: prev := by
              rcases hl' with rfl | hl'
              · simp
              · simp [hpv i' hl']
            subst hsb
            simp only [Bool.not_true, Bool.false_or] at hc3
            unfold lateB at hc3
            rw [hd] at hc3
            have := List.all_eq_true.1 hc3 i' hmem
            rw [ho'] at this
            simpa using this
          exact anyA_first ho rest.length listed env m (Region.free_spec ho hc2) hlate hcl (by simpa using hc1) hv (planK_sound (k :: prev) rest _ l' hpl (hcl.step (by simpa using hc1)) (listed_set hpv) _ m hk)
      · cases hp
    · cases hp
  | prev, (k, false) :: rest, listed, l, hp, hcl, hpv, env, m, h => by
    simp only [planFrom] at hp
    split at hp
    · rename_i o ho
      split at hp
      · rename_i hc
        have hc : Region.ready .any ops listed = [k] := by simpa using hc
        cases hpl : planFrom ops sb (k :: prev) rest (listed.setIfInBounds k true) with
        | none => rw [hpl] at hp; cases hp
        | some l' =>
          rw [hpl] at hp; cases hp
          refine ⟨fun h0 => (by rw [hc] at h0; cases h0), fun i hi => ?_⟩
          rw [hc] at hi
          have : i = k := by simpa using hi
          subst this
          have hrec : ∀ env m, planK P Q l' env m → anyA P ops sb Q rest.length (listed.setIfInBounds i true) env m := fun env m => planK_sound (i :: prev) rest _ l' hpl (hcl.step (by rw [hc]; simp)) (listed_set hpv) env m
          unfold stA
          simp only [ho]
          cases hch : chainedB ops i with
          | true =>
            simp only [hch, if_true, planK] at h
            exact onK_mono h (fun h => opK_mono h fun r m' b => ⟨.inl rfl, hrec _ m' b⟩) (fun h => hrec _ m h)
          | false =>
            cases sb with
            | true =>
              simp only [hch, Bool.false_eq_true, if_false, if_true, planK] at h
              refine onK_mono h (fun h => opK_mono h fun r m' ⟨a, b⟩ => ⟨.inr (a.imp_right fun hs => ⟨rfl, fun i' o' ho' hl' hr' => ?_⟩), hrec _ m' b⟩) (fun h => hrec _ m h)
              refine hs ⟨o'.op, o'.dst, leanG ops o'.guard⟩ (List.mem_flatMap.2 ⟨i', List.mem_filter.2 ⟨hpv i' hl', by rw [hr']; rfl⟩, ?_⟩)
              simp [lnOf, ho']
            | false =>
              simp only [hch, Bool.false_eq_true, if_false, planK] at h
              refine onK_mono h (fun h => opK_mono h fun r m' ⟨a, b⟩ => ⟨.inr (a.imp_right fun hs => ?_), hrec _ m' b⟩) (fun h => hrec _ m h)
              have := (hs noLn (by simp)).1
              simp [noLn, quietA] at this
      · cases hp
    · cases hp

theorem W.plan {rd : Option Nat} {Q : Exit → List AV → Mem → Prop} {env : List AV} {m : Mem} {id : Nat} {ops : Array Oper} {sb : Bool} {ks : List (Nat × Bool)} {l : List (Ln × Bool × Option (List Ln))} (hm : P.follows .mixedOrders = true)
    (hp : planFrom ops sb [] ks (Array.replicate ops.size false) = some l) (hl : ks.length = ops.size) (h : planK P (Q .normal) l env m) : W P rd (.region id ops true) Q env m := by
  intro κ w a crd hs hr hrd
  have hst := Step.drew hs
  refine wpIn_region_any' hm ?_
  have := planK_sound [] ks _ l hp (Closed.none _ _) (fun i hi => by rw [Array.getD_eq_getD_getElem?, Array.getElem?_replicate] at hi; split at hi <;> simp at hi) env m h
  rw [hl] at this
  refine anyA_sound (κ0 := κ) (m0 := m) (w0 := w) (d0 := a.defers) (rd := crd) ?_ _ _ env m this κ w.drew a hst hr rfl
  intro env' m' κ' w' a' g1 g2 g3 g4
  exact ⟨env', m', κ', trivial, g1, g2, g3, by rw [g4]; exact Marks.refl ..⟩
end Go.Abs
