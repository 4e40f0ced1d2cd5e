/- The abstract layer, thirteenth part: code. -/
import Derived.Test.YteilhoojlcpbpaaA12
import Derived.Deep.Quiet
set_option linter.unusedVariables false
set_option linter.unusedSimpArgs false
namespace Go.Abs
variable {P : Program}

/-! ### Rows of operations -/
def wantedA (ops : Array Oper) (env : List AV) (o : Oper) : Option Bool :=
  match o.guard with
  | none => some true
  | some (j, want) => match (ops[j]?).bind (·.dst) with
    | none => some false
    | some t => match nth env t with
      | .val (.bool b) => some (b == want)
      | .tup [] => some false
      | _ => none
theorem wantedA_sound {κ : K} {env : List AV} {a : Act} (hr : Rels κ env a.tmps) {ops : Array Oper} {o : Oper} {b : Bool} (h : wantedA ops env o = some b) : Region.wanted o (yielded ops a.tmps) = b := by
  unfold wantedA at h
  unfold Region.wanted
  split at h
  · rename_i e; rw [e]; cases h; rfl
  · rename_i j want e
    rw [e]
    simp only
    unfold yielded
    split at h
    · rename_i e2; rw [e2]; cases h; rfl
    · rename_i t e2
      rw [e2]
      simp only [Option.bind_some]
      have hv := hr.nth t
      split at h
      · rename_i b' e3
        cases h
        rw [e3] at hv
        obtain ⟨g, _⟩ := hv.val_inv
        have : a.tmps[t]? = some (.bool b') := by
          unfold Array.getD at g
          split at g
          · rename_i hlt; rw [Array.getElem?_eq_getElem hlt, ← g]; rfl
          · cases g
        rw [this]
        cases b' <;> cases want <;> rfl
      · rename_i e3
        cases h
        rw [e3] at hv
        have g : a.tmps.getD t undef = .tuple #[] := by
          generalize a.tmps.getD t undef = v at hv
          cases hv with
          | @tup _ ca hl _ => cases ca with | mk l => cases l with | nil => rfl | cons _ _ => simp at hl
        cases hh : a.tmps[t]? with
        | none => rfl
        | some v =>
          have : v = .tuple #[] := by
            unfold Array.getD at g
            obtain ⟨hlt, e4⟩ := Array.getElem?_eq_some_iff.1 hh
            rw [dif_pos hlt] at g
            rw [← e4]; exact g
          subst this; rfl
      · cases h

def opsK (P : Program) (ops : Array Oper) (Q : List AV → Mem → Prop) : List Oper → List AV → Mem → Prop
  | [], env, m => Q env m
  | o :: rest, env, m => match wantedA ops env o with
    | some true => opK P o.op (evA env) m fun v m' => opsK P ops Q rest (put env o.dst v) m'
    | some false => opsK P ops Q rest (put env o.dst (.tup [])) m
    | none => False

/-- The same for operations that write nothing and make nothing: they may come in whatever order. -/
def opsQ (P : Program) (ops : Array Oper) (Q : List AV → Mem → Prop) : List Oper → List AV → Mem → Prop
  | [], env, m => Q env m
  | o :: rest, env, m => match wantedA ops env o with
    | some true => match quietA P m (evA env) o.op with
      | some r => opsQ P ops Q rest (put env o.dst r) m
      | none => False
    | some false => opsQ P ops Q rest (put env o.dst (.tup [])) m
    | none => False

theorem opsK_sound {ops : Array Oper} {Q : List AV → Mem → Prop} (rd : Option Nat) : ∀ (l : List Oper) (k : Nat), (∀ j, l[j]? = ops[k + j]?) → ∀ (env : List AV) (m : Mem), opsK P ops Q l env m →
    ∀ (κ : K) (w : World) (a : Act), Sim P κ m w → Rels κ env a.tmps → ∀ {Q' : Exit → Act → World → Prop},
      (∀ env' m' κ' w' a', Q env' m' → Step P κ m w κ' m' w' → Rels κ' env' a'.tmps → a'.defers = a.defers → Q' .normal a' w') → wpOpsIn (Fr rd) 0 P ops Q' (List.range' k l.length) a w
  | [], k, hl, env, m, h => by
    intro κ w a hs hr Q' hq
    exact hq env m κ w a h (Step.refl hs) hr rfl
  | o :: l, k, hl, env, m, h => by
    intro κ w a hs hr Q' hq
    have h0 : ops[k]? = some o := by simpa using (hl 0).symm
    have hl' : ∀ j, l[j]? = ops[k + 1 + j]? := fun j => by have := hl (j + 1); simpa [Nat.add_assoc, Nat.add_comm 1 j] using this
    have ih := opsK_sound (ops := ops) (Q := Q) rd l (k + 1) hl'
    simp only [List.length_cons, List.range'_succ, wpOpsIn, h0]
    simp only [opsK] at h
    have fin : ∀ env' m' κ' w' a', opsK P ops Q l env' m' → Step P κ m w κ' m' w' → Rels κ' env' a'.tmps → a'.defers = a.defers → wpOpsIn (Fr rd) 0 P ops Q' (List.range' (k + 1) l.length) a' w' := by
      intro env' m' κ' w' a' h1 h2 h3 h4
      exact ih env' m' h1 κ' w' a' h2.sim h3 fun env'' m'' κ'' w'' a'' g1 g2 g3 g4 => hq env'' m'' κ'' w'' a'' g1 (h2.trans g2) g3 (g4.trans h4)
    split at h
    · rename_i hw
      have hw' := wantedA_sound hr hw
      rw [if_pos hw']
      refine opK_sound hs (evA_rel hr) h rd fun r m' κ' cv w' h1 h2 h3 => ?_
      refine fin _ m' κ' w' _ h1 h2 ((hr.mono h2.le).put o.dst h3) ?_
      cases o.dst <;> rfl
    · rename_i hw
      have hw' := wantedA_sound hr hw
      rw [if_neg (by rw [hw']; simp)]
      refine ⟨fun _ _ => trivial, fin _ m κ w _ h (Step.refl hs) (hr.put o.dst (.tup rfl fun i h => by simp at h)) ?_⟩
      cases o.dst <;> rfl
    · exact h.elim

/-! ### Regions that draw their order: quiet operations -/
theorem wpOpIn_of_qOp {rd : Option Nat} {ops : Array Oper} {C' : World → Prop} {i : Nat} {a : Act} {K' : Act → Prop} {K'' : Act → World → Prop} {Q' : Exit → Act → World → Prop} {w : World}
    (hd : ∀ (i : Nat) (o : Oper) c, ops[i]? = some o → o.op ≠ .defer c) (hC : C' w) (h : ∀ a w', C' w' → K' a → K'' a w') (hh : qOp P ops C' i K' a) : wpOpIn (Fr rd) 0 P ops Q' i K'' a w := by
  unfold qOp at hh
  unfold wpOpIn
  split
  · rename_i ho; simp only [ho] at hh; exact h _ _ hC hh
  · rename_i o ho
    simp only [ho] at hh
    split
    · rename_i hw
      simp only [hw, if_true] at hh
      obtain ⟨v, h1, h2⟩ := hh
      have h3 := h1 w hC
      refine ⟨fun _ _ => trivial, ?_⟩
      show o.uponIn (Fr rd) 0 P a K'' Q' ((o.semAt rd a.eval).run P w)
      rw [Oper.semAt_eq rd a.eval o (fun c => hd i o c ho)]
      unfold Oper.quietAt at h3
      generalize (execOp a.eval o).run P w = r at *
      cases r with
      | ok n w' =>
        cases n <;> simp only [Oper.quietUpon] at h3 <;> simp only [Oper.uponIn]
        case value u => obtain ⟨rfl, rfl⟩ := h3; exact h _ _ hC h2
        case skip => obtain ⟨rfl, rfl⟩ := h3; exact h _ _ hC h2
        case enter f args =>
          obtain ⟨rfl, hc⟩ := h3
          refine ⟨Fr_depth rd, ?_⟩
          have hc' : CallsIn (Fr rd) (0 - 1) P f args w' _ := (callsIn_wide (n := 0)).2 hc
          exact hc'.mono fun e w'' ⟨he, hw''⟩ => by subst he; exact h _ _ hw'' h2
      | halt x w' => simp only [Oper.quietUpon] at h3
    · rename_i hw
      simp only [hw] at hh
      exact ⟨fun _ _ => trivial, h _ _ hC hh⟩
theorem wpAnyIn_of_quiet {rd : Option Nat} {ops : Array Oper} {C' : World → Prop} {md : Region.Mode} {Q : Act → Prop} {Q' : Exit → Act → World → Prop} (hd : ∀ (i : Nat) (o : Oper) c, ops[i]? = some o → o.op ≠ .defer c)
    (hQ : ∀ a w, C' w → Q a → Q' .normal a w) : ∀ (fuel : Nat) (listed : Array Bool) (a : Act) (w : World), C' w → wpAnyQ P md ops C' Q fuel listed a → wpAnyIn (Fr rd) 0 P md ops Q' fuel listed a w
  | 0, _, _, _, hw, h => ⟨h.1, hQ _ _ hw h.2⟩
  | fuel + 1, _, _, _, hw, h => ⟨fun h0 => hQ _ _ hw (h.1 h0), fun i hi => wpOpIn_of_qOp hd hw (fun a' w' hw' => wpAnyIn_of_quiet hd hQ fuel _ a' w' hw') (h.2 i hi)⟩
theorem wpIn_region_any' {rd : Option Nat} {ops : Array Oper} {Q : Exit → Act → World → Prop} {id : Nat} {a : Act} {w : World} (hm : P.follows .mixedOrders = true)
    (h : wpAnyIn (Fr rd) 0 P .any ops Q ops.size (Array.replicate ops.size false) a w.drew) : (Code.region id ops true).wpIn (Fr rd) 0 P Q a w :=
  wpIn_region_draw fun t => by
    simp only [Region.schedule, hm, Bool.true_or, if_true]
    exact wpAnyIn_sound ops.size t _ a _ h

theorem opsQ_sound {ops : Array Oper} {Q : List AV → Mem → Prop} : ∀ (l : List Oper) (env : List AV) (m : Mem), opsQ P ops Q l env m →
    ∀ (κ : K) (w : World) (a : Act), Sim P κ m w → Rels κ env a.tmps → ∀ {Q' : Act → Prop},
      (∀ env' a', Q env' m → Rels κ env' a'.tmps → a'.defers = a.defers → Q' a') → wpQuiet P ops (fun w' => w' = w) Q' l a
  | [], env, m, h => by
    intro κ w a hs hr Q' hq
    exact hq env a h hr rfl
  | o :: l, env, m, h => by
    intro κ w a hs hr Q' hq
    simp only [opsQ] at h
    simp only [wpQuiet]
    split at h
    · rename_i hw
      rw [if_pos (wantedA_sound hr hw)]
      split at h
      · rename_i r hqr
        obtain ⟨cv, h1, h2⟩ := quietA_sound hs (evA_rel hr) hqr
        refine ⟨cv, fun w' hw' => ?_, ?_⟩
        · subst hw'
          unfold Oper.quietAt
          rw [h2 w' (Ext.refl w')]
          exact ⟨rfl, rfl⟩
        · refine opsQ_sound l _ m h κ w _ hs (hr.put o.dst h1) fun env' a' g1 g2 g3 => hq env' a' g1 g2 (g3.trans ?_)
          cases o.dst <;> rfl
      · exact h.elim
    · rename_i hw
      rw [if_neg (by rw [wantedA_sound hr hw]; simp)]
      refine opsQ_sound l _ m h κ w _ hs (hr.put o.dst (.tup rfl fun i h => by simp at h)) fun env' a' g1 g2 g3 => hq env' a' g1 g2 (g3.trans ?_)
      cases o.dst <;> rfl
    · exact h.elim

/-! ### Code -/
/-- The marks that loops over functions leave among the deferred calls. -/
def markOf (r : Nat) : Deferred := { target := .collected r, args := #[] }
def Marks (w w' : World) (ds ds' : List Deferred) : Prop :=
  ∃ rs : List Nat, ds' = rs.map markOf ++ ds ∧ rs.Nodup ∧ ∀ r ∈ rs, w.heap.size ≤ r ∧ w'.heap[r]? = some (.deferred (some []))
theorem Marks.refl (w w' : World) (ds : List Deferred) : Marks w w' ds ds := ⟨[], rfl, List.nodup_nil, fun r h => by simp at h⟩
theorem Sim.notBacks {κ : K} {m : Mem} {w : World} (hs : Sim P κ m w) {r : Nat} {d : Option (List Deferred)} (h : w.heap[r]? = some (.deferred d)) : ¬ Backs κ m r := by
  rintro ⟨n, l, h1, h2, rfl⟩
  cases hm : m n with
  | none => exact h2 hm
  | some b =>
    rcases hs.blk n b hm with ⟨l', e1, e2, _⟩ | ⟨e1, _⟩
    · rw [h1] at e1; cases e1
      cases b with
      | cells opn t cs => obtain ⟨arr, t', fz, z1, _⟩ := e2; rw [h] at z1; cases z1
      | map es => obtain ⟨ents, clock, z1, _⟩ := e2; rw [h] at z1; cases z1
      | loop st pend env ps asg body => obtain ⟨r, z1, _⟩ := e2; rw [h] at z1; cases z1
    · rw [h1] at e1; cases e1
theorem Marks.trans {κ κ' : K} {m m' : Mem} {w w1 w2 : World} {d d1 d2 : List Deferred} (h : Marks w w1 d d1) (hs : Step P κ m w1 κ' m' w2) (hsim : Sim P κ m w1) (hsz : w.heap.size ≤ w1.heap.size) (h' : Marks w1 w2 d1 d2) : Marks w w2 d d2 := by
  obtain ⟨rs, e1, n1, f1⟩ := h
  obtain ⟨rs', e2, n2, f2⟩ := h'
  refine ⟨rs' ++ rs, by rw [e2, e1]; simp, ?_, fun r hr => ?_⟩
  · rw [List.nodup_append]
    refine ⟨n2, n1, fun a ha b hb => ?_⟩
    have h1 := (f2 a ha).1
    have h2 := (Array.getElem?_eq_some_iff.1 (f1 b hb).2).1
    omega
  · rcases List.mem_append.1 hr with hr | hr
    · exact ⟨Nat.le_trans hsz (f2 r hr).1, (f2 r hr).2⟩
    · obtain ⟨g1, g2⟩ := f1 r hr
      exact ⟨g1, (hs.frame r (Array.getElem?_eq_some_iff.1 g2).1 (hsim.notBacks g2)).trans g2⟩

def calm : Exit → Prop
  | .panic _ | .outgrown => False
  | _ => True
def RdRel (κ : K) : Option Nat → Option Nat → Prop
  | none, none => True
  | some n, some c => ∃ l, κ.rho n = some (some l) ∧ l.blk = c
  | _, _ => False
theorem RdRel.mono {κ κ' : K} (h : κ.le κ') {a b : Option Nat} (hr : RdRel κ a b) : RdRel κ' a b := by
  cases a <;> cases b <;> try exact hr
  obtain ⟨l, h1, h2⟩ := hr
  exact ⟨l, h.rho _ _ h1, h2⟩

def W (P : Program) (rd : Option Nat) (c : Code) (Q : Exit → List AV → Mem → Prop) (env : List AV) (m : Mem) : Prop :=
  ∀ κ w (a : Act) (crd : Option Nat), Sim P κ m w → Rels κ env a.tmps → RdRel κ rd crd →
    c.wpIn (Fr crd) 0 P (fun e a' w' => ∃ env' m' κ', calm e ∧ Q e env' m' ∧ Step P κ m w κ' m' w' ∧ Rels κ' env' a'.tmps ∧ Marks w w' a.defers a'.defers) a w

section
variable {rd : Option Nat} {Q : Exit → List AV → Mem → Prop} {env : List AV} {m : Mem}
theorem W.mono {c : Code} {Q' : Exit → List AV → Mem → Prop} (h : W P rd c Q env m) (hq : ∀ e env m, Q e env m → Q' e env m) : W P rd c Q' env m :=
  fun κ w a crd hs hr hd => wpIn_mono (h κ w a crd hs hr hd) fun e a' w' ⟨env', m', κ', h0, h1, h2⟩ => ⟨env', m', κ', h0, hq _ _ _ h1, h2⟩
theorem W.skip (h : Q .normal env m) : W P rd .skip Q env m := fun κ w a crd hs hr hd => wpIn_skip ⟨env, m, κ, trivial, h, Step.refl hs, hr, Marks.refl ..⟩
theorem W.label {l : Nat} (h : Q .normal env m) : W P rd (.label l) Q env m := fun κ w a crd hs hr hd => wpIn_label ⟨env, m, κ, trivial, h, Step.refl hs, hr, Marks.refl ..⟩
theorem W.exit {id : Nat} (h : Q (.exit id) env m) : W P rd (.exit id) Q env m := fun κ w a crd hs hr hd => wpIn_exit ⟨env, m, κ, trivial, h, Step.refl hs, hr, Marks.refl ..⟩
theorem W.ret (h : Q .ret env m) : W P rd .ret Q env m := fun κ w a crd hs hr hd => wpIn_ret ⟨env, m, κ, trivial, h, Step.refl hs, hr, Marks.refl ..⟩
/-- What follows behind a piece of code. -/
def andThen (K' : List AV → Mem → Prop) (Q : Exit → List AV → Mem → Prop) : Exit → List AV → Mem → Prop
  | .normal => K'
  | e => Q e
theorem W.seq {x y : Code} (h : W P rd x (andThen (W P rd y Q) Q) env m) : W P rd (.seq x y) Q env m := by
  intro κ w a crd hs hr hd
  refine wpIn_seq (wpIn_mono (h κ w a crd hs hr hd) ?_)
  rintro e a1 w1 ⟨env1, m1, κ1, h0, h1, h2, h3, h4⟩
  cases e with
  | normal =>
    refine wpIn_mono (h1 κ1 w1 a1 crd h2.sim h3 (hd.mono h2.le)) ?_
    rintro e a2 w2 ⟨env2, m2, κ2, g0, g1, g2, g3, g4⟩
    exact ⟨env2, m2, κ2, g0, g1, h2.trans g2, g3, h4.trans g2 h2.sim h2.size g4⟩
  | _ => exact ⟨env1, m1, κ1, h0, h1, h2, h3, h4⟩
theorem W.cond {c : Operand} {x y : Code} {t : Bool} (hc : evA env c = .val (.bool t)) (h : W P rd (if t then x else y) Q env m) : W P rd (.cond c x y) Q env m := by
  intro κ w a crd hs hr hd
  have hv := evA_rel hr c
  rw [hc] at hv
  exact wpIn_cond hv.val_inv.1 (h κ w a crd hs hr hd)
def inBlk (id : Nat) (Q : Exit → List AV → Mem → Prop) : Exit → List AV → Mem → Prop
  | .exit id' => if id' = id then Q .normal else Q (.exit id')
  | e => Q e
theorem W.block {id : Nat} {c : Code} (h : W P rd c (inBlk id Q) env m) : W P rd (.block id c) Q env m := by
  intro κ w a crd hs hr hd
  refine wpIn_block (wpIn_mono (h κ w a crd hs hr hd) ?_)
  rintro e a1 w1 ⟨env1, m1, κ1, h0, h1, h2, h3, h4⟩
  cases e with
  | exit id' =>
    simp only [Exit.inBlock]
    simp only [inBlk] at h1
    split
    · rename_i e; rw [if_pos e] at h1; exact ⟨env1, m1, κ1, trivial, h1, h2, h3, h4⟩
    · rename_i e; rw [if_neg e] at h1; exact ⟨env1, m1, κ1, h0, h1, h2, h3, h4⟩
  | panic c => exact h0.elim
  | outgrown => exact h0.elim
  | _ => exact ⟨env1, m1, κ1, h0, h1, h2, h3, h4⟩
theorem wpIn_loop' {F : Fence} {n : Nat} {c : Code} {Q : Exit → Act → World → Prop} {a : Act} {w : World} (I : Nat → Act → World → Prop) {j0 : Nat} (h₀ : I j0 a w)
    (round : ∀ j a w, I j a w → c.wpIn F n P (Exit.then (fun a' w' => ∃ j', j' < j ∧ I j' a' w') Q) a w) : (Code.loop c).wpIn F n P Q a w := by
  intro b k cs hro hb hr
  have key : ∀ j a w, I j a w → ∃ e a' w', Q e a' w' ∧ ArrivesIn (Machine.fenced P F) P (lone (b.atR a (.code c :: .inLoop c :: k)) cs w) b k cs e a' w' := by
    intro j
    induction j using Nat.strongRecOn with
    | _ j ih =>
      intro a w hI
      obtain ⟨e, a₁, w₁, hq, harr⟩ := round j a w hI b (.inLoop c :: k) cs hro hb hr
      cases e with
      | normal =>
        obtain ⟨j', hlt, hI₁⟩ := hq
        obtain ⟨e₂, a₂, w₂, hq₂, harr₂⟩ := ih j' hlt a₁ w₁ hI₁
        exact ⟨e₂, a₂, w₂, hq₂, .of_steps (StepsIn.trans harr (.one (fenced_calm hb hr rfl) stepR_inLoop)) harr₂⟩
      | exit id => exact ⟨_, a₁, w₁, hq, .pass (x := .inLoop c) rfl (fun _ _ => .inl (by simp)) harr⟩
      | goto l => exact ⟨_, a₁, w₁, hq, .pass (x := .inLoop c) rfl (fun _ _ => .inl (by simp)) harr⟩
      | ret => exact ⟨_, a₁, w₁, hq, .pass (x := .inLoop c) rfl (fun _ _ => .inl (by simp)) harr⟩
      | panic ch => exact ⟨_, a₁, w₁, hq, .pass (x := .inLoop c) rfl (fun _ _ => .inl (by simp)) harr⟩
      | outgrown => exact ⟨_, a₁, w₁, hq, .pass (x := .inLoop c) rfl (fun _ _ => .inl (by simp)) harr⟩
  obtain ⟨e, a', w', hq, harr⟩ := key _ a w h₀
  exact ⟨e, a', w', hq, .of_steps (.one (fenced_calm hb hr rfl) stepR_loop) harr⟩
/-- A loop: j goes down. -/
theorem W.loop {c : Code} (I : Nat → List AV → Mem → Prop) {j0 : Nat} (h₀ : I j0 env m) (round : ∀ j env m, I j env m → W P rd c (andThen (fun env' m' => ∃ j', j' < j ∧ I j' env' m') Q) env m) : W P rd (.loop c) Q env m := by
  intro κ w a crd hs hr hd
  refine wpIn_loop' (fun j a1 w1 => ∃ env1 m1 κ1, I j env1 m1 ∧ Step P κ m w κ1 m1 w1 ∧ Rels κ1 env1 a1.tmps ∧ Marks w w1 a.defers a1.defers) (j0 := j0) ⟨env, m, κ, h₀, Step.refl hs, hr, Marks.refl ..⟩ ?_
  rintro j a1 w1 ⟨env1, m1, κ1, hI, h2, h3, h4⟩
  refine wpIn_mono (round j env1 m1 hI κ1 w1 a1 crd h2.sim h3 (hd.mono h2.le)) ?_
  rintro e a2 w2 ⟨env2, m2, κ2, g0, g1, g2, g3, g4⟩
  cases e with
  | normal =>
    obtain ⟨j', q1, q2⟩ := g1
    exact ⟨j', q1, env2, m2, κ2, q2, h2.trans g2, g3, h4.trans g2 h2.sim h2.size g4⟩
  | panic c => exact g0.elim
  | outgrown => exact g0.elim
  | _ => exact ⟨env2, m2, κ2, g0, g1, h2.trans g2, g3, h4.trans g2 h2.sim h2.size g4⟩
theorem W.region {id : Nat} {ops : Array Oper} (h : opsK P ops (Q .normal) ops.toList env m) : W P rd (.region id ops false) Q env m := by
  intro κ w a crd hs hr hd
  refine wpIn_region ?_
  have := opsK_sound crd ops.toList 0 (by simp) env m h κ w a hs hr (Q' := fun e a' w' => ∃ env' m' κ', calm e ∧ Q e env' m' ∧ Step P κ m w κ' m' w' ∧ Rels κ' env' a'.tmps ∧ Marks w w' a.defers a'.defers)
    (fun env' m' κ' w' a' g1 g2 g3 g4 => ⟨env', m', κ', trivial, g1, g2, g3, by rw [g4]; exact Marks.refl ..⟩)
  rw [List.range_eq_range']
  simpa using this
theorem noDefer_of {ops : Array Oper} (h : ops.all (fun o => match o.op with | .defer _ => false | _ => true) = true) : ∀ (i : Nat) (o : Oper) c, ops[i]? = some o → o.op ≠ .defer c := by
  intro i o c ho e
  have hm := Array.all_eq_true_iff_forall_mem.1 h o (Array.mem_of_getElem? ho)
  rw [e] at hm
  cases hm
/-- A region of quiet operations that draws its order. -/
theorem W.draws {id : Nat} {ops : Array Oper} (hm : P.follows .mixedOrders = true) (hB : Region.lexB .any ops = true) (hd : ops.all (fun o => match o.op with | .defer _ => false | _ => true) = true)
    (h : opsQ P ops (Q .normal) ops.toList env m) : W P rd (.region id ops true) Q env m := by
  intro κ w a crd hs hr hrd
  simp only [Region.lexB, Bool.and_eq_true] at hB
  have hst := Step.drew hs
  refine wpIn_region_any' hm (wpAnyIn_of_quiet (C' := fun w' => w' = w.drew) (Q := fun a' => ∃ env', Q .normal env' m ∧ Rels κ env' a'.tmps ∧ a'.defers = a.defers) (noDefer_of hd) ?_ _ _ _ _ rfl ?_)
  · rintro a' w' rfl ⟨env', g1, g2, g3⟩
    exact ⟨env', m, κ, trivial, g1, hst, g2, by rw [g3]; exact Marks.refl ..⟩
  · have hq := opsQ_sound ops.toList env m h κ w.drew a hst.sim hr (Q' := fun a' => ∃ env', Q .normal env' m ∧ Rels κ env' a'.tmps ∧ a'.defers = a.defers) (fun env' a' g1 g2 g3 => ⟨env', g1, g2, g3⟩)
    have := wpAnyQ_lex (C := fun w' => w' = w.drew) (md := .any) hB.1 ops.toList 0 (Array.replicate ops.size false) a (by simp) (by simpa using hB.2) hq
    simpa using this
/-- Less is known of temporaries and memory. -/
def EnvLe (env env' : List AV) : Prop := env.length = env'.length ∧ ∀ (i : Nat) (h : i < env.length) (h' : i < env'.length), env'[i] = env[i] ∨ env'[i] = .junk
theorem Rels.le {κ : K} {env env' : List AV} (h : EnvLe env env') {ca : Array Value} (hr : Rels κ env ca) : Rels κ env' ca :=
  ⟨h.1 ▸ hr.1, fun i h1 h2 => by
    rcases h.2 i (h.1 ▸ h1) h1 with e | e
    · rw [e]; exact hr.2 i _ h2
    · rw [e]; exact .junk⟩
theorem Step.less {κ κ' : K} {m m' m'' : Mem} {w w' : World} (hsub : m'.sub m) (hs : Sim P κ m w) (h : Step P κ m' w κ' m'' w') : Step P κ m w κ' m'' w' :=
  ⟨h.le, h.sim, h.size, fun c hc hb => h.frame c hc fun hb' => hb (hb'.sub hsub), fun c hc hb => (h.origin c hc hb).sub hsub, h.os, h.tape, h.output,
    fun c o hc hp => (h.porigin c o hc hp).imp_right fun hb => hb.sub hsub, fun n hr hm => h.dead n hr (by
      cases hk : m' n with
      | none => rfl
      | some b => have := hsub n b hk; rw [hm] at this; cases this)⟩
theorem W.forget {c : Code} {env' : List AV} {m' : Mem} (he : EnvLe env env') (hm : m'.sub m) (h : W P rd c Q env' m') : W P rd c Q env m := by
  intro κ w a crd hs hr hd
  refine wpIn_mono (h κ w a crd (hs.sub hm) (hr.le he) hd) ?_
  rintro e a1 w1 ⟨env1, m1, κ1, h0, h1, h2, h3, h4⟩
  exact ⟨env1, m1, κ1, h0, h1, h2.less hm hs, h3, h4⟩
/-- Temporaries and memory, told otherwise. -/
def Ghosts (P : Program) (env : List AV) (m : Mem) (K' : List AV → Mem → Prop) : Prop :=
  ∀ κ w ca, Sim P κ m w → Rels κ env ca → ∃ env' m' κ', K' env' m' ∧ Step P κ m w κ' m' w ∧ Rels κ' env' ca
theorem Ghosts.mk {K' : List AV → Mem → Prop} (h : K' env m) : Ghosts P env m K' := fun κ w ca hs hr => ⟨env, m, κ, h, Step.refl hs, hr⟩
theorem Ghosts.mono {K' K'' : List AV → Mem → Prop} (h : Ghosts P env m K') (hk : ∀ e m, K' e m → K'' e m) : Ghosts P env m K'' := fun κ w ca hs hr =>
  let ⟨env', m', κ', a, b, c⟩ := h κ w ca hs hr; ⟨env', m', κ', hk _ _ a, b, c⟩
theorem Ghosts.sub {K' : List AV → Mem → Prop} {m' : Mem} (hm : m'.sub m) (h : Ghosts P env m' K') : Ghosts P env m K' := fun κ w ca hs hr =>
  let ⟨env', m2, κ', a, b, c⟩ := h κ w ca (hs.sub hm) hr; ⟨env', m2, κ', a, b.less hm hs, c⟩
theorem Ghosts.le {K' : List AV → Mem → Prop} {env' : List AV} (he : EnvLe env env') (h : Ghosts P env' m K') : Ghosts P env m K' := fun κ w ca hs hr => h κ w ca hs (hr.le he)
theorem W.ghost {c : Code} (h : Ghosts P env m (fun env' m' => W P rd c Q env' m')) : W P rd c Q env m := by
  intro κ w a crd hs hr hd
  obtain ⟨env1, m1, κ1, h1, h2, h3⟩ := h κ w a.tmps hs hr
  refine wpIn_mono (h1 κ1 w a crd h2.sim h3 (hd.mono h2.le)) ?_
  rintro e a1 w1 ⟨env2, m2, κ2, g0, g1, g2, g3, g4⟩
  exact ⟨env2, m2, κ2, g0, g1, h2.trans g2, g3, g4⟩
/-- A loop: j goes down; what is known may be told otherwise at each round's beginning. -/
theorem W.loopG {c : Code} (I : Nat → List AV → Mem → Prop) {j0 : Nat} (h₀ : Ghosts P env m (I j0)) (round : ∀ j env m, I j env m → W P rd c (andThen (fun env' m' => Ghosts P env' m' (fun env' m' => ∃ j', j' < j ∧ I j' env' m')) Q) env m) : W P rd (.loop c) Q env m := by
  intro κ w a crd hs hr hd
  refine wpIn_loop' (fun j a1 w1 => ∃ env1 m1 κ1, I j env1 m1 ∧ Step P κ m w κ1 m1 w1 ∧ Rels κ1 env1 a1.tmps ∧ Marks w w1 a.defers a1.defers) (j0 := j0) ?_ ?_
  · obtain ⟨env1, m1, κ1, h1, h2, h3⟩ := h₀ κ w a.tmps hs hr
    exact ⟨env1, m1, κ1, h1, h2, h3, Marks.refl ..⟩
  · rintro j a1 w1 ⟨env1, m1, κ1, hI, h2, h3, h4⟩
    refine wpIn_mono (round j env1 m1 hI κ1 w1 a1 crd h2.sim h3 (hd.mono h2.le)) ?_
    rintro e a2 w2 ⟨env2, m2, κ2, g0, g1, g2, g3, g4⟩
    cases e with
    | normal =>
      obtain ⟨env3, m3, κ3, ⟨j', q1, q2⟩, q3, q4⟩ := g1 κ2 w2 a2.tmps g2.sim g3
      exact ⟨j', q1, env3, m3, κ3, q2, (h2.trans g2).trans q3, q4, h4.trans g2 h2.sim h2.size g4⟩
    | panic c => exact g0.elim
    | outgrown => exact g0.elim
    | _ => exact ⟨env2, m2, κ2, g0, g1, h2.trans g2, g3, h4.trans g2 h2.sim h2.size g4⟩
end
end Go.Abs
