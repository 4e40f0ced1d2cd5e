/- The abstract layer, twenty-second part: the frame of a call; the capacity behind an open row; slices.overlaps. -/
import Derived.Test.YteilhoojlcpbpaaA19
import Derived.Lib.Overlaps
set_option linter.unusedVariables false
set_option linter.unusedSimpArgs false
namespace Go.Abs
variable {P : Program}

/-! ### The frame -/
/-- What a call has left of m, with what else lay in M. -/
def Mem.plus (m' m M : Mem) : Mem := fun n => match m' n with | some b => some b | none => match m n with | some _ => none | none => M n
theorem Mem.plus_some {m' m M : Mem} {n : Nat} {b : Blk} (h : m' n = some b) : m'.plus m M n = some b := by simp [Mem.plus, h]
theorem Mem.plus_none {m' m M : Mem} {n : Nat} (h : m' n = none) (h' : m n = none) : m'.plus m M n = M n := by simp [Mem.plus, h, h']
theorem Mem.plus_gone {m' m M : Mem} {n : Nat} (h : m' n = none) (h' : m n ≠ none) : m'.plus m M n = none := by
  cases hm : m n with
  | none => exact absurd hm h'
  | some b => simp [Mem.plus, h, hm]
theorem Mem.plus_self {m M : Mem} (h : m.sub M) : m.plus m M = M := by
  funext n
  cases hm : m n with
  | none => simp [Mem.plus, hm]
  | some b => simp [Mem.plus, hm, h n b hm]
theorem Mem.plus_set (m' m M : Mem) (n : Nat) (b : Blk) : (m'.set n b).plus m M = (m'.plus m M).set n b := by
  funext k
  unfold Mem.plus Mem.set
  by_cases h : k = n <;> simp [h]
theorem Sim.used {κ : K} {m : Mem} {w : World} (hs : Sim P κ m w) {n : Nat} (h : m n ≠ none) : κ.rho n ≠ none := by
  cases hm : m n with
  | none => exact absurd hm h
  | some b =>
    rcases hs.blk n b hm with ⟨l, h1, _⟩ | ⟨h1, _⟩ <;> rw [h1] <;> simp
theorem Step.framed {κ κ' : K} {m m' M : Mem} {w w' : World} (hs : Sim P κ M w) (hsub : m.sub M) (h : Step P κ m w κ' m' w') : Step P κ M w κ' (m'.plus m M) w' ∧ ∀ n, m n = none → m' n ≠ none → M n = none := by
  have extra : ∀ n, m n = none → M n ≠ none → m' n = none := fun n h1 h2 => h.dead n (hs.used h2) h1
  have rho : ∀ n x, κ.rho n = some x → κ'.rho n = some x := h.le.rho
  have apart : ∀ n l, m n = none → M n ≠ none → κ.rho n = some (some l) → ¬ Backs κ m l.blk := by
    rintro n l h1 h2 h3 ⟨n2, l2, g1, g2, g3⟩
    have hne : n ≠ n2 := fun e => g2 (e ▸ h1)
    exact hs.excl n n2 l l2 hne h2 (hsub.live g2) h3 g1 g3.symm
  have live : ∀ n, m'.plus m M n ≠ none → m' n ≠ none ∨ (m n = none ∧ M n ≠ none ∧ m' n = none) := fun n hn => by
    cases h1 : m' n with
    | some b => exact .inl (by simp)
    | none =>
      cases h2 : m n with
      | some b => exact absurd (Mem.plus_gone h1 (by rw [h2]; simp)) hn
      | none => rw [Mem.plus_none h1 h2] at hn; exact .inr ⟨rfl, hn, rfl⟩
  refine ⟨⟨h.le, ⟨h.sim.prot, ?_, h.sim.lt, ?_, ?_⟩, h.size, fun c hc hb => h.frame c hc fun hb' => hb (hb'.sub hsub), ?_, h.os, h.tape, h.output, fun c o hc hp => (h.porigin c o hc hp).imp_right fun hb => hb.sub hsub, ?_⟩, fun n h1 h2 => ?_⟩
  · intro n b hb
    cases h1 : m' n with
    | some b' =>
      rw [Mem.plus_some h1] at hb; cases hb
      exact h.sim.blk n _ h1
    | none =>
      cases h2 : m n with
      | some b' => rw [Mem.plus_gone h1 (by rw [h2]; simp)] at hb; cases hb
      | none =>
        rw [Mem.plus_none h1 h2] at hb
        have hM : M n ≠ none := by rw [hb]; simp
        rcases hs.blk n b hb with ⟨l, g1, g2, g3⟩ | ⟨g1, g2⟩
        · refine .inl ⟨l, rho _ _ g1, (g2.congr (h.frame _ g2.lt (apart n l h2 hM g1))).mono h.le, fun o => ?_⟩
          cases hp : κ'.prot l.blk o with
          | none => rfl
          | some v =>
            rcases h.porigin l.blk o g2.lt (by rw [hp]; simp) with q | q
            · exact absurd (g3 o) q
            · exact absurd q (apart n l h2 hM g1)
        · exact .inr ⟨rho _ _ g1, g2⟩
  · intro n n' l l' hne h1 h2 h3 h4
    have old : ∀ n l, m n = none → M n ≠ none → κ'.rho n = some (some l) → κ.rho n = some (some l) := fun n l a b c => by
      cases hk : κ.rho n with
      | none => exact absurd hk (hs.used b)
      | some x => rw [rho _ _ hk] at c; exact c
    have mixed : ∀ n n' l l', m' n ≠ none → m n' = none → M n' ≠ none → κ'.rho n = some (some l) → κ'.rho n' = some (some l') → l.blk ≠ l'.blk := fun n n' l l' a b c d e hbl => by
      have e' := old n' l' b c e
      have hlt := hs.lt n' l' e'
      exact apart n' l' b c e' (h.origin l'.blk hlt ⟨n, l, d, a, hbl⟩)
    rcases live n h1 with a | ⟨a1, a2, a3⟩ <;> rcases live n' h2 with b | ⟨b1, b2, b3⟩
    · exact h.sim.excl n n' l l' hne a b h3 h4
    · exact mixed n n' l l' a b1 b2 h3 h4
    · exact fun e => mixed n' n l' l b a1 a2 h4 h3 e.symm
    · exact hs.excl n n' l l' hne a2 b2 (old n l a1 a2 h3) (old n' l' b1 b2 h4)
  · obtain ⟨N, hN⟩ := h.sim.fin
    obtain ⟨N', hN'⟩ := hs.fin
    refine ⟨max N N', fun n hn => ⟨(hN n (by omega)).1, ?_⟩⟩
    have h1 := (hN n (by omega)).2
    have h2 := (hN' n (by omega)).2
    cases hm : m n with
    | some b => exact Mem.plus_gone h1 (by rw [hm]; simp)
    | none => rw [Mem.plus_none h1 hm, h2]
  · rintro c hc ⟨n, l, h1, h2, h3⟩
    rcases live n h2 with a | ⟨a1, a2, a3⟩
    · exact (h.origin c hc ⟨n, l, h1, a, h3⟩).sub hsub
    · have hk : κ.rho n = some (some l) := by
        cases hk : κ.rho n with
        | none => exact absurd hk (hs.used a2)
        | some x => rw [rho _ _ hk] at h1; exact h1
      exact ⟨n, l, hk, a2, h3⟩
  · intro n hr hM
    have hm : m n = none := by
      cases hm : m n with
      | none => rfl
      | some b => rw [hsub n b hm] at hM; cases hM
    rw [Mem.plus_none (h.dead n hr hm) hm]; exact hM
  · cases hM : M n with
    | none => rfl
    | some b => exact absurd (extra n h1 (by rw [hM]; simp)) h2
/-- A contract, where more memory is. -/
theorem C.frame {f : FuncId} {args : List AV} {m M : Mem} {K' : AV → Mem → Prop} (h : C P f args m K') (hsub : m.sub M) :
    C P f args M (fun r M' => ∃ m', K' r m' ∧ (∀ n, m n = none → m' n ≠ none → M n = none) ∧ M' = m'.plus m M) :=
  ⟨h.1, fun κ w cargs hs hr => (h.2 κ w cargs (hs.sub hsub) hr).mono fun e w' ⟨cv, r, m', κ', a, b, c, d⟩ =>
    ⟨cv, r, _, κ', a, ⟨m', b, (c.framed hs hsub).2, rfl⟩, (c.framed hs hsub).1, d⟩⟩
theorem Y.frame {n : Nat} {args : List AV} {m M : Mem} {K' : AV → Mem → Prop} (h : Y P n args m K') (hsub : m.sub M) :
    Y P n args M (fun r M' => ∃ m', K' r m' ∧ (∀ n, m n = none → m' n ≠ none → M n = none) ∧ M' = m'.plus m M) :=
  fun κ w l cargs hs hl hr => let ⟨f, t, a, b, h1, h2⟩ := h κ w l cargs (hs.sub hsub) hl hr
    ⟨f, t, a, b, h1, h2.mono fun e w' ⟨cv, r, m', κ', a, b, c, d⟩ => ⟨cv, r, _, κ', a, ⟨m', b, (c.framed hs hsub).2, rfl⟩, (c.framed hs hsub).1, d⟩⟩
theorem call_on {f : FuncId} {args : List AV} {m M : Mem} {K' K'' : AV → Mem → Prop} {x : Hid K'} (h : C P f args m K'') (hsub : m.sub M)
    (hk : ∀ r m', K'' r m' → (∀ n, m n = none → m' n ≠ none → M n = none) → K' r (m'.plus m M)) : CC P f args M (hid K' x) :=
  .inl ((h.frame hsub).mono fun r M' ⟨m', a, b, c⟩ => by subst c; exact hk r m' a b)
theorem nomem_set_sub {M : Mem} {n : Nat} {b : Blk} (h : M n = some b) : (nomem.set n b).sub M := fun k b' hk => by
  unfold Mem.set at hk
  split at hk
  · rename_i e; cases hk; rw [e]; exact h
  · cases hk
theorem Mem.set_sub {m M : Mem} {n : Nat} {b : Blk} (hs : m.sub M) (h : M n = some b) : (m.set n b).sub M := fun k b' hk => by
  unfold Mem.set at hk
  split at hk
  · rename_i e; cases hk; rw [e]; exact h
  · exact hs k b' hk
theorem Mem.plus_nomem (m M : Mem) (h : ∀ n, m n ≠ none → M n = none) : nomem.plus m M = M := by
  funext n
  cases hm : m n with
  | none => simp [Mem.plus, nomem, hm]
  | some b => rw [Mem.plus_gone rfl (by rw [hm]; simp), h n (by rw [hm]; simp)]

/-! ### What lies behind an open row is told -/
def IsFn (P : Program) (f : FuncId) : Prop := ∃ fn, P.funcs[f]? = some fn ∧ fn.body.isNone = false ∧ (fn.name == "runtime.NumGoroutine") = false
theorem C.reveal {f : FuncId} {pre post : List AV} {m : Mem} {K' : AV → Mem → Prop} {n len : Nat} {bt : TypeId} {cs : List AV} (hf : IsFn P f) (hm : m n = some (.cells true bt cs)) (h0 : 0 < len) (hlen : len * P.cellsOf bt = cs.length)
    (h : ∀ c N, len ≤ c → m N = none → C P f (pre ++ [.sl N 0 len c] ++ post) ((m.del n).set N (.cells false bt (cs ++ List.replicate ((c - len) * P.cellsOf bt) .junk))) K') : C P f (pre ++ [.sl n 0 len len] ++ post) m K' := by
  refine ⟨hf, fun κ w cargs hs hr => ?_⟩
  have hsz : pre.length < cargs.size := by rw [← hr.1]; simp
  have hx := hr.2 pre.length (by simp) hsz
  have hget : (pre ++ [AV.sl n 0 len len] ++ post)[pre.length]'(by simp) = .sl n 0 len len := by simp
  rw [hget] at hx
  generalize hcv : cargs[pre.length] = cv at hx
  cases hx with
  | snil => omega
  | szero => omega
  | @sl _ _ _ _ cap' c' o' l q1 q2 q3 q4 =>
    rcases hs.blk n _ hm with ⟨l', e1, e2, e3⟩ | ⟨e1, _⟩
    · rw [q1] at e1; cases e1
      obtain ⟨arr, t', fz, z1, z2, z3, z4, z5, z6, z7⟩ := e2
      have hls := z6 rfl
      obtain ⟨N, hrN, hN⟩ := hs.fresh
      have hcap : len ≤ cap' := by rcases q2 with q2 | q2 <;> omega
      have hmul : cap' * l.size = len * l.size + (cap' - len) * l.size := by rw [← Nat.add_mul]; congr 1; omega
      have hfits : l.base + cap' * l.size ≤ arr.size := by
        rcases q2 with q2 | ⟨q2, q5⟩
        · subst q2; rw [hls, hlen, ← z3]; omega
        · have : cap' * l.size = len * l.size + l.ext * l.size := by rw [q5, Nat.add_mul]
          omega
      have hst := Step.move (w' := w) (l' := ⟨l.blk, l.base, l.size, cap' * l.size, 0⟩) hs (by rw [hm]; simp) q1 e3 hN hrN rfl (But.refl w _) (.cells false bt (cs ++ List.replicate ((cap' - len) * P.cellsOf bt) .junk))
        ⟨arr, t', fz, z1, z2, by simp only [List.length_append, List.length_replicate, ← hlen, ← hls]; omega, by simp only [Nat.zero_mul, Nat.add_zero]; exact hfits, fun _ => rfl, (fun h => by cases h), fun i hi => by
          simp only [List.length_append, List.length_replicate] at hi
          by_cases hc : i < cs.length
          · obtain ⟨cv, y1, y2⟩ := z7 i hc
            refine ⟨cv, y1, ?_⟩
            rw [List.getElem_append_left hc]
            exact y2.mono (K.le_add hrN)
          · have hlt : l.base + i < arr.size := by rw [← hlen, ← hls] at hi; omega
            refine ⟨_, Array.getElem?_eq_getElem hlt, ?_⟩
            rw [List.getElem_append_right (by omega), List.getElem_replicate]
            exact .junk⟩
      have hrels : Rels (κ.add N ⟨l.blk, l.base, l.size, cap' * l.size, 0⟩) (pre ++ [.sl N 0 len cap'] ++ post) cargs := by
        refine ⟨by rw [← hr.1]; simp, fun i a b => ?_⟩
        by_cases hi : i = pre.length
        · subst hi
          have : (pre ++ [AV.sl N 0 len cap'] ++ post)[pre.length]'a = .sl N 0 len cap' := by simp
          rw [this, hcv]
          exact .sl (K.add_same ..) (.inl rfl) hcap q4
        · have hr' := (hr.2 i (by simpa using a) b).mono (K.le_add (l := ⟨l.blk, l.base, l.size, cap' * l.size, 0⟩) hrN)
          have hq : (pre ++ [AV.sl N 0 len cap'] ++ post)[i]? = (pre ++ [AV.sl n 0 len len] ++ post)[i]? := by
            simp only [List.append_assoc, List.getElem?_append, List.length_singleton]
            split
            · rfl
            · rw [if_neg (by omega), if_neg (by omega)]
          have this := hq
          rw [List.getElem?_eq_getElem a, List.getElem?_eq_getElem (by simpa using a)] at this
          have this := Option.some.inj this
          rw [this]; exact hr'
      refine ((h cap' N hcap hN).2 _ w cargs hst.sim hrels).mono ?_
      rintro e w' ⟨cv, r, m', κ', a, b, c, d⟩
      exact ⟨cv, r, m', κ', a, b, hst.trans c, d⟩
    · rw [q1] at e1; cases e1

/-! ### slices.overlaps, at rows in two blocks -/
theorem run_overlaps_apart' (w : World) (tS tR e : TypeId) (ht : P.underlying tS = some (.slice e)) (size : Nat) (hz : ∀ w, (Go.sizeOf e).run P w = .ok size w)
    (a b : Addr) (la ca lb cb : Nat) (hne : a.block ≠ b.block) (tA tB : TypeId) (kA kB : Nat)
    (hsa : w.shape? a.block = some (tA, kA)) (hsb : w.shape? b.block = some (tB, kB)) (hkB : kB ≠ 0) (hkA : kA ≠ 0)
    (hfb : w.frozen? b = false) (hfe : w.frozen? { block := b.block, off := kB } = false) :
    (Extern.SlicesOverlaps.overlaps #[tS, tS] #[tR] #[.slice (some a) la ca, .slice (some b) lb cb]).run P w = .ok (.bool false) w := by
  have hnb : (a.block != b.block) = true := by simpa using hne
  have hnb' : (a.block == b.block) = false := by simpa using hne
  change Sem.run P (α := Value) (do
    let some t := (#[tS, tS] : Array TypeId)[0]? | stuck "slices.overlaps: no parameter types"
    let .slice elem ← underlying t | stuck "slices.overlaps: slice type expected"
    let size ← sizeOf elem
    match (some a : Option Addr), (some b : Option Addr) with
    | some a, some b =>
      if la = 0 ∨ lb = 0 ∨ size = 0 then pure (Value.bool false)
      else if a.block != b.block && (← frozen a) && (← frozen b) then unsupported .addressObserved
      else do
        if a.block != b.block then do
          noView a; noView b
          if ← mayBeOne a b then return Value.bool ((← choose (.extern "sameAddr.stringBytes" 2)) == 1)
        pure (Value.bool (a.block == b.block && a.off < b.off + lb * size && b.off < a.off + la * size))
    | _, _ => pure (Value.bool false)) w = _
  by_cases h0 : la = 0 ∨ lb = 0 ∨ size = 0
  · simp [run_underlying ht, hz, h0]
  · cases kB with
    | zero => exact absurd rfl hkB
    | succ kB =>
     cases kA with
     | zero => exact absurd rfl hkA
     | succ kA =>
      cases hfa : w.frozen? a <;> cases hff : w.frozen? { block := a.block, off := kA + 1 } <;>
        simp [run_underlying ht, hz, h0, hnb, hnb', frozen, noView, viewAt, mayBeOne, stringish, shape, Sem.run, hsa, hsb, hfa, hff, hfb, hfe]
theorem X.overlaps {g : FuncId} {fn : Func} {t e rt : TypeId} {i j : TI} (hfn : P.funcs[g]? = some fn) (hname : (fn.name == "runtime.NumGoroutine") = false) (hb : fn.body.isNone = true) (hnext : Extern.findNext fn = none)
    (hfind : Extern.find fn = some (Extern.SlicesOverlaps.overlaps #[t, t] #[rt])) (hi : ti P t = some i) (hd : i.desc = .slice e) (hj : ti P e = some j) {es : List (List AV)} {x : Bool} (hes : ∀ y ∈ es, 0 < y.length)
    {n off len cap : Nat} {opn : Bool} {bt : TypeId} {cs : List AV} {m : Mem} (hm : m n = some (.cells opn bt cs)) (hoff : len = 0 ∨ off < cs.length) {K' : AV → Mem → Prop} (hk : K' (.val (.bool false)) m) : X P g [.vs es x, .sl n off len cap] m K' := by
  refine ⟨fn, _, hfn, hname, hb, hnext, hfind, fun κ w cargs hs hr => ⟨.bool false, w, _, m, κ, ?_, hk, Step.refl hs, .val rfl⟩⟩
  obtain ⟨c0, c1, rfl⟩ : ∃ c0 c1, cargs = #[c0, c1] := by
    obtain ⟨l⟩ := cargs
    match l, hr.1 with
    | [a, b], _ => exact ⟨a, b, rfl⟩
  have h0 : Rel κ (.vs es x) c0 := hr.2 0 (by simp) (by simp)
  have h1 : Rel κ (.sl n off len cap) c1 := hr.2 1 (by simp) (by simp)
  have ht : P.underlying t = some (.slice e) := (ti_spec hi).1.trans (by rw [hd])
  have hz : ∀ w : World, (Go.sizeOf e).run P w = .ok j.size w := fun w => run_sizeOf hj w
  have small : ∀ (a b : Option Addr) (la ca lb cb : Nat), (a = none ∨ b = none ∨ la = 0 ∨ lb = 0) → (Extern.SlicesOverlaps.overlaps #[t, t] #[rt] #[.slice a la ca, .slice b lb cb]).run P w = .ok (.bool false) w := by
    intro a b la ca lb cb h
    change Sem.run P (α := Value) (do
      let some t := (#[t, t] : Array TypeId)[0]? | stuck "slices.overlaps: no parameter types"
      let .slice elem ← underlying t | stuck "slices.overlaps: slice type expected"
      let size ← sizeOf elem
      match (a : Option Addr), (b : Option Addr) with
      | some a, some b =>
        if la = 0 ∨ lb = 0 ∨ size = 0 then pure (Value.bool false)
        else if a.block != b.block && (← frozen a) && (← frozen b) then unsupported .addressObserved
        else do
          if a.block != b.block then do
            noView a; noView b
            if ← mayBeOne a b then return Value.bool ((← choose (.extern "sameAddr.stringBytes" 2)) == 1)
          pure (Value.bool (a.block == b.block && a.off < b.off + lb * size && b.off < a.off + la * size))
      | _, _ => pure (Value.bool false)) w = _
    rcases h with rfl | rfl | rfl | rfl
    · simp [run_underlying ht, hz]
    · cases a <;> simp [run_underlying ht, hz]
    · cases a <;> cases b <;> simp [run_underlying ht, hz]
    · cases a <;> cases b <;> simp [run_underlying ht, hz]
  have low : ∃ b lb cb, c1 = .slice b lb cb ∧ (b = none ∨ lb = 0 ∨ off < cs.length ∧ ∃ l, κ.rho n = some (some l) ∧ b = some ⟨l.blk, l.base + off, none⟩) := by
    cases h1 with
    | snil => exact ⟨_, _, _, rfl, .inl rfl⟩
    | szero => exact ⟨_, _, _, rfl, .inr (.inl rfl)⟩
    | @sl _ _ _ _ cap' c' o' l q1 q2 q3 q4 =>
      by_cases h : len = 0
      · exact ⟨_, _, _, rfl, .inr (.inl h)⟩
      · have ha : c' = l.blk ∧ o' = l.base + off := by
          rcases q4 with q4 | q4
          · rcases q2 with q2 | q2 <;> omega
          · exact q4
        obtain ⟨rfl, rfl⟩ := ha
        exact ⟨_, _, _, rfl, .inr (.inr ⟨hoff.resolve_left h, l, q1, rfl⟩)⟩
  obtain ⟨b, lb, cb, rfl, hbb⟩ := low
  cases h0 with
  | vnil => exact small _ _ _ _ _ _ (.inl rfl)
  | vz => exact small _ _ _ _ _ _ (.inr (.inr (.inl rfl)))
  | @vs _ _ c o s ca f q1 q2 q3 q4 q5 =>
    rcases hbb with rfl | rfl | ⟨hoc, l, hl, rfl⟩
    · exact small _ _ _ _ _ _ (.inr (.inl rfl))
    · exact small _ _ _ _ _ _ (.inr (.inr (.inr rfl)))
    · by_cases he : es.length = 0
      · exact small _ _ _ _ _ _ (.inr (.inr (.inl he)))
      · by_cases hlb : lb = 0
        · exact small _ _ _ _ _ _ (.inr (.inr (.inr hlb)))
        rcases hs.blk n _ hm with ⟨l', e1, e2, e3⟩ | ⟨e1, _⟩
        · rw [hl] at e1; cases e1
          obtain ⟨arr, t', fz, z1, z2, z3, z4, z5, z6, z7⟩ := e2
          have hs0 : 0 < s := by rw [← q1 _ (List.getElem_mem (show 0 < es.length by omega))]; exact hes _ (List.getElem_mem _)
          have hp := q4 0 0 (by omega) hs0
          have hne : c ≠ l.blk := fun e => by rw [e, e3] at hp; cases hp
          have hcell := hs.prot _ _ _ hp
          have hA : ∃ arrA tA fzA, w.heap[c]? = some (.cells arrA tA fzA) ∧ arrA.size ≠ 0 := by
            unfold World.cell? at hcell
            split at hcell
            · rename_i arrA tA fzA hh
              refine ⟨arrA, tA, fzA, hh, fun h0 => ?_⟩
              rw [Array.eq_empty_of_size_eq_zero h0] at hcell
              simp at hcell
            · exact absurd hcell (by simp)
          obtain ⟨arrA, tA, fzA, hA1, hA2⟩ := hA
          have harr : arr.size ≠ 0 := by omega
          refine run_overlaps_apart' w t rt e ht j.size hz _ _ _ _ _ _ hne tA t' arrA.size arr.size (by simp [World.shape?, hA1]) (by simp [World.shape?, z1]) harr hA2 ?_ ?_
          · simp only [World.frozen?, z1]
            have := z2 (l.base + off) (by omega)
            simp only [Bool.and_eq_false_imp, decide_eq_true_eq, decide_eq_false_iff_not]; omega
          · simp only [World.frozen?, z1]
            have := z2 arr.size (Nat.le_refl _)
            simp only [Bool.and_eq_false_imp, decide_eq_true_eq, decide_eq_false_iff_not]; omega
        · rw [hl] at e1; cases e1
end Go.Abs
