/- The abstract layer, twenty-seventh part: a call at a part of memory, which reads rows of the rest. -/
import Derived.Test.YteilhoojlcpbpaaA26
set_option linter.unusedVariables false
set_option linter.unusedSimpArgs false
namespace Go.Abs
variable {P : Program}

/-- Nothing that is only read lies in it. -/
def AV.clean : AV → Bool
  | .val _ | .ptr _ _ | .sl _ _ _ _ | .map _ | .junk => true
  | .agg cs | .tup cs => cleans cs
  | _ => false
where
  cleans : List AV → Bool
  | [] => true
  | c :: cs => AV.clean c && cleans cs
theorem AV.clean.cleans_at : ∀ {l : List AV}, AV.clean.cleans l = true → ∀ i (h : i < l.length), AV.clean l[i] = true
  | c :: l, h, 0, hi => by simp only [AV.clean.cleans, Bool.and_eq_true] at h; exact h.1
  | c :: l, h, i + 1, hi => by
    simp only [AV.clean.cleans, Bool.and_eq_true] at h
    exact AV.clean.cleans_at h.2 i (by simpa using hi)
theorem Rel.clean {κ κ' : K} (hr : κ'.rho = κ.rho) {x : AV} {cv : Value} (h : Rel κ x cv) : x.clean = true → Rel κ' x cv := by
  induction h with
  | val hp => exact fun _ => .val hp
  | agg hl _ ih => exact fun hc => .agg hl fun i a b => ih i a b (AV.clean.cleans_at (by simpa [AV.clean] using hc) i a)
  | tup hl _ ih => exact fun hc => .tup hl fun i a b => ih i a b (AV.clean.cleans_at (by simpa [AV.clean] using hc) i a)
  | ptr h => exact fun _ => .ptr (by rw [hr]; exact h)
  | snil => exact fun _ => .snil
  | szero => exact fun _ => .szero
  | sl h h1 h2 h3 => exact fun _ => .sl (by rw [hr]; exact h) h1 h2 h3
  | map h => exact fun _ => .map (by rw [hr]; exact h)
  | junk => exact fun _ => .junk
  | vnil => exact fun hc => by simp [AV.clean] at hc
  | vz => exact fun hc => by simp [AV.clean] at hc
  | vs f h1 h2 h3 h4 _ _ => exact fun hc => by simp [AV.clean] at hc
  | vp f h1 _ _ => exact fun hc => by simp [AV.clean] at hc
  | fn hs h1 _ h3 _ _ _ => exact fun hc => by simp [AV.clean] at hc
  | yld h => exact fun hc => by simp [AV.clean] at hc
  | ifc _ _ => exact fun hc => by simp [AV.clean] at hc
def cleanB : Blk → Prop
  | .cells _ _ cs => AV.clean.cleans cs = true
  | .map es => ∀ i (h : i < es.length), AV.clean es[i].2 = true
  | .loop .. => False
theorem BlkOK.clean {κ κ' : K} (hr : κ'.rho = κ.rho) {w : World} {l : Loc} {b : Blk} (h : BlkOK P κ w l b) (hc : cleanB b) : BlkOK P κ' w l b := by
  cases b with
  | cells opn t cs =>
    obtain ⟨arr, t', fz, h1, h2, h3, h4, h5, h6, h7⟩ := h
    exact ⟨arr, t', fz, h1, h2, h3, h4, h5, h6, fun i hi => let ⟨cv, a, b⟩ := h7 i hi; ⟨cv, a, b.clean hr (AV.clean.cleans_at hc i hi)⟩⟩
  | map es =>
    obtain ⟨ents, clock, h1, h2, h3⟩ := h
    exact ⟨ents, clock, h1, h2, fun i a b => ⟨(h3 i a b).1, (h3 i a b).2.clean hr (hc i a)⟩⟩
  | loop st pend env ps asg body => exact hc.elim
/-- What is not of mI. -/
def Mem.rest (mI m : Mem) : Mem := fun n => match mI n with | some _ => none | none => m n
theorem Mem.rest_sub (mI m : Mem) : (mI.rest m).sub m := fun n b h => by
  unfold Mem.rest at h
  cases hI : mI n with
  | some x => rw [hI] at h; cases h
  | none => rw [hI] at h; exact h
theorem Mem.rest_none {mI m : Mem} {n : Nat} (h : mI n = none) : mI.rest m n = m n := by simp [Mem.rest, h]
theorem Mem.rest_some {mI m : Mem} {n : Nat} (h : mI n ≠ none) : mI.rest m n = none := by
  unfold Mem.rest
  cases hI : mI n with
  | some x => rfl
  | none => exact absurd hI h
theorem Mem.rest_live {mI m : Mem} {n : Nat} (h : mI.rest m n ≠ none) : mI n = none ∧ m n ≠ none := by
  cases hI : mI n with
  | some x => exact absurd (Mem.rest_some (by rw [hI]; simp)) h
  | none => rw [Mem.rest_none hI] at h; exact ⟨rfl, h⟩

theorem Step.seen {κ κ1 κ2 : K} {m mI m1 : Mem} {w w' : World} (hs : Sim P κ m w) (hsub : mI.sub m) (hle : κ.le κ1) (hrho : κ1.rho = κ.rho)
    (hp1 : ∀ c o, κ1.prot c o ≠ none → κ.prot c o ≠ none ∨ Backs κ (mI.rest m) c) (h : Step P κ1 mI w κ2 m1 w') (hclean : ∀ n b, m1 n = some b → cleanB b) :
    ∃ κ3, Step P κ m w κ3 (m1.plus mI m) w' ∧ κ3.rho = κ2.rho ∧ ∀ n, mI n = none → m1 n ≠ none → m n = none := by
  classical
  have extra : ∀ n, mI n = none → m n ≠ none → m1 n = none := fun n h1 h2 => h.dead n (by rw [hrho]; exact hs.used h2) h1
  have rho : ∀ n x, κ.rho n = some x → κ2.rho n = some x := fun n x hx => h.le.rho n x (by rw [hrho]; exact hx)
  have bk : ∀ {c}, Backs κ1 mI c → Backs κ mI c := fun ⟨n, l, a, b, e⟩ => ⟨n, l, by rw [← hrho]; exact a, b, e⟩
  have apart : ∀ n l, mI n = none → m n ≠ none → κ.rho n = some (some l) → ¬ Backs κ mI l.blk := by
    rintro n l h1 h2 h3 ⟨n2, l2, g1, g2, g3⟩
    have hne : n ≠ n2 := fun e => g2 (e ▸ h1)
    exact hs.excl n n2 l l2 hne h2 (hsub.live g2) h3 g1 g3.symm
  have old : ∀ n l, m n ≠ none → κ2.rho n = some (some l) → κ.rho n = some (some l) := fun n l b c => by
    cases hk : κ.rho n with
    | none => exact absurd hk (hs.used b)
    | some x => rw [rho _ _ hk] at c; exact c
  have live : ∀ n, m1.plus mI m n ≠ none → m1 n ≠ none ∨ (mI n = none ∧ m n ≠ none ∧ m1 n = none) := fun n hn => by
    cases h1 : m1 n with
    | some b => exact .inl (by simp)
    | none =>
      cases h2 : mI n with
      | some b => exact absurd (Mem.plus_gone h1 (by rw [h2]; simp)) hn
      | none => rw [Mem.plus_none h1 h2] at hn; exact .inr ⟨rfl, hn, rfl⟩
  -- a block of the rest is none of what the call has left
  have mixed : ∀ n n' l l', m1 n ≠ none → mI n' = none → m n' ≠ none → κ2.rho n = some (some l) → κ.rho n' = some (some l') → l.blk ≠ l'.blk := fun n n' l l' a b c d e hbl => by
    exact apart n' l' b c e (bk (h.origin l'.blk (hs.lt n' l' e) ⟨n, l, d, a, hbl⟩))
  let κ3 : K := { prot := fun c o => if Backs κ (mI.rest m) c then κ.prot c o else κ2.prot c o, rho := κ2.rho }
  have le3 : κ.le κ3 := by
    refine ⟨fun c o v hv => ?_, rho⟩
    show (if Backs κ (mI.rest m) c then κ.prot c o else κ2.prot c o) = some v
    split
    · exact hv
    · exact h.le.prot _ _ _ (hle.prot _ _ _ hv)
  have noRest : ∀ {c o v}, Backs κ (mI.rest m) c → κ.prot c o = some v → False := fun {c o v} ⟨n, l, a, b, e⟩ hv => by
    obtain ⟨b1, b2⟩ := Mem.rest_live b
    cases hm : m n with
    | none => exact b2 hm
    | some bb =>
      rcases hs.blk n bb hm with ⟨l', g1, g2, g3⟩ | ⟨g1, _⟩
      · rw [a] at g1; cases g1
        rw [e] at g3
        rw [g3 o] at hv; cases hv
      · rw [a] at g1; cases g1
  refine ⟨κ3, ⟨le3, ⟨?_, ?_, h.sim.lt, ?_, ?_⟩, h.size, fun c hc hb => h.frame c hc fun hb' => hb ((bk hb').sub hsub), ?_, h.os, h.tape, h.output, ?_, ?_⟩, rfl, fun n h1 h2 => ?_⟩
  · intro c o v hv
    have hv' : (if Backs κ (mI.rest m) c then κ.prot c o else κ2.prot c o) = some v := hv
    split at hv'
    · rename_i hb; exact (noRest hb hv').elim
    · exact h.sim.prot c o v hv'
  · intro n b hb
    cases h1 : m1 n with
    | some b' =>
      rw [Mem.plus_some h1] at hb; cases hb
      rcases h.sim.blk n _ h1 with ⟨l, g1, g2, g3⟩ | g
      · refine .inl ⟨l, g1, BlkOK.clean (κ' := κ3) (show κ3.rho = κ2.rho from rfl) g2 (hclean n _ h1), fun o => ?_⟩
        show (if Backs κ (mI.rest m) l.blk then κ.prot l.blk o else κ2.prot l.blk o) = none
        split
        · rename_i hb
          cases hp : κ.prot l.blk o with
          | none => rfl
          | some v => exact (noRest hb hp).elim
        · exact g3 o
      · exact .inr g
    | none =>
      cases h2 : mI n with
      | some b' => rw [Mem.plus_gone h1 (by rw [h2]; simp)] at hb; cases hb
      | none =>
        rw [Mem.plus_none h1 h2] at hb
        have hM : m n ≠ none := by rw [hb]; simp
        rcases hs.blk n b hb with ⟨l, g1, g2, g3⟩ | ⟨g1, g2⟩
        · refine .inl ⟨l, rho _ _ g1, (g2.congr (h.frame _ g2.lt fun hb' => apart n l h2 hM g1 (bk hb'))).mono le3, fun o => ?_⟩
          show (if Backs κ (mI.rest m) l.blk then κ.prot l.blk o else κ2.prot l.blk o) = none
          rw [if_pos ⟨n, l, g1, by rw [Mem.rest_none h2]; exact hM, rfl⟩]
          exact g3 o
        · exact .inr ⟨rho _ _ g1, g2⟩
  · intro n n' l l' hne h1 h2 h3 h4
    rcases live n h1 with a | ⟨a1, a2, a3⟩ <;> rcases live n' h2 with b | ⟨b1, b2, b3⟩
    · exact h.sim.excl n n' l l' hne a b h3 h4
    · exact mixed n n' l l' a b1 b2 h3 (old n' l' b2 h4)
    · exact fun e => mixed n' n l' l b a1 a2 h4 (old n l a2 h3) e.symm
    · exact hs.excl n n' l l' hne a2 b2 (old n l a2 h3) (old n' l' b2 h4)
  · obtain ⟨N, hN⟩ := h.sim.fin
    obtain ⟨N', hN'⟩ := hs.fin
    refine ⟨max N N', fun n hn => ⟨(hN n (by omega)).1, ?_⟩⟩
    have h1 := (hN n (by omega)).2
    have h2 := (hN' n (by omega)).2
    cases hm : mI n with
    | some b => exact Mem.plus_gone h1 (by rw [hm]; simp)
    | none => rw [Mem.plus_none h1 hm, h2]
  · rintro c hc ⟨n, l, h1, h2, h3⟩
    rcases live n h2 with a | ⟨a1, a2, a3⟩
    · exact (bk (h.origin c hc ⟨n, l, h1, a, h3⟩)).sub hsub
    · exact ⟨n, l, old n l a2 h1, a2, h3⟩
  · intro c o hc hp
    have hp' : (if Backs κ (mI.rest m) c then κ.prot c o else κ2.prot c o) ≠ none := hp
    split at hp'
    · rename_i hb; exact .inr (hb.sub (Mem.rest_sub mI m))
    · rcases h.porigin c o hc hp' with q | q
      · rcases hp1 c o q with q | q
        · exact .inl q
        · exact .inr (q.sub (Mem.rest_sub mI m))
      · exact .inr ((bk q).sub hsub)
  · intro n hr hM
    have hm : mI n = none := by
      cases hm : mI n with
      | none => rfl
      | some b => rw [hsub n b hm] at hM; cases hM
    rw [Mem.plus_none (h.dead n (by rw [hrho]; exact hr) hm) hm]; exact hM
  · cases hM : m n with
    | none => rfl
    | some b => exact absurd (extra n h1 (by rw [hM]; simp)) h2
/-- Both. -/
def Mem.or (a b : Mem) : Mem := fun q => match a q with | some x => some x | none => b q
theorem Mem.or_left (a b : Mem) : a.sub (a.or b) := fun q x h => by simp [Mem.or, h]
theorem Mem.or_right {a b : Mem} (h : Apart a b) : b.sub (a.or b) := fun q x hx => by
  have : a q = none := (h q).elim (fun e => e) fun e => by rw [hx] at e; cases e
  simp [Mem.or, this, hx]
theorem Mem.or_sub {a b M : Mem} (h : a.sub M) (h' : b.sub M) : (a.or b).sub M := fun q x hx => by
  unfold Mem.or at hx
  cases ha : a q with
  | some y => rw [ha] at hx; have e : y = x := by simpa using hx
              rw [← e]; exact h q y ha
  | none => rw [ha] at hx; exact h' q x hx
theorem Mem.or_none {a b : Mem} {q : Nat} (h : a q = none) (h' : b q = none) : a.or b q = none := by simp [Mem.or, h, h']
/-- A call at a part of memory, which reads rows of the rest. -/
theorem call_seen {f : FuncId} {args args' : List AV} {mI m : Mem} {K' K'' : AV → Mem → Prop} {x : Hid K'} (h : C P f args mI K'') (hsub : mI.sub m) (hseen : Seens (mI.rest m) args' args)
    (hcl : ∀ r m', K'' r m' → r.clean = true ∧ ∀ n b, m' n = some b → cleanB b)
    (hk : ∀ r m1' M', K'' r m1' → m1'.sub M' → Left mI m m1' M' → K' r M') : CC P f args' m (hid K' x) := by
  refine .inl ⟨h.1, fun κ w cargs hs hr => ?_⟩
  have hs0 : Sim P κ (mI.rest m) w := hs.sub (Mem.rest_sub mI m)
  obtain ⟨κ1, hle, hs1, hrho, hp1, hf⟩ := freezeAll' hs0
  have hr1 : Rels κ1 args cargs := ⟨hseen.1 ▸ hr.1, fun i a b => seen_rel hs0 hle hrho hf (hseen.2 i (hseen.1 ▸ a) a) ((hr.2 i (hseen.1 ▸ a) b).mono hle)⟩
  have hsI : Sim P κ1 mI w := by
    refine ⟨hs1.prot, fun n b hn => ?_, fun n l hl => hs.lt n l (by rw [← hrho]; exact hl), fun n n' l l' hne a b c d => hs.excl n n' l l' hne (hsub.live a) (hsub.live b) (by rw [← hrho]; exact c) (by rw [← hrho]; exact d), ?_⟩
    · have hm := hsub n b hn
      rcases hs.blk n b hm with ⟨l, g1, g2, g3⟩ | ⟨g1, g2⟩
      · refine .inl ⟨l, by rw [hrho]; exact g1, g2.mono hle, fun o => ?_⟩
        cases hp : κ1.prot l.blk o with
        | none => rfl
        | some v =>
          rcases hp1 l.blk o (by rw [hp]; simp) with q | ⟨n2, l2, q1, q2, q3⟩
          · exact absurd (g3 o) q
          · obtain ⟨e1, e2⟩ := Mem.rest_live q2
            have hne : n ≠ n2 := fun e => by rw [← e, hn] at e1; cases e1
            exact absurd q3.symm (hs.excl n n2 l l2 hne (by rw [hm]; simp) e2 g1 q1)
      · exact .inr ⟨by rw [hrho]; exact g1, g2⟩
    · obtain ⟨N, hN⟩ := hs.fin
      refine ⟨N, fun n hn => ⟨by rw [hrho]; exact (hN n hn).1, ?_⟩⟩
      cases hm : mI n with
      | none => rfl
      | some b => have := hsub n b hm; rw [(hN n hn).2] at this; cases this
  refine (h.2 κ1 w cargs hsI hr1).mono ?_
  rintro e w' ⟨cv, r, m1, κ2, rfl, hK, hst, hrel⟩
  obtain ⟨hc1, hc2⟩ := hcl r m1 hK
  obtain ⟨κ3, g1, g2, g3⟩ := Step.seen hs hsub hle hrho hp1 hst hc2
  refine ⟨cv, r, m1.plus mI m, κ3, rfl, hk r m1 _ hK (fun q b hq => Mem.plus_some hq) (fun q b hq hb => ?_), g1, hrel.clean g2 hc1⟩
  have : m1 q = none := by
    cases hm : m1 q with
    | none => rfl
    | some b' => have := g3 q hq (by rw [hm]; simp); rw [hb] at this; cases this
  exact ⟨this, by rw [Mem.plus_none this hq]; exact hb⟩
end Go.Abs
