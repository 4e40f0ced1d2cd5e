/- The abstract layer, twenty-fourth part: iterators (what is ranged over), and calls at one own object. -/
import Derived.Test.YteilhoojlcpbpaaA23
set_option linter.unusedVariables false
set_option linter.unusedSimpArgs false
namespace Go.Abs
variable {P : Program}

theorem Turns.sub {r : AV} {m m' : Mem} {K' : AV → Mem → Prop} (hm : m'.sub m) (h : K' r m') : Turns P r m K' := fun κ w cv hs hr => ⟨r, m', κ, h, (Step.refl hs).sub hm, hr⟩
theorem Y.less {n : Nat} {args : List AV} {m M : Mem} {K' : AV → Mem → Prop} (h : Y P n args m K') (hsub : m.sub M) : Y P n args M K' :=
  fun κ w l cargs hs hl hr => let ⟨f, t, a, b, h1, h2⟩ := h κ w l cargs (hs.sub hsub) hl hr
    ⟨f, t, a, b, h1, h2.mono fun e w' ⟨cv, r, m', κ', a, b, c, d⟩ => ⟨cv, r, m', κ', a, b, c.less hsub hs, d⟩⟩
theorem C.less {f : FuncId} {args : List AV} {m M : Mem} {K' : AV → Mem → Prop} (h : C P f args m K') (hsub : m.sub M) : C P f args M K' :=
  ⟨h.1, fun κ w cargs hs hr => (h.2 κ w cargs (hs.sub hsub) hr).mono fun e w' ⟨cv, r, m', κ', a, b, c, d⟩ => ⟨cv, r, m', κ', a, b, c.less hsub hs, d⟩⟩
theorem Mem.del_none {m : Mem} {n : Nat} (h : m n = none) : m.del n = m := by
  funext k; unfold Mem.del; split
  · rename_i e; rw [e, h]
  · rfl
theorem Mem.sub_del {m M : Mem} {n : Nat} (hs : m.sub M) (h : m n = none) : m.sub (M.del n) := fun k b hk => by
  unfold Mem.del
  split
  · rename_i e; rw [e, h] at hk; cases hk
  · exact hs k b hk
theorem Mem.set_mono {m M : Mem} {n : Nat} {b : Blk} (hs : m.sub M) : (m.set n b).sub (M.set n b) := fun k b' hk => by
  unfold Mem.set at *
  split at hk
  · rename_i e; rw [if_pos e]; exact hk
  · rename_i e; rw [if_neg e]; exact hs k b' hk
theorem Mem.sub_set_new {m M : Mem} {n : Nat} {b : Blk} (hs : m.sub M) (h : m n = none) : m.sub (M.set n b) := fun k b' hk => by
  unfold Mem.set
  split
  · rename_i e; rw [e, h] at hk; cases hk
  · exact hs k b' hk
theorem Mem.plus_obj {M : Mem} {n : Nat} {b b' : Blk} (h : M n = some b) : (nomem.set n b').plus (nomem.set n b) M = M.set n b' := by
  rw [Mem.plus_set]
  funext k
  by_cases e : k = n
  · subst e; rw [Mem.set_same, Mem.set_same]
  · rw [Mem.set_ne _ _ e, Mem.set_ne _ _ e, Mem.plus_none rfl (by rw [Mem.set_ne _ _ e]; rfl)]
/-- A call that looks at one own object, and changes that alone. -/
theorem call_obj {f : FuncId} {args : List AV} {n : Nat} {b : Blk} {M : Mem} {K' K'' : AV → Mem → Prop} {x : Hid K'} (h : C P f args (nomem.set n b) K'') (hM : M n = some b)
    (hk : ∀ r m', K'' r m' → ∃ b', m' = nomem.set n b' ∧ K' r (M.set n b')) : CC P f args M (hid K' x) :=
  call_on h (nomem_set_sub hM) fun r m' h1 _ => by
    obtain ⟨b', rfl, h2⟩ := hk r m' h1
    rw [Mem.plus_obj hM]
    exact h2
/-- What is told is told of an iterator's yield, where the iterator has memory of its own. -/
theorem yield_on {n : Nat} {args : List AV} {mI m : Mem} {K' K'' : AV → Mem → Prop} {x : Hid K'} (h : Y P n args mI K'') (hsub : mI.sub m)
    (hk : ∀ r m' M', K'' r m' → m'.sub M' → (∀ q b, mI q = none → m q = some b → m' q = none ∧ M' q = some b) → K' r M') : Y P n args m (hid K' x) :=
  (h.frame hsub).mono fun r M' ⟨m', h1, h2, h3⟩ => by
    subst h3
    refine hk r m' _ h1 (fun q b hq => Mem.plus_some hq) fun q b hq hb => ?_
    have : m' q = none := by
      cases hm : m' q with
      | none => rfl
      | some b' => have := h2 q hq (by rw [hm]; simp); rw [hb] at this; cases this
    exact ⟨this, by rw [Mem.plus_none this hq]; exact hb⟩

/-- Function f, called with a yield and what it caught, where memory holds mB, hands out the rows of L in their order, until it is told to stop. -/
def Iter (P : Program) (f : FuncId) (first caps : List AV) (mB : Mem) (L : List (List AV)) : Prop :=
  ∀ (n : Nat) (M : Mem) (I : Nat → Mem → Prop) (S : Mem → Prop) (K' : AV → Mem → Prop), mB.sub M → I 0 M →
    (∀ k (h : k < L.length) m, I k m → Y P n L[k] m (fun r m' => (r = .val (.bool true) ∧ I (k + 1) m') ∨ (r = .val (.bool false) ∧ S m'))) →
    (∀ m, I L.length m → K' (.tup []) m) → (∀ m, S m → K' (.tup []) m) → C P f (first ++ [.yld n] ++ caps) M K'
/-- A round of a loop over an iterator. -/
def roundV (n : Nat) (env : List AV) (ps : Array Tmp) (asg body : Code) (J' : Mem → Prop) (Q : Exit → List AV → Mem → Prop) (e : Exit) (_ : List AV) (m3 : Mem) : Prop :=
  m3 n = some (.loop .busy none env ps asg body) ∧ match e with
    | .normal => ∃ m1, m1.sub (m3.del n) ∧ J' m1
    | .ret => Q .ret env (m3.del n)
    | .exit id => Q (.exit id) env (m3.del n)
    | .goto t => Q (.goto t) env (m3.del n)
    | _ => False
section
variable {n : Nat} {env : List AV} {ps : Array Tmp} {asg body : Code} {J' : Mem → Prop} {Q : Exit → List AV → Mem → Prop} {env3 : List AV} {m3 : Mem}
theorem roundV_normal : roundV n env ps asg body J' Q .normal env3 m3 = (m3 n = some (.loop .busy none env ps asg body) ∧ ∃ m1, m1.sub (m3.del n) ∧ J' m1) := rfl
theorem roundV_ret : roundV n env ps asg body J' Q .ret env3 m3 = (m3 n = some (.loop .busy none env ps asg body) ∧ Q .ret env (m3.del n)) := rfl
theorem roundV_exit (id : Nat) : roundV n env ps asg body J' Q (.exit id) env3 m3 = (m3 n = some (.loop .busy none env ps asg body) ∧ Q (.exit id) env (m3.del n)) := rfl
end
theorem range_iter {rd : Option Nat} {f : FuncId} {first caps : List AV} {L : List (List AV)} {ps : Array Tmp} {asg body : Code} {la lb : LC} {Q : Exit → List AV → Mem → Prop} {x : Hid Q} {env : List AV} {m : Mem} (hm : P.follows .mixedOrders = true) (ha : leanC asg = la) (hb : leanC body = lb)
    {mB : Mem} (hI : Iter P f first caps mB L) (hB : mB.sub m) (hps : ∀ l ∈ L, l.length = ps.size) (hrd : ∀ n, rd = some n → ∃ st pend env ps asg body, m n = some (.loop st pend env ps asg body)) (J : Nat → Mem → Prop) (m0 : Mem) (hsub : m0.sub m) (h0 : J 0 m0)
    (hbody : ∀ k (hk : k < L.length) n m1, J k m1 → m1 n = none → V P (some n) la (fun e env1 m2 => e = .normal ∧ m2 n = some (.loop .ready none env ps asg body) ∧ V P (some n) lb (roundV n env ps asg body (J (k + 1)) (hid Q .mk)) env1 (m2.set n (.loop .busy none env ps asg body)))
      (startA env ps L[k]) (m1.set n (.loop .ready none env ps asg body)))
    (hend : ∀ m1, J L.length m1 → Q .normal env m1) : rangeV P rd (.fn (.func f) first caps) ps asg body (hid Q x) env m := by
  refine range_intro hrd fun n hn => C.turn ?_
  refine hI n _ (fun k M => ∃ m1, J k m1 ∧ m1 n = none ∧ (m1.set n (.loop .ready none env ps asg body)).sub M) (fun M => rangeK n env ps asg body Q M) _ (Mem.sub_set_new hB ?_) ?_ ?_ ?_ ?_
  · cases h : mB n with
    | none => rfl
    | some b => have := hB n b h; rw [hn] at this; cases this
  · have hm0 : m0 n = none := by
      cases h : m0 n with
      | none => rfl
      | some b => have := hsub n b h; rw [hn] at this; cases this
    exact ⟨m0, h0, hm0, Mem.set_mono hsub⟩
  · rintro k hk M ⟨m1, hJ, h1, hs1⟩
    refine Y.less ?_ hs1
    refine Y.of_W (env := env) (ps := ps) (asg := asg) (body := body) (Mem.set_same _ _ _) (hps _ (List.getElem_mem hk)) ?_
    have hV := hbody k hk n m1 hJ h1
    subst ha hb
    refine (W.of_V hm asg _ _ _ hV).mono fun e env1 m2 ⟨a, b, c⟩ => ⟨a, b, (W.of_V hm body _ _ _ c).mono fun e2 env2 m3 h => ?_⟩
    obtain ⟨g1, g2⟩ := h
    refine ⟨g1, ?_⟩
    cases e2 with
    | normal =>
      obtain ⟨m4, q1, q2⟩ := g2
      have h4 : m4 n = none := by
        cases h : m4 n with
        | none => rfl
        | some b => have := q1 n b h; rw [Mem.del_same] at this; cases this
      refine .inl ⟨rfl, m4, q2, h4, fun k' b' hk' => ?_⟩
      unfold Mem.set at hk' ⊢
      split at hk'
      · rename_i e; rw [if_pos e]; exact hk'
      · rename_i e; rw [if_neg e]; exact Mem.del_sub m3 n _ _ (q1 _ _ hk')
    | ret => exact .inr ⟨rfl, .done, some .ret, Mem.set_same _ _ _, rfl, by rw [Mem.del_set_eq]; exact g2⟩
    | exit id => exact .inr ⟨rfl, .done, some (.exit id), Mem.set_same _ _ _, rfl, by rw [Mem.del_set_eq]; exact g2⟩
    | goto t => exact .inr ⟨rfl, .done, some (.goto t), Mem.set_same _ _ _, rfl, by rw [Mem.del_set_eq]; exact g2⟩
    | panic c => exact g2.elim
    | outgrown => exact g2.elim
  · rintro M ⟨m1, hJ, h1, hs1⟩
    refine Turns.sub hs1 ⟨.ready, none, Mem.set_same _ _ _, rfl, ?_⟩
    rw [Mem.del_set_eq, Mem.del_none h1]
    exact hend m1 hJ
  · intro M hM
    exact Turns.id hM

theorem New.rowTake {α : Type} (f : α → List AV) {s : Nat} (hf : ∀ a, (f a).length = s) (hfl : ∀ a, AV.flat.flats (f a) = true) (l : List α) {m : Mem} {n cap q : Nat} {opn : Bool} {t : TypeId} (hm : m n = some (.cells opn t (l.map f).flatten)) (hq : q ≤ l.length) :
    New m (.sl n 0 q cap) (.vs ((l.take q).map f) false) := by
  have hall : ∀ e ∈ l.map f, e.length = s := fun e he => by obtain ⟨a, _, rfl⟩ := List.mem_map.1 he; exact hf a
  have hall' : ∀ e ∈ (l.take q).map f, e.length = s := fun e he => by obtain ⟨a, _, rfl⟩ := List.mem_map.1 he; exact hf a
  have hle : q * s ≤ l.length * s := Nat.mul_le_mul_right _ hq
  have hlen : (l.map f).flatten.length = l.length * s := by rw [flatten_len hall]; simp
  refine New.sl (s := s) hm (by omega) (by simp; omega) hall' fun i hi j hj hk => ?_
  have hi' : i < q := by simp at hi; omega
  have hil : i < (l.map f).length := by simp; omega
  have hj' : j < ((l.map f)[i]).length := by simpa using hj
  have := flatten_get hall i hil j hj' (by simpa using hk)
  simp only [Nat.zero_add]
  rw [this]
  simp only [List.getElem_map, List.getElem_take] at hj ⊢
  exact New.flats (hfl _) j hj
end Go.Abs
