/- The abstract layer, twelfth part: contracts of calls, operations, and rows of operations. -/
import Derived.Test.YteilhoojlcpbpaaA11
import Derived.Laws.Externs
import Derived.Laws.IdiomStrings
set_option linter.unusedVariables false
set_option linter.unusedSimpArgs false
namespace Go.Abs
variable {P : Program}

/-- The fence that lets all in, at a function's activation or at a round's. -/
def Fr (rd : Option Nat) : Fence := { Fence.wide with round := rd }
theorem Fr_room (rd : Option Nat) (n : Nat) : (Fr rd).room n := fun _ h => by simp [Fr, Fence.wide] at h
theorem Fr_depth (rd : Option Nat) {p : Prop} : (Fr rd).depth.isSome = true → p := fun h => by simp [Fr, Fence.wide] at h

/-- A call of function f returns, and K holds of its result and the memory behind it. -/
def C (P : Program) (f : FuncId) (args : List AV) (m : Mem) (K' : AV → Mem → Prop) : Prop :=
  (∃ fn, P.funcs[f]? = some fn ∧ fn.body.isNone = false ∧ (fn.name == "runtime.NumGoroutine") = false) ∧
  ∀ κ w cargs, Sim P κ m w → Rels κ args cargs → CallsIn Fence.wide 0 P f cargs w fun e w' => ∃ cv r m' κ', e = .returned cv ∧ K' r m' ∧ Step P κ m w κ' m' w' ∧ Rel κ' r cv

/-- A call of 'yield' of the loop n. -/
def Y (P : Program) (n : Nat) (args : List AV) (m : Mem) (K' : AV → Mem → Prop) : Prop :=
  ∀ κ w l cargs, Sim P κ m w → κ.rho n = some (some l) → Rels κ args cargs → ∃ f tmps asg body, (Instr.yield l.blk cargs).run P w = .ok (.round l.blk f tmps asg body) w ∧
    RoundIn Fence.wide 0 P l.blk f tmps asg body w fun e w' => ∃ cv r m' κ', e = .returned cv ∧ K' r m' ∧ Step P κ m w κ' m' w' ∧ Rel κ' r cv

def CV (P : Program) (f : AV) (args : List AV) (m : Mem) (K' : AV → Mem → Prop) : Prop :=
  match f with
  | .fn (.func g) first caps => C P g (first ++ args ++ caps) m K'
  | .yld n => Y P n args m K'
  | _ => False

theorem C.mono {f : FuncId} {args : List AV} {m : Mem} {K' K'' : AV → Mem → Prop} (h : C P f args m K') (hk : ∀ r m', K' r m' → K'' r m') : C P f args m K'' :=
  ⟨h.1, fun κ w cargs hs hr => (h.2 κ w cargs hs hr).mono fun e w' ⟨cv, r, m', κ', a, b, c⟩ => ⟨cv, r, m', κ', a, hk _ _ b, c⟩⟩
theorem Y.mono {n : Nat} {args : List AV} {m : Mem} {K' K'' : AV → Mem → Prop} (h : Y P n args m K') (hk : ∀ r m', K' r m' → K'' r m') : Y P n args m K'' :=
  fun κ w l cargs hs hl hr => let ⟨f, t, a, b, h1, h2⟩ := h κ w l cargs hs hl hr; ⟨f, t, a, b, h1, h2.mono fun e w' ⟨cv, r, m', κ', a, b, c⟩ => ⟨cv, r, m', κ', a, hk _ _ b, c⟩⟩
theorem CV.mono {f : AV} {args : List AV} {m : Mem} {K' K'' : AV → Mem → Prop} (h : CV P f args m K') (hk : ∀ r m', K' r m' → K'' r m') : CV P f args m K'' := by
  unfold CV at *
  cases f with
  | fn g a b => cases g with
    | func g => exact C.mono h hk
    | _ => exact h.elim
  | yld n => exact Y.mono h hk
  | _ => exact h.elim

def chunk (s : Nat) : Nat → List AV → List (List AV)
  | 0, _ => []
  | n + 1, l => l.take s :: chunk s n (l.drop s)
theorem chunk_spec (s : Nat) : ∀ (n : Nat) (l : List AV), l.length = n * s → (chunk s n l).flatten = l ∧ (chunk s n l).length = n ∧ ∀ e ∈ chunk s n l, e.length = s
  | 0, l, h => by simp at h; subst h; exact ⟨rfl, rfl, fun e he => by simp [chunk] at he⟩
  | n + 1, l, h => by
    rw [Nat.add_mul] at h
    obtain ⟨h1, h2, h3⟩ := chunk_spec s n (l.drop s) (by simp; omega)
    refine ⟨by simp [chunk, h1], by simp [chunk, h2], fun e he => ?_⟩
    simp only [chunk, List.mem_cons] at he
    rcases he with rfl | he
    · simp; omega
    · exact h3 e he

/-- make([]T, l, c) -/
def mkSliceA (P : Program) (t : TypeId) (l c : AV) : Option (TypeId × Nat × Nat × List AV) :=
  match ti P t, l, c with
  | some i, .val (.int _ a), .val (.int _ b) => match i.desc with
    | .slice e => match ti P e, zeroA P e with
      | some j, some z => if 0 ≤ a ∧ a ≤ b ∧ j.bytes * b ≤ 281474976710656 ∧ b ≤ 9223372036854775807 ∧ z.length = j.size ∧ 0 < j.size then some (e, a.toNat, b.toNat, (List.replicate b.toNat z).flatten) else none
      | _, _ => none
    | _ => none
  | _, _, _ => none

/-- The first k elements of what is copied from. -/
def truncA (k : Nat) : AV → AV
  | .vs es _ => .vs (es.take k) false
  | .sl n off len cap => .sl n off (min k len) cap
  | .val (.string b) => .val (.string (b.extract 0 k))
  | x => x
def lenS : AV → Option Nat
  | .vs es _ => some es.length
  | .sl _ _ len _ => some len
  | .val (.slice none 0 0) => some 0
  | .val (.string b) => some b.size
  | _ => none
/-- A copy into a row of the run's own: how many elements, and the memory then. -/
def copyA (P : Program) (m : Mem) (t xt : TypeId) (d x : AV) : Option (Nat × Mem) :=
  match ti P t with
  | some i => match i.desc with
    | .slice e => match ti P e with
      | some j => match d, lenS x with
        | .sl n off len _, some k => if min k len = 0 then some (0, m) else match m n, srcA P m xt j.size (truncA (min k len) x) with
          | some (.cells opn bt cs), some (_, src) => if off + len * j.size ≤ cs.length then some (min k len, m.set n (.cells opn bt (setRange cs off src))) else none
          | _, _ => none
        | .val (.slice none 0 0), some _ => some (0, m)
        | _, _ => none
      | none => none
    | _ => none
  | none => none
/-- The capacity of a row that is not open. -/
def capA (P : Program) (m : Mem) (t : TypeId) (x : AV) : Option AV :=
  match ti P t with
  | some i => match i.desc, x with
    | .slice _, .sl n _ _ cap => match m n with
      | some (.cells false _ _) => some (.val (.int .i64 cap))
      | _ => none
    | .slice _, .val (.slice none 0 0) => some (.val (.int .i64 0))
    | .slice _, .vs es true => some (.val (.int .i64 es.length))
    | _, _ => none
  | none => none
/-- A slice of which it is not known whether it is nil, held against nil. -/
def nilAny (P : Program) (op : BinOp) (t : TypeId) (x y : AV) : Prop :=
  (op = .eql ∨ op = .neq) ∧ (∃ i e, ti P t = some i ∧ i.desc = .slice e) ∧ (y = .val (.slice none 0 0)) ∧ ((∃ es ex, x = .vs es ex) ∨ ∃ n off len cap, x = .sl n off len cap)
/-- A call of a function that the model carries out itself. -/
def X (P : Program) (f : FuncId) (args : List AV) (m : Mem) (K' : AV → Mem → Prop) : Prop :=
  ∃ fn e, P.funcs[f]? = some fn ∧ (fn.name == "runtime.NumGoroutine") = false ∧ fn.body.isNone = true ∧ Extern.findNext fn = none ∧ Extern.find fn = some e ∧
    ∀ κ w cargs, Sim P κ m w → Rels κ args cargs → ∃ cv w' r m' κ', (e cargs).run P w = .ok cv w' ∧ K' r m' ∧ Step P κ m w κ' m' w' ∧ Rel κ' r cv
theorem X.mono {f : FuncId} {args : List AV} {m : Mem} {K' K'' : AV → Mem → Prop} (h : X P f args m K') (hk : ∀ r m', K' r m' → K'' r m') : X P f args m K'' := by
  obtain ⟨fn, e, a, b, c, d, g, h⟩ := h
  exact ⟨fn, e, a, b, c, d, g, fun κ w cargs hs hr => let ⟨cv, w', r, m', κ', h1, h2, h3⟩ := h κ w cargs hs hr; ⟨cv, w', r, m', κ', h1, hk _ _ h2, h3⟩⟩
/-- A call, of either kind. -/
def CC (P : Program) (f : FuncId) (args : List AV) (m : Mem) (K' : AV → Mem → Prop) : Prop := C P f args m K' ∨ X P f args m K'
def CW (P : Program) (f : AV) (args : List AV) (m : Mem) (K' : AV → Mem → Prop) : Prop :=
  match f with
  | .fn (.func g) first caps => CC P g (first ++ args ++ caps) m K'
  | .yld n => Y P n args m K'
  | _ => False
theorem CC.mono {f : FuncId} {args : List AV} {m : Mem} {K' K'' : AV → Mem → Prop} (h : CC P f args m K') (hk : ∀ r m', K' r m' → K'' r m') : CC P f args m K'' := h.imp (fun h => h.mono hk) (fun h => h.mono hk)
theorem CW.mono {f : AV} {args : List AV} {m : Mem} {K' K'' : AV → Mem → Prop} (h : CW P f args m K') (hk : ∀ r m', K' r m' → K'' r m') : CW P f args m K'' := by
  unfold CW at *
  cases f with
  | fn g a b => cases g with
    | func g => exact CC.mono h hk
    | _ => exact h.elim
  | yld n => exact Y.mono h hk
  | _ => exact h.elim

theorem nilAny_sound {κ : K} {op : BinOp} {t : TypeId} {x y : AV} (h : nilAny P op t x y) {cx cy : Value} (hx : Rel κ x cx) (hy : Rel κ y cy) (A B : Operand) :
    ∃ b, ∀ w, (do eqGuard op t A B cx cy; binOp op t cx cy : Sem Value).run P w = .ok (.bool b) w := by
  obtain ⟨hop, ⟨i, e, hi, hd⟩, rfl, hx'⟩ := h
  obtain ⟨rfl, _⟩ := hy.val_inv
  have key : P.underlying t = some (.slice e) := (ti_spec hi).1.trans (by rw [hd])
  have shape : (∃ l c, cx = .slice none l c) ∨ ∃ a l c, cx = .slice (some a) l c := by
    rcases hx' with ⟨es, ex, rfl⟩ | ⟨n, off, len, cap, rfl⟩ <;> cases hx <;> first | exact .inl ⟨_, _, rfl⟩ | exact .inr ⟨_, _, _, rfl⟩
  rcases shape with ⟨l, c, rfl⟩ | ⟨a, l, c, rfl⟩
  · have he : ∀ w, (Op.equal t (.slice none l c) (.slice none 0 0)).run P w = .ok true w := fun w => by
      refine run_equal_of _ _ _ ?_; rw [Op.equalIn, Sem.run_bind, run_underlying key]; rfl
    rcases hop with rfl | rfl
    · refine ⟨true, fun w => ?_⟩
      simp only [Sem.run_bind, eqGuard_at_slice, Sem.run_pure, Result.andThen_ok]
      show ((Op.equal t (.slice none l c) (.slice none 0 0)) >>= fun b => pure (Value.bool b)).run P w = _
      rw [Sem.run_bind, he w]; rfl
    · refine ⟨false, fun w => ?_⟩
      simp only [Sem.run_bind, eqGuard_at_slice, Sem.run_pure, Result.andThen_ok]
      show ((Op.equal t (.slice none l c) (.slice none 0 0)) >>= fun b => pure (Value.bool (!b))).run P w = _
      rw [Sem.run_bind, he w]; rfl
  · have he : ∀ w, (Op.equal t (.slice (some a) l c) (.slice none 0 0)).run P w = .ok false w := fun w => by
      refine run_equal_of _ _ _ ?_; rw [Op.equalIn, Sem.run_bind, run_underlying key]; rfl
    rcases hop with rfl | rfl
    · refine ⟨false, fun w => ?_⟩
      simp only [Sem.run_bind, eqGuard_at_slice, Sem.run_pure, Result.andThen_ok]
      show ((Op.equal t (.slice (some a) l c) (.slice none 0 0)) >>= fun b => pure (Value.bool b)).run P w = _
      rw [Sem.run_bind, he w]; rfl
    · refine ⟨true, fun w => ?_⟩
      simp only [Sem.run_bind, eqGuard_at_slice, Sem.run_pure, Result.andThen_ok]
      show ((Op.equal t (.slice (some a) l c) (.slice none 0 0)) >>= fun b => pure (Value.bool (!b))).run P w = _
      rw [Sem.run_bind, he w]; rfl
/-- What is copied, cut to length. -/
theorem trunc_rel {κ : K} {x : AV} {cx : Value} (hx : Rel κ x cx) {k : Nat} (hl : lenS x = some k) {q : Nat} (hq : q ≤ k) :
    ∃ cx', Rel κ (truncA q x) cx' ∧ lenS (truncA q x) = some q ∧ (∀ w, (Builtin.lenOf cx).run P w = .ok k w) ∧ ∀ s w, (Builtin.firstCells s q cx).run P w = (Builtin.firstCells s q cx').run P w := by
  unfold lenS at hl
  split at hl
  · rename_i es ex
    cases hl
    cases hx with
    | vnil => exact ⟨.slice none 0 0, by simpa [truncA] using Rel.vnil, by simp at hq; simp [truncA, lenS, hq], fun w => rfl, fun s w => rfl⟩
    | @vz _ a => exact ⟨.slice (some a) 0 0, by simpa [truncA] using Rel.vz, by simp at hq; simp [truncA, lenS, hq], fun w => rfl, fun s w => rfl⟩
    | @vs _ _ c o s cap f q1 q2 q3 q4 q5 =>
      have hlen : (es.take q).length = q := by simp; omega
      refine ⟨.slice (some ⟨c, o, none⟩) q cap, ?_, by simp [truncA, lenS]; omega, fun w => rfl, fun s w => rfl⟩
      have := @Rel.vs κ (es.take q) false c o s cap f (fun e he => q1 e (List.mem_of_mem_take he)) (by rw [hlen]; omega) (fun h => by cases h)
        (fun i j hi hj => q4 i j (by rw [hlen] at hi; omega) hj) (fun i hi j hj => by
          simp only [List.getElem_take] at hj ⊢
          exact q5 i (by rw [hlen] at hi; omega) j hj)
      rw [hlen] at this
      exact this
  · rename_i n off len cap
    cases hl
    cases hx with
    | snil =>
      have : q = 0 := by omega
      subst this
      exact ⟨.slice none 0 0, .snil, by simp [truncA, lenS], fun w => rfl, fun s w => rfl⟩
    | @szero _ _ a =>
      have : q = 0 := by omega
      subst this
      exact ⟨.slice (some a) 0 0, .szero, by simp [truncA, lenS], fun w => rfl, fun s w => rfl⟩
    | @sl _ _ _ _ cap' c' o' l q1 q2 q3 q4 =>
      refine ⟨.slice (some ⟨c', o', none⟩) q cap', ?_, by simp [truncA, lenS]; omega, fun w => rfl, fun s w => rfl⟩
      simp only [truncA, Nat.min_eq_left hq]
      exact .sl q1 q2 (by omega) q4
  · cases hl
    obtain ⟨rfl, _⟩ := hx.val_inv
    have : q = 0 := by omega
    subst this
    exact ⟨_, .val rfl, rfl, fun w => rfl, fun s w => rfl⟩
  · rename_i b
    cases hl
    obtain ⟨rfl, _⟩ := hx.val_inv
    refine ⟨.string (b.extract 0 q), .val rfl, ?_, fun w => rfl, fun s w => ?_⟩
    · simp only [truncA, lenS, ByteArray.size_extract]; congr 1; omega
    · have : (b.extract 0 q).extract 0 q = b.extract 0 q := by
        have h := @ByteArray.extract_zero_size (b.extract 0 q)
        rwa [show (b.extract 0 q).size = q by rw [ByteArray.size_extract]; omega] at h
      simp only [Builtin.firstCells, this]
  · cases hl
theorem srcA_len {κ : K} {m : Mem} {w : World} (hs : Sim P κ m w) {xt : TypeId} {s : Nat} {x : AV} {k : Nat} {cs : List AV} (h : srcA P m xt s x = some (k, cs)) {q : Nat} (hl : lenS x = some q) : k = q := by
  unfold srcA at h
  split at h
  · split at h
    · split at h
      · cases h; simpa [lenS] using hl
      · cases h
    · cases h; simpa [lenS] using hl
    · split at h
      · split at h
        · cases h; simpa [lenS] using hl
        · cases h
      · cases h
    · split at h
      · cases h; simpa [lenS] using hl
      · cases h
    · cases h
  · cases h
theorem copyA_sound {κ : K} {m : Mem} {w : World} (hs : Sim P κ m w) {t xt ty : TypeId} {d x : AV} {k : Nat} {m' : Mem} (h : copyA P m t xt d x = some (k, m')) {cd cx : Value} (hd : Rel κ d cd) (hx : Rel κ x cx) :
    ∃ w', (Builtin.copy_ #[t, xt] ty #[cd, cx]).run P w = .ok (.int .i64 k) w' ∧ Step P κ m w κ m' w' := by
  unfold copyA at h
  split at h
  · rename_i i hi
    split at h
    · rename_i e hde
      split at h
      · rename_i j hj
        have hu := run_underlying' (w := w) hi
        split at h
        · rename_i n off len cap kx hlx
          have hcd : ∃ base cap', cd = .slice base len cap' := by
            cases hd with
            | snil => exact ⟨_, _, rfl⟩
            | szero => exact ⟨_, _, rfl⟩
            | sl => exact ⟨_, _, rfl⟩
          have hmin : Nat.min kx len = min kx len := rfl
          obtain ⟨base, cap', hcd⟩ := hcd
          obtain ⟨cx', x1, x2, x3, x4⟩ := trunc_rel (P := P) hx hlx (q := min kx len) (Nat.min_le_left _ _)
          split at h
          · rename_i h0
            cases h
            refine ⟨w, ?_, Step.refl hs⟩
            rw [h0] at x4
            have first : ∀ s, (Builtin.firstCells s 0 cx).run P w = .ok #[] w := fun s => by
              have : ∃ y, cx = .string y ∨ ∃ a l c, cx = .slice a l c := by
                unfold lenS at hlx
                split at hlx
                · cases hx <;> exact ⟨.empty, .inr ⟨_, _, _, rfl⟩⟩
                · cases hx <;> exact ⟨.empty, .inr ⟨_, _, _, rfl⟩⟩
                · obtain ⟨rfl, _⟩ := hx.val_inv; exact ⟨.empty, .inr ⟨_, _, _, rfl⟩⟩
                · obtain ⟨rfl, _⟩ := hx.val_inv; exact ⟨_, .inl rfl⟩
                · cases hlx
              obtain ⟨y, rfl | ⟨a, l, c, rfl⟩⟩ := this
              · simp [Builtin.firstCells]
              · cases a with
                | none => rfl
                | some a => simp [Builtin.firstCells, loadCells, loadCellsFrom]
            subst hcd
            simp only [Builtin.copy_, List.getElem?_toArray, List.getElem?_cons_zero, List.getElem?_cons_succ, Sem.run_bind, hu, hde, Result.andThen_ok, x3 w, hmin, h0, run_sizeOf hj, first, Sem.run_pure]
            cases base <;> rfl
          · rename_i hne
            split at h
            · rename_i opn bt cs q src hm hsrc
              split at h
              · rename_i hfit
                cases h
                obtain ⟨news, hok⟩ := srcA_sound hs hsrc x1
                have hqk : q = min kx len := srcA_len hs hsrc x2
                subst hqk
                have hslen := hok.len
                have hfit2 : off + src.length ≤ cs.length := by
                  rw [hslen]
                  have : min kx len * j.size ≤ len * j.size := Nat.mul_le_mul_right _ (Nat.min_le_right _ _)
                  omega
                have first : (Builtin.firstCells j.size (min kx len) cx).run P w = .ok news w := (x4 _ _).trans (hok.first w (Ext.refl w))
                have hone := news_one hok
                cases hd with
                | snil => simp at hne
                | szero => simp at hne
                | @sl _ _ _ _ cap2 c' o' l q1 q2 q3 q4 =>
                  have ha : c' = l.blk ∧ o' = l.base + off := by
                    rcases q4 with q4 | q4
                    · rcases q2 with q2 | q2 <;> omega
                    · exact q4
                  obtain ⟨rfl, rfl⟩ := ha
                  obtain ⟨w', g1, g2⟩ := store_cells hs hm q1 hfit2 hok.rels hone
                  refine ⟨w', ?_, g2⟩
                  simp only [Builtin.copy_, List.getElem?_toArray, List.getElem?_cons_zero, List.getElem?_cons_succ, Sem.run_bind, hu, hde, Result.andThen_ok, x3 w, hmin, run_sizeOf hj, first, g1, Sem.run_pure]
                  rfl
              · cases h
            · cases h
        · rename_i kx hlx
          cases h
          obtain ⟨rfl, _⟩ := hd.val_inv
          obtain ⟨cx', x1, x2, x3, x4⟩ := trunc_rel (P := P) hx hlx (q := 0) (Nat.zero_le _)
          refine ⟨w, ?_, Step.refl hs⟩
          have hmin : Nat.min kx 0 = 0 := Nat.min_zero _
          have first : ∀ s, ∃ z, (Builtin.firstCells s 0 cx).run P w = .ok z w := fun s => by
            have : ∃ y, cx = .string y ∨ ∃ a l c, cx = .slice a l c := by
              unfold lenS at hlx
              split at hlx
              · cases hx <;> exact ⟨.empty, .inr ⟨_, _, _, rfl⟩⟩
              · cases hx <;> exact ⟨.empty, .inr ⟨_, _, _, rfl⟩⟩
              · obtain ⟨rfl, _⟩ := hx.val_inv; exact ⟨.empty, .inr ⟨_, _, _, rfl⟩⟩
              · obtain ⟨rfl, _⟩ := hx.val_inv; exact ⟨_, .inl rfl⟩
              · cases hlx
            obtain ⟨y, rfl | ⟨a, l, c, rfl⟩⟩ := this
            · exact ⟨_, rfl⟩
            · cases a with
              | none => exact ⟨_, rfl⟩
              | some a => exact ⟨#[], by simp [Builtin.firstCells, loadCells, loadCellsFrom]⟩
          obtain ⟨z, hz⟩ := first j.size
          simp only [Builtin.copy_, List.getElem?_toArray, List.getElem?_cons_zero, List.getElem?_cons_succ, Sem.run_bind, hu, hde, Result.andThen_ok, x3 w, hmin, run_sizeOf hj, hz, Sem.run_pure]
          rfl
        · cases h
      · cases h
    · cases h
  · cases h
theorem capA_sound {κ : K} {m : Mem} {w : World} (hs : Sim P κ m w) {t ty : TypeId} {x r : AV} (h : capA P m t x = some r) {cx : Value} (hx : Rel κ x cx) : ∃ cv, Rel κ r cv ∧ (Builtin.cap_ #[t] ty #[cx]).run P w = .ok cv w := by
  unfold capA at h
  split at h
  · rename_i i hi
    have hu := run_underlying' (w := w) hi
    split at h
    · rename_i e n off len cap hd
      split at h
      · rename_i bt cs hm
        cases h
        have hcx : ∃ a l, cx = .slice a l cap := by
          cases hx with
          | snil => exact ⟨_, _, rfl⟩
          | szero => exact ⟨_, _, rfl⟩
          | @sl _ _ _ _ cap' c' o' l q1 q2 q3 q4 =>
            rcases hs.blk n _ hm with ⟨l', e1, e2, _⟩ | ⟨e1, _⟩
            · rw [q1] at e1; cases e1
              obtain ⟨arr, t', fz, z1, z2, z3, z4, z5, z6, z7⟩ := e2
              have h0 := z5 rfl
              have : cap' = cap := by rcases q2 with q2 | q2 <;> omega
              subst this
              exact ⟨_, _, rfl⟩
            · rw [q1] at e1; cases e1
        obtain ⟨a, l, rfl⟩ := hcx
        refine ⟨_, .val rfl, ?_⟩
        simp only [Builtin.cap_, List.getElem?_toArray, List.getElem?_cons_zero, Sem.run_bind, hu, hd, Result.andThen_ok]
        rfl
      · cases h
    · rename_i e hd
      cases h
      obtain ⟨rfl, _⟩ := hx.val_inv
      refine ⟨_, .val rfl, ?_⟩
      simp only [Builtin.cap_, List.getElem?_toArray, List.getElem?_cons_zero, Sem.run_bind, hu, hd, Result.andThen_ok]
      rfl
    · rename_i e es hd
      cases h
      refine ⟨_, .val rfl, ?_⟩
      have hcx : ∃ a l, cx = .slice a l es.length := by
        cases hx with
        | vnil => exact ⟨_, _, rfl⟩
        | vz => exact ⟨_, _, rfl⟩
        | vs f q1 q2 q3 => exact ⟨_, _, by rw [q3 rfl]⟩
      obtain ⟨a, l, rfl⟩ := hcx
      simp only [Builtin.cap_, List.getElem?_toArray, List.getElem?_cons_zero, Sem.run_bind, hu, hd, Result.andThen_ok]
      rfl
    · cases h
  · cases h

/-- A text's bytes, each as a row of one cell. -/
def byteC (b : UInt8) : List AV := [.val (.int .u8 b.toNat)]
def bytesE (b : ByteArray) : List (List AV) := b.data.toList.map byteC
/-- []byte(s): the text. -/
def textB (P : Program) (s d : TypeId) (x : AV) : Option ByteArray :=
  match ti P s, ti P d, x with
  | some i, some j, .val (.string b) => match i.desc, j.desc with
    | .string, .slice e => match ti P e with
      | some q => match q.desc with
        | .int .u8 => some b
        | _ => none
      | none => none
    | _, _ => none
  | _, _, _ => none
theorem textB_sound {κ : K} {m : Mem} {w : World} (hs : Sim P κ m w) {s d : TypeId} {x : AV} {b : ByteArray} (h : textB P s d x = some b) {cv : Value} (hx : Rel κ x cv) :
    ∃ v w' κ', (convert s d cv).run P w = .ok v w' ∧ Step P κ m w κ' m w' ∧ Rel κ' (.vs (bytesE b) false) v := by
  unfold textB at h
  split at h
  · rename_i i j b' hi hj
    split at h
    · rename_i e hid hjd
      split at h
      · rename_i q hq
        split at h
        · rename_i hqd
          cases h
          obtain ⟨rfl, _⟩ := hx.val_inv
          have hrun := run_bytes_of_string w s d e b ((ti_spec hi).1.trans (by rw [hid])) ((ti_spec hj).1.trans (by rw [hjd])) ((ti_spec hq).1.trans (by rw [hqd]))
          generalize hcap : grownCap w b.size 0 e = cap at hrun
          have hle : b.size ≤ cap := by rw [← hcap]; exact grownCap_ge w b.size 0 e
          have hbut : But w (w.drew.alloc (.cells (bytesRow b cap) e ((bytesRow b cap).size, (bytesRow b cap).size + 1))) w.heap.size := (But.drew w _).trans (But.alloc w.drew _ _)
          have hnew : ∀ o v, (bytesRow b cap)[o]? = some v → (w.drew.alloc (.cells (bytesRow b cap) e ((bytesRow b cap).size, (bytesRow b cap).size + 1))).cell? ⟨w.heap.size, o, none⟩ = some v := fun o v h => by
            have := heap_alloc_new' w.drew (.cells (bytesRow b cap) e ((bytesRow b cap).size, (bytesRow b cap).size + 1))
            have hsz : w.drew.heap.size = w.heap.size := rfl
            rw [hsz] at this
            simp only [World.cell?, this]
            simpa using h
          have hst := Step.protect hs (c := w.heap.size) (f := fun o => (bytesRow b cap)[o]?) hbut (Nat.le_refl _) hnew
          refine ⟨_, _, _, hrun, hst, ?_⟩
          have hsize : b.size = b.data.size := rfl
          have hlen : (bytesE b).length = b.size := by unfold bytesE; rw [List.length_map, Array.length_toList, hsize]
          have hat : ∀ k, k < b.size → (bytesRow b cap)[k]? = some (.int .u8 ((b.data[k]?.getD 0).toNat : Int)) := fun k hk => by
            unfold bytesRow
            rw [Array.getElem?_append_left (by simpa using hk), Array.getElem?_map]
            have : k < b.data.size := hk
            rw [Array.getElem?_eq_getElem this]
            rfl
          rw [← hlen]
          refine .vs (s := 1) (fun k _ => .int .u8 ((b.data[k]?.getD 0).toNat : Int)) (fun x hx => ?_) (by omega) (fun h => by cases h) (fun k j hk hj => ?_) (fun k hk j hj => ?_)
          · obtain ⟨y, _, rfl⟩ := List.mem_map.1 hx; rfl
          · rw [hlen] at hk
            have : j = 0 := by omega
            subst this
            simp only [Nat.mul_one, Nat.add_zero, Nat.zero_add]
            exact K.protect_same _ (hat k hk)
          · have hk' : k < b.data.size := by rw [hlen] at hk; exact hk
            have e1 : (bytesE b)[k] = byteC b.data[k] := by
              have h0 : (b.data.toList.map byteC)[k]? = some (byteC b.data[k]) := by rw [List.getElem?_map, Array.getElem?_toList, Array.getElem?_eq_getElem hk']; rfl
              exact (List.getElem?_eq_some_iff.1 h0).2
            have hj0 : j = 0 := by
              have : j < (byteC b.data[k]).length := by rw [← e1]; exact hj
              exact Nat.lt_one_iff.1 this
            subst hj0
            have e2 : (bytesE b)[k][0] = .val (.int .u8 (b.data[k].toNat : Int)) := by
              have : ∀ (l : List AV) (h : 0 < l.length), l = byteC b.data[k] → l[0] = .val (.int .u8 (b.data[k].toNat : Int)) := fun l h e => by subst e; rfl
              exact this _ _ e1
            rw [e2]
            simp only [Array.getElem?_eq_getElem hk', Option.getD_some]
            exact .val rfl
        · cases h
      · cases h
    · cases h
  · cases h
/-! ### []byte("..") of a literal: its row is marked, and told for good -/
theorem heap_freeze (w : World) (a : Addr) (n c : Nat) (h : c ≠ a.block) : (w.freeze a n).heap[c]? = w.heap[c]? := by
  unfold World.freeze
  split
  · rfl
  · simp only [Array.getElem?_modify]
    rw [if_neg (Ne.symm h)]
theorem size_freeze (w : World) (a : Addr) (n : Nat) : (w.freeze a n).heap.size = w.heap.size := by
  unfold World.freeze
  split
  · rfl
  · simp
theorem cell_freeze (w : World) (a b : Addr) (n : Nat) : (w.freeze a n).cell? b = w.cell? b := by
  by_cases e : b.block = a.block
  · unfold World.freeze
    split
    · rfl
    · simp only [World.cell?, Array.getElem?_modify, e, if_true]
      cases h : w.heap[a.block]? with
      | none => rfl
      | some o => cases o <;> rfl
  · simp only [World.cell?, heap_freeze w a n b.block e]
theorem Step.mark {κ : K} {m : Mem} {w : World} (hs : Sim P κ m w) {n : Nat} {l : Loc} {opn : Bool} {t : TypeId} {cs : List AV} (hm : m n = some (.cells opn t cs)) (hl : κ.rho n = some (some l)) (o k : Nat) :
    ∃ κ', ∃ f : Nat → Value, Step P κ m w κ' (m.del n) (w.freeze ⟨l.blk, o, none⟩ k) ∧ l.top = cs.length ∧ ∀ i (h : i < cs.length), κ'.prot l.blk (l.base + i) = some (f i) ∧ Rel κ' cs[i] (f i) := by
  obtain ⟨κ', f, hst, h1, h2⟩ := Step.freeze hs hm hl
  refine ⟨κ', f, ⟨hst.le, ⟨?_, ?_, ?_, hst.sim.excl, hst.sim.fin⟩, ?_, ?_, hst.origin, ?_, ?_, ?_, hst.porigin, hst.dead⟩, h1, h2⟩
  · intro c p v hp; rw [cell_freeze]; exact hst.sim.prot c p v hp
  · intro q b hq
    rcases hst.sim.blk q b hq with ⟨l', g1, g2, g3⟩ | g
    · refine .inl ⟨l', g1, g2.congr (heap_freeze w _ k _ ?_), g3⟩
      have hqn : q ≠ n := fun e => by subst e; simp at hq
      have hr : κ'.rho n = some (some l) := hst.le.rho _ _ hl
      have hmq : m q = some b := Mem.del_sub m n q b hq
      have hkq : κ.rho q = some (some l') := by
        cases hk : κ.rho q with
        | none => rcases hs.blk q b hmq with ⟨l2, z1, _⟩ | ⟨z1, _⟩ <;> (rw [hk] at z1; cases z1)
        | some x => have := hst.le.rho _ _ hk; rw [g1] at this; exact this.symm
      exact hs.excl q n l' l hqn (by rw [hmq]; simp) (by rw [hm]; simp) hkq hl
    · exact .inr g
  · intro q l' h; rw [size_freeze]; exact hst.sim.lt q l' h
  · rw [size_freeze]; exact Nat.le_refl _
  · intro c hc hb
    exact heap_freeze w _ k c fun e => hb ⟨n, l, hl, by rw [hm]; simp, e.symm⟩
  · unfold World.freeze; split <;> rfl
  · unfold World.freeze; split <;> rfl
  · unfold World.freeze; split <;> rfl
/-- []byte of a row of bytes: what it is read as, and the memory then. -/
def markA (P : Program) (m : Mem) (s d : TypeId) (x : AV) : Option (AV × Mem) :=
  if s = d then (match ti P s, x with
    | some i, .sl n off len cap => match i.desc, m n with
      | .slice e, some (.cells false bt cs) => match ti P e with
        | some q => match q.desc with
          | .int .u8 => if off + len ≤ cs.length ∧ 0 < len ∧ P.cellsOf e = 1 then some (.vs (((cs.drop off).take len).map fun c => [c]) false, m.del n) else none
          | _ => none
        | none => none
      | _, _ => none
    | _, _ => none) else none
theorem markA_sound {κ : K} {m : Mem} {w : World} (hs : Sim P κ m w) {s d : TypeId} {x r : AV} {m' : Mem} (h : markA P m s d x = some (r, m')) {cv : Value} (hx : Rel κ x cv) :
    ∃ v w' κ', (convert s d cv).run P w = .ok v w' ∧ Step P κ m w κ' m' w' ∧ Rel κ' r v := by
  unfold markA at h
  split at h
  · rename_i hsd
    subst hsd
    split at h
    · rename_i i n off len cap hi
      split at h
      · rename_i e bt cs hd hm
        split at h
        · rename_i q hq
          split at h
          · rename_i hqd
            split at h
            · rename_i hc
              obtain ⟨c1, c2, c3⟩ := hc
              cases h
              cases hx with
              | snil => omega
              | szero => omega
              | @sl _ _ _ _ cap' c' o' l q1 q2 q3 q4 =>
                have : c' = l.blk ∧ o' = l.base + off := by rcases q4 with q4 | q4 <;> first | exact q4 | (rcases q2 with q2 | q2 <;> omega)
                obtain ⟨rfl, rfl⟩ := this
                rcases hs.blk n _ hm with ⟨l', e1, e2, e3⟩ | ⟨e1, _, e2⟩
                case inr => cases e2
                rw [q1] at e1; cases e1
                obtain ⟨arr, t', fz, z1, z2, z3, z4, z5, z6, z7⟩ := e2
                have hrun : (convert s s (.slice (some ⟨l.blk, l.base + off, none⟩) len cap')).run P w = .ok (.slice (some ⟨l.blk, l.base + off, none⟩) len cap') (w.freeze ⟨l.blk, arr.size, none⟩ 1) := by
                  have u1 : P.underlying s = some (.slice e) := (ti_spec hi).1.trans (by rw [hd])
                  have u2 : P.underlying e = some (.int .u8) := (ti_spec hq).1.trans (by rw [hqd])
                  have hsh : w.shape? l.blk = some (t', arr.size) := by simp [World.shape?, z1]
                  simp [convert, run_underlying u1, run_underlying u2, markStringish, hsh]
                obtain ⟨κ', f, hst, g1, g2⟩ := Step.mark hs hm q1 arr.size 1
                have hlen : (((cs.drop off).take len).map fun c => [c]).length = len := by simp; omega
                refine ⟨_, _, κ', hrun, hst, ?_⟩
                have hv := Rel.vs (κ := κ') (es := ((cs.drop off).take len).map fun c => [c]) (x := false) (c := l.blk) (o := l.base + off) (s := 1) (cap := cap') (fun k _ => f (off + k)) (fun x hx => by obtain ⟨y, _, rfl⟩ := List.mem_map.1 hx; rfl)
                  (by rw [hlen]; rcases q2 with q2 | q2 <;> omega) (fun h => by cases h) (fun k j hk hj => by
                    rw [hlen] at hk
                    have := (g2 (off + k) (by omega)).1
                    rw [← this]; congr 1; omega) (fun k hk j hj => by
                    rw [hlen] at hk
                    have hj0 : j = 0 := by simp at hj; omega
                    subst hj0
                    have := (g2 (off + k) (by omega)).2
                    simpa using this)
                rw [hlen] at hv
                exact hv
            · cases h
          · cases h
        · cases h
      · cases h
    · cases h
  · cases h
def loudK (P : Program) (op : Op) (ev : Operand → AV) (m : Mem) (K' : AV → Mem → Prop) : Prop :=
  match op with
  | .store t a x => ∃ m', storeA P m t (ev a) (ev x) = some m' ∧ K' (.tup []) m'
  | .alloc t => ∃ cs, zeroA P t = some cs ∧ ∀ n, m n = none → K' (.ptr n 0) (m.set n (.cells false t cs))
  | .box t x => ∃ cs, (ev x).cells = some cs ∧ ∀ n, m n = none → K' (.ptr n 0) (m.set n (.cells false t cs))
  | .buildSlice t len ps => ∃ e s cs, litA P t len (ps.toList.map fun p => (p.1, ev p.2)) = some (e, s, cs) ∧ cs.length = len * s ∧
      (K' (.vs (chunk s len cs) true) m ∨ ∀ n, m n = none → K' (.sl n 0 len len) (m.set n (.cells false e cs)))
  | .makeSlice t l c => ∃ e a b cs, mkSliceA P t (ev l) (ev c) = some (e, a, b, cs) ∧ ∀ n, m n = none → K' (.sl n 0 a b) (m.set n (.cells false e cs))
  | .makeMap t none => ∀ n, m n = none → K' (.map n) (m.set n (.map []))
  | .binOp op t x y _ => nilAny P op t (ev x) (ev y) ∧ ∀ b, K' (.val (.bool b)) m
  | .convert s d x => (∃ b, textB P s d (ev x) = some b ∧ K' (.vs (bytesE b) false) m) ∨ ∃ r m', markA P m s d (ev x) = some (r, m') ∧ K' r m'
  | .call { callee := .value f, args, .. } => CW P (ev f) (args.toList.map ev) m K'
  | .call { callee := .builtin .append, args, argTypes } => match args.toList, argTypes.toList with
    | [s, x], [t, xt] => AppK P t xt (ev s) (ev x) m K'
    | _, _ => False
  | .call { callee := .builtin .copy, args, argTypes } => match args.toList, argTypes.toList with
    | [d, x], [t, xt] => ∃ k m', copyA P m t xt (ev d) (ev x) = some (k, m') ∧ K' (.val (.int .i64 k)) m'
    | _, _ => False
  | .call { callee := .builtin .cap, args, argTypes } => match args.toList, argTypes.toList with
    | [x], [t] => ∃ r, capA P m t (ev x) = some r ∧ K' r m
    | _, _ => False
  | _ => False

def opK (P : Program) (op : Op) (ev : Operand → AV) (m : Mem) (K' : AV → Mem → Prop) : Prop :=
  match quietA P m ev op with
  | some r => K' r m
  | none => loudK P op ev m K'

theorem array_one {α : Type} {a : Array α} {x : α} (h : a.toList = [x]) : a = #[x] := by cases a; simpa using h
theorem array_two {α : Type} {a : Array α} {x y : α} (h : a.toList = [x, y]) : a = #[x, y] := by cases a; simpa using h
/-- One operation, in a world. -/
theorem opK_sound {κ : K} {m : Mem} {w : World} (hs : Sim P κ m w) {o : Oper} {ev : Operand → AV} {a : Act} (hev : ∀ x, Rel κ (ev x) (a.eval x)) {K' : AV → Mem → Prop} (h : opK P o.op ev m K') (rd : Option Nat)
    {next : Act → World → Prop} {Q : Exit → Act → World → Prop} (hn : ∀ r m' κ' cv w', K' r m' → Step P κ m w κ' m' w' → Rel κ' r cv → next (a.put o.dst cv) w') : o.wpIn (Fr rd) 0 P a w next Q := by
  have hsem : ∀ s : Sem Next, (∀ c, o.op ≠ .defer c) → o.semAt rd a.eval = execOp a.eval o := fun _ hd => Oper.semAt_eq rd a.eval o hd
  refine ⟨fun _ _ => trivial, ?_⟩
  show o.uponIn (Fr rd) 0 P a next Q ((o.semAt rd a.eval).run P w)
  unfold opK at h
  split at h
  · rename_i r hq
    have hnd : ∀ c, o.op ≠ .defer c := fun c e => by rw [e] at hq; simp [quietA] at hq
    obtain ⟨cv, h1, h2⟩ := quietA_sound hs hev hq
    rw [Oper.semAt_eq rd a.eval o hnd, h2 w (Ext.refl w)]
    exact hn r m κ cv w h (Step.refl hs) h1
  · rename_i hqn
    clear hqn
    have hnd : ∀ c, o.op ≠ .defer c := fun c e => by rw [e] at h; simp [loudK] at h
    rw [Oper.semAt_eq rd a.eval o hnd]
    obtain ⟨dst, op, type, pos, after, guard⟩ := o
    simp only at h hn
    clear hsem hnd
    unfold loudK at h
    split at h
    case _ t x y =>
      obtain ⟨m', h1, h2⟩ := h
      obtain ⟨w', g1, g2⟩ := storeA_sound hs h1 (hev x) (hev y)
      simp only [execOp, Sem.run_bind, g1, Result.andThen_ok, Sem.run_pure]
      exact hn _ m' κ undef w' h2 g2 (.tup rfl fun i h => by simp at h)
    case _ t =>
      obtain ⟨cs, h1, h2⟩ := h
      obtain ⟨z, z1, z2, _⟩ := zeroA_sound (κ := κ) h1
      obtain ⟨n, g1, κ', g2, g3⟩ := new_box hs (t := t) z2
      have : (Instr.alloc t true (.tuple #[])).run P w = .ok (.pointer (some ⟨w.heap.size, 0, none⟩)) (w.alloc (.cells z.cells t)) := by
        simp only [Instr.alloc, Sem.run_bind, z1, Result.andThen_ok, newVar, newRow, run_newObj, Sem.run_pure]; rfl
      simp only [execOp, Sem.run_bind, this, Result.andThen_ok, Sem.run_pure]
      exact hn _ _ κ' _ _ (h2 n g1) g2 g3
    case _ t x =>
      obtain ⟨cs, h1, h2⟩ := h
      obtain ⟨z2, _⟩ := (hev x).cells h1
      obtain ⟨n, g1, κ', g2, g3⟩ := new_box hs (t := t) z2
      have : (Instr.box t (a.eval x)).run P w = .ok (.pointer (some ⟨w.heap.size, 0, none⟩)) (w.alloc (.cells (a.eval x).cells t)) := by
        simp only [Instr.box, Sem.run_bind, newVar, newRow, run_newObj, Sem.run_pure, Result.andThen_ok]; rfl
      simp only [execOp, Sem.run_bind, this, Result.andThen_ok, Sem.run_pure]
      exact hn _ _ κ' _ _ (h2 n g1) g2 g3
    case _ t len ps =>
      obtain ⟨e, s, cs, h1, hl, h2⟩ := h
      obtain ⟨ca, g1, g2⟩ := litA_sound (κ := κ) h1 (cparts := ps.map fun (i, x) => (i, a.eval x)) (by simp) (fun i p q => by simpa using hev _)
      simp only [execOp, Sem.run_bind, g2 w, Result.andThen_ok, Sem.run_pure]
      rcases h2 with h2 | h2
      · obtain ⟨c1, c2, c3⟩ := chunk_spec s len cs hl
        obtain ⟨κ', q1, q2⟩ := new_lit hs (t := e) (es := chunk s len cs) (s := s) c3 (ca := ca) (by rw [c1]; exact g1)
        rw [c2] at q2
        exact hn _ _ κ' _ _ h2 q1 q2
      · obtain ⟨n, hr, hm⟩ := hs.fresh
        have hst := new_cells (w' := w.alloc (.cells ca e)) hs hm hr (opn := false) (t := e) g1 0 #[] (fun _ => rfl) (by simp) (fz := (0, 0)) (fun i _ => by simp) (But.alloc w _ _) (by rw [heap_alloc_new']; simp)
        exact hn _ _ _ _ _ (h2 n hm) hst (.sl (K.add_same ..) (.inl rfl) (Nat.le_refl _) (.inr ⟨rfl, rfl⟩))
    case _ t l c =>
      obtain ⟨e, la, lb, cs, h1, h2⟩ := h
      have hl := hev l
      have hc := hev c
      unfold mkSliceA at h1
      split at h1
      · rename_i i k1 va k2 vb hi el ec
        rw [el] at hl
        rw [ec] at hc
        obtain ⟨el', _⟩ := hl.val_inv
        obtain ⟨ec', _⟩ := hc.val_inv
        split at h1
        · rename_i e' hd
          split at h1
          · rename_i j z hj hz
            split at h1
            · rename_i hcond
              cases h1
              obtain ⟨c1, c2, c3, c4, c5, c6⟩ := hcond
              obtain ⟨zv, z1, z2, _⟩ := zeroA_sound (κ := κ) hz
              obtain ⟨_, i3, h31, h32, h33, h34⟩ := ti_spec hj
              have hz2 := rels_zeros z2 (by omega) vb.toNat
              have w1 : IntKind.i64.wrap va = va := IntWalk.i64_in _ (by omega)
              have w2 : IntKind.i64.wrap vb = vb := IntWalk.i64_in _ (by omega)
              have hno : ¬ ((decide (vb < 0) || decide (((i3.bytes : Nat) : Int) * vb > 2 ^ 48) || decide (va < 0) || decide (va > vb)) = true) := by
                rw [h33]
                simp only [Bool.or_eq_true, decide_eq_true_eq, not_or]
                refine ⟨⟨⟨by omega, ?_⟩, by omega⟩, by omega⟩
                have : ((2 : Int) ^ 48) = 281474976710656 := by decide
                omega
              have run : (Instr.makeSlice t (a.eval l) (a.eval c)).run P w = .ok (.slice (some ⟨w.heap.size, 0, none⟩) va.toNat vb.toNat) (w.alloc (.cells ((Array.range (vb.toNat * j.size)).map (zv.cells[· % zv.cells.size]!)) e)) := by
                simp only [Instr.makeSlice, Sem.run_bind, run_underlying' hi, hd, Result.andThen_ok, el', ec', asInt, asIntOf, Sem.run_pure, typeInfo, run_program, h31, w1, w2]
                rw [if_neg hno]
                simp only [Sem.run_bind, run_askRoom, Result.andThen_ok, run_sizeOf hj, Sem.run_pure]
                by_cases h0 : vb.toNat * j.size = 0
                · simp only [h0, if_true, Sem.run_pure, Result.andThen_ok, Array.range_zero', List.map_toArray, List.map_nil, newRow, run_newObj]; rfl
                · simp only [if_neg h0, Sem.run_bind, z1, Sem.run_pure, Result.andThen_ok, newRow, run_newObj]; rfl
              simp only [execOp, Sem.run_bind, run, Result.andThen_ok, Sem.run_pure]
              obtain ⟨n, hr, hm⟩ := hs.fresh
              rw [c5] at hz2
              have hst := new_cells (w' := w.alloc (.cells ((Array.range (vb.toNat * j.size)).map (zv.cells[· % zv.cells.size]!)) e)) hs hm hr (opn := false) (t := e) hz2 0 #[] (fun _ => rfl) (by simp) (fz := (0, 0)) (fun i _ => by simp) (But.alloc w _ _) (by rw [heap_alloc_new']; simp)
              exact hn _ _ _ _ _ (h2 n hm) hst (.sl (K.add_same ..) (.inl rfl) (by omega) (.inr ⟨rfl, rfl⟩))
            · cases h1
          · cases h1
        · cases h1
      · cases h1
    case _ t =>
      obtain ⟨n, hr, hm⟩ := hs.fresh
      have hst := Step.alloc (w' := w.alloc (.map #[] 0)) hs hm hr (l := ⟨w.heap.size, 0, 0, 0, 0⟩) (Nat.le_refl _) (by simp) (But.alloc w _ _) (.map []) ⟨#[], 0, heap_alloc_new' w _, rfl, fun i h => by simp at h⟩
      have : (Instr.makeMap t (Option.map a.eval none)).run P w = .ok (.map (some w.heap.size)) (w.alloc (.map #[] 0)) := by
        simp only [Instr.makeMap, Option.map_none, Sem.run_bind, Sem.run_pure, Result.andThen_ok, run_newObj]; rfl
      simp only [execOp, Sem.run_bind, this, Result.andThen_ok, Sem.run_pure]
      exact hn _ _ _ _ _ (h n hm) hst (.map (K.add_same ..))
    case _ op' t x y u =>
      obtain ⟨h1, h2⟩ := h
      obtain ⟨b, hb⟩ := nilAny_sound h1 (hev x) (hev y) x y
      have hrun : (execOp a.eval { dst := dst, op := .binOp op' t x y u, type := type, pos := pos, after := after, guard := guard }).run P w = .ok (.value (.bool b)) w := by
        have := hb w
        simp only [Sem.run_bind] at this
        simp only [execOp, Sem.run_bind, this, Result.andThen_ok, Sem.run_pure]
      rw [hrun]
      exact hn _ m κ _ w (h2 b) (Step.refl hs) (.val rfl)
    case _ s d x =>
      have hrun : ∀ v w', (convert s d (a.eval x)).run P w = .ok v w' → (execOp a.eval { dst := dst, op := .convert s d x, type := type, pos := pos, after := after, guard := guard }).run P w = .ok (.value v) w' := fun v w' g1 => by
        simp only [execOp, Sem.run_bind, g1, Result.andThen_ok, Sem.run_pure]
      rcases h with ⟨b, h1, h2⟩ | ⟨r, m', h1, h2⟩
      · obtain ⟨v, w', κ', g1, g2, g3⟩ := textB_sound hs h1 (hev x)
        rw [hrun v w' g1]
        exact hn _ m κ' v w' h2 g2 g3
      · obtain ⟨v, w', κ', g1, g2, g3⟩ := markA_sound hs h1 (hev x)
        rw [hrun v w' g1]
        exact hn _ m' κ' v w' h2 g2 g3
    case _ f args ats =>
      have hf := hev f
      unfold CW at h
      split at h
      · rename_i g first caps ef
        rw [ef] at hf
        generalize hcf : a.eval f = cf at hf
        cases hf with
        | @fn _ _ _ fa ca g0 g1 g2 g3 g4 =>
          obtain ⟨a1, a2⟩ := relsMap hev args
          have hrels : Rels κ (first ++ args.toList.map ev ++ caps) ((fa ++ args.map a.eval) ++ ca) := rels_append (rels_append ⟨g1, g2⟩ ⟨a1, a2⟩) ⟨g3, g4⟩
          rcases h with h | h
          case inr =>
            obtain ⟨fn, e, x1, x2, x3, x4, x5, h⟩ := h
            obtain ⟨cv, w', r, m', κ', y1, y2, y3, y4⟩ := h κ w _ hs hrels
            have hrun : (execOp a.eval { dst := dst, op := .call { callee := .value f, args := args, argTypes := ats }, type := type, pos := pos, after := after, guard := guard }).run P w = .ok (.value cv) w' := by
              simp only [execOp, resolve, hcf, Deferred.ofValue, Sem.run_bind, Sem.run_pure, Result.andThen_ok, invoke, run_callFunc_extern x1 x2 x3 x4 x5, y1]
            rw [hrun]
            exact hn r m' κ' cv w' y2 y3 y4
          obtain ⟨⟨fn, hfn, hb, hname⟩, hC⟩ := h
          have hcall := hC κ w _ hs hrels
          have hrun : (execOp a.eval { dst := dst, op := .call { callee := .value f, args := args, argTypes := ats }, type := type, pos := pos, after := after, guard := guard }).run P w = .ok (.enter g ((fa ++ args.map a.eval) ++ ca)) w := by
            simp only [execOp, resolve, hcf, Deferred.ofValue, Sem.run_bind, Sem.run_pure, Result.andThen_ok, invoke, callFunc, run_program, hfn, hname, hb, Bool.false_eq_true, if_false]
          rw [hrun]
          refine ⟨Fr_depth rd, ?_⟩
          have hcall' : CallsIn (Fr rd) (0 - 1) P g ((fa ++ args.map a.eval) ++ ca) w _ := hcall
          refine hcall'.mono ?_
          rintro e w' ⟨cv, r, m', κ', rfl, hk, hst, hrel⟩
          exact hn r m' κ' cv w' hk hst hrel
      · rename_i n ef
        rw [ef] at hf
        generalize hcf : a.eval f = cf at hf
        cases hf with
        | @yld _ l hl =>
          obtain ⟨f', tmps, asg, body, h1, h2⟩ := h κ w l (args.map a.eval) hs hl (relsMap hev args)
          have hrun : (execOp a.eval { dst := dst, op := .call { callee := .value f, args := args, argTypes := ats }, type := type, pos := pos, after := after, guard := guard }).run P w = .ok (.round l.blk f' tmps asg body) w := by
            simp only [execOp, resolve, hcf, Deferred.ofValue, Sem.run_bind, Sem.run_pure, Result.andThen_ok, invoke, Array.empty_append, h1]
          rw [hrun]
          refine ⟨Fr_depth rd, ?_⟩
          have h2' : RoundIn (Fr rd) (0 - 1) P l.blk f' tmps asg body w _ := h2
          refine h2'.mono ?_
          rintro e w' ⟨cv, r, m', κ', rfl, hk, hst, hrel⟩
          exact hn r m' κ' cv w' hk hst hrel
      · exact h.elim
    case _ args ats =>
      split at h
      · rename_i s x t xt e1 e2
        obtain rfl := array_two e1
        obtain rfl := array_two e2
        obtain ⟨cv, r, m', κ', w', g1, g2, g3, g4⟩ := appK_sound (ty := type) hs h (hev s) (hev x)
        have hrun : (execOp a.eval { dst := dst, op := .call { callee := .builtin .append, args := #[s, x], argTypes := #[t, xt] }, type := type, pos := pos, after := after, guard := guard }).run P w = .ok (.value cv) w' := by
          simp only [execOp, resolve, invoke, builtin, Sem.run_bind, Sem.run_pure, Result.andThen_ok, List.map_toArray, List.map_cons, List.map_nil, g1]
        rw [hrun]
        exact hn r m' κ' cv w' g2 g3 g4
      · exact h.elim
    case _ args ats =>
      split at h
      · rename_i d x t xt e1 e2
        obtain rfl := array_two e1
        obtain rfl := array_two e2
        obtain ⟨k, m', h1, h2⟩ := h
        obtain ⟨w', g1, g2⟩ := copyA_sound (ty := type) hs h1 (hev d) (hev x)
        have hrun : (execOp a.eval { dst := dst, op := .call { callee := .builtin .copy, args := #[d, x], argTypes := #[t, xt] }, type := type, pos := pos, after := after, guard := guard }).run P w = .ok (.value (.int .i64 k)) w' := by
          simp only [execOp, resolve, invoke, builtin, Sem.run_bind, Sem.run_pure, Result.andThen_ok, List.map_toArray, List.map_cons, List.map_nil, g1]
        rw [hrun]
        exact hn _ m' κ _ w' h2 g2 (.val rfl)
      · exact h.elim
    case _ args ats =>
      split at h
      · rename_i x t e1 e2
        obtain rfl := array_one e1
        obtain rfl := array_one e2
        obtain ⟨r, h1, h2⟩ := h
        obtain ⟨cv, g1, g2⟩ := capA_sound (ty := type) hs h1 (hev x)
        have hrun : (execOp a.eval { dst := dst, op := .call { callee := .builtin .cap, args := #[x], argTypes := #[t] }, type := type, pos := pos, after := after, guard := guard }).run P w = .ok (.value cv) w := by
          simp only [execOp, resolve, invoke, builtin, Sem.run_bind, Sem.run_pure, Result.andThen_ok, List.map_toArray, List.map_cons, List.map_nil, g2]
        rw [hrun]
        exact hn _ m κ _ w h2 (Step.refl hs) g1
      · exact h.elim
    case _ => exact h.elim
end Go.Abs
