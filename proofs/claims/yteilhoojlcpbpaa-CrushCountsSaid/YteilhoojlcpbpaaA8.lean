/- The abstract layer, eighth part: one quiet operation; a store; a new block; appending. -/
import Derived.Test.YteilhoojlcpbpaaA7
set_option linter.unusedVariables false
set_option linter.unusedSimpArgs false
namespace Go.Abs
variable {P : Program} {κ : K} {m : Mem} {w : World}

def nilCheckA : AV → Option AV
  | .ptr n o => some (.ptr n o)
  | .vp c o => some (.vp c o)
  | .fn f a b => if staticFn f then some (.fn f a b) else none
  | .yld n => some (.yld n)
  | _ => none
def mkFnA (ev : Operand → AV) (f : Fn) (first caps : Array Operand) : Option AV :=
  if staticFn f then some (.fn f (first.toList.map ev) (caps.toList.map ev)) else none
def extractA (i : Nat) : AV → Option AV
  | .tup vs => vs[i]?
  | _ => none
def ifaceA (P : Program) (t : TypeId) (x : AV) : Option AV :=
  match ti P t with
  | some i => match i.desc with
    | .interface _ => none
    | _ => some (.ifc t x)
  | none => none
def cmpA (P : Program) (t : TypeId) (op : BinOp) (x y : AV) : Option AV :=
  match ti P t with
  | none => none
  | some i => match binA i.desc op x y with
    | some r => some r
    | none => match op with
      | .eql => match nilBin i.desc x y with
        | some b => some (.val (.bool b))
        | none => match x with
          | .agg _ => if P.eqGuardType P.depth t then none else (match eqA P 20 t x y with
            | some b => some (.val (.bool b))
            | none => none)
          | _ => none
      | .neq => match nilBin i.desc x y with
        | some b => some (.val (.bool !b))
        | none => match x with
          | .agg _ => if P.eqGuardType P.depth t then none else (match eqA P 20 t x y with
            | some b => some (.val (.bool !b))
            | none => none)
          | _ => none
      | _ => none

/-- A slice's first elements, as a pointer to an array of them. -/
def arrPtrA (P : Program) (t : TypeId) (x : AV) : Option AV :=
  match ti P t with
  | some i => match i.desc, x with
    | .array n _, .vs es _ => if 0 < n ∧ n ≤ es.length ∧ ∀ e ∈ es, e.length = 1 then some (.vp (es.take n).flatten 0) else none
    | .array n _, .sl nm off len _ => if 0 < n ∧ n ≤ len then some (.ptr nm off) else none
    | _, _ => none
  | none => none
theorem flat_one : ∀ (es : List (List AV)), (∀ e ∈ es, e.length = 1) → es.flatten.length = es.length ∧ ∀ j (h : j < es.length) (h' : j < es.flatten.length) (h0 : 0 < es[j].length), es.flatten[j] = es[j][0]
  | [], _ => ⟨rfl, fun j h => by simp at h⟩
  | e :: es, he => by
    obtain ⟨h1, h2⟩ := flat_one es fun x hx => he x (by simp [hx])
    have hl : e.length = 1 := he e (by simp)
    refine ⟨by simp [h1, hl]; omega, fun j h h' h0 => ?_⟩
    cases j with
    | zero => simp only [List.flatten_cons, List.getElem_cons_zero]; exact List.getElem_append_left (by omega)
    | succ j =>
      simp only [List.flatten_cons, List.getElem_cons_succ]
      rw [List.getElem_append_right (by omega)]
      simp only [hl, Nat.add_sub_cancel]
      exact h2 j (by simpa using h) _ _
theorem arrPtrA_sound {t : TypeId} {x r : AV} (h : arrPtrA P t x = some r) {cv : Value} (hx : Rel κ x cv) : ∃ v, Rel κ r v ∧ ∀ w, (Instr.arrayAt t cv).run P w = .ok v w := by
  unfold arrPtrA at h
  split at h
  · rename_i i ht
    split at h
    · rename_i n e es ex hd
      split at h
      · rename_i hc
        obtain ⟨h0, hn, he⟩ := hc
        cases h
        have hrun : ∀ (a : Option Addr) (l c : Nat), n ≤ l → ∀ w, (Instr.arrayAt t (.slice a l c)).run P w = .ok (.pointer a) w := fun a l c hl w => by
          simp only [Instr.arrayAt, Sem.run_bind, run_underlying' ht, hd, Result.andThen_ok]
          rw [if_neg (by omega)]
          rfl
        cases hx with
        | vnil => simp at hn; omega
        | vz => simp at hn; omega
        | @vs _ _ c o s cap f h1 h2 h3 h4 h5 =>
          have hs : s = 1 := by rw [← h1 es[0] (List.getElem_mem (by omega)), he _ (List.getElem_mem (by omega))]
          subst hs
          refine ⟨_, .vp (fun j => f j 0) (fun j hj => ?_) (fun j hj => ?_), hrun _ _ _ hn⟩
          · have e1 := (flat_one (es.take n) fun x hx => he x (List.mem_of_mem_take hx)).1
            have hj' : j < (es.take n).length := by omega
            have := h4 j 0 (by simp at hj'; omega) (by omega)
            simpa using this
          · obtain ⟨e1, e2⟩ := flat_one (es.take n) fun x hx => he x (List.mem_of_mem_take hx)
            have hj' : j < (es.take n).length := by omega
            have hje : j < es.length := by simp at hj'; omega
            have hl0 : 0 < es[j].length := by rw [he _ (List.getElem_mem hje)]; omega
            rw [e2 j hj' hj (by simp only [List.getElem_take]; exact hl0)]
            simp only [List.getElem_take]
            exact h5 j hje 0 hl0
      · cases h
    · rename_i n e nm off len cap hd
      split at h
      · rename_i hc
        obtain ⟨h0, hn⟩ := hc
        cases h
        have hrun : ∀ (a : Option Addr) (l c : Nat), n ≤ l → ∀ w, (Instr.arrayAt t (.slice a l c)).run P w = .ok (.pointer a) w := fun a l c hl w => by
          simp only [Instr.arrayAt, Sem.run_bind, run_underlying' ht, hd, Result.andThen_ok]
          rw [if_neg (by omega)]
          rfl
        cases hx with
        | snil => omega
        | szero => omega
        | @sl _ _ _ _ cap' c' o' l q1 q2 q3 q4 =>
          have : c' = l.blk ∧ o' = l.base + off := by rcases q4 with q4 | q4 <;> first | exact q4 | (rcases q2 with q2 | q2 <;> omega)
          obtain ⟨rfl, rfl⟩ := this
          exact ⟨_, .ptr q1, hrun _ _ _ hn⟩
      · cases h
    · cases h
  · cases h

/-- What an operation that writes nothing and makes nothing comes to. -/
def quietA (P : Program) (m : Mem) (ev : Operand → AV) : Op → Option AV
  | .move x => some (ev x)
  | .assign x => some (ev x)
  | .pick c a b => match ev c with
    | .val (.bool t) => some (if t then ev a else ev b)
    | _ => none
  | .load t a => loadA P m t (ev a)
  | .nilCheck x => nilCheckA (ev x)
  | .binOp op t x y _ => cmpA P t op (ev x) (ev y)
  | .unOp op _ x => unA op (ev x)
  | .convert s d x => convA P m s d (ev x)
  | .makeInterface t x => ifaceA P t (ev x)
  | .makeFunc f a b => mkFnA ev f a b
  | .slice t x lo hi mx => sliceA P m t (ev x) (lo.map ev) (hi.map ev) (mx.map ev)
  | .fieldAddr s x f => fieldAddrA P s f (ev x)
  | .field t x f => fieldA P t (ev x) f
  | .indexAddr t x ix => indexAddrA P t (ev x) (ev ix)
  | .index t x ix => indexA P t (ev x) (ev ix)
  | .build t ps => buildA P t (ps.toList.map fun p => (p.1, ev p.2))
  | .extract x i => extractA i (ev x)
  | .call { callee := .builtin .len, args, argTypes } => match argTypes[0]?, args[0]? with
    | some t, some x => lenA P m t (ev x)
    | _, _ => none
  | .call { callee := .builtin .min, args, .. } => mmA false (args.toList.map ev)
  | .call { callee := .builtin .max, args, .. } => mmA true (args.toList.map ev)
  | .sliceToArrayPointer t x => arrPtrA P t (ev x)
  | _ => none

theorem cmpA_sound {op : BinOp} {t : TypeId} {x y r : AV} (h : cmpA P t op x y = some r) {cx cy : Value} (hx : Rel κ x cx) (hy : Rel κ y cy) (X Y : Operand) :
    ∃ v, Rel κ r v ∧ ∀ w, (do eqGuard op t X Y cx cy; binOp op t cx cy : Sem Value).run P w = .ok v w := by
  unfold cmpA at h
  split at h
  · cases h
  · rename_i i hi
    split at h
    · rename_i r' hb
      cases h
      exact binA_sound hi hb hx hy X Y
    · have agg : ∀ xs b, x = .agg xs → P.eqGuardType P.depth t = false → eqA P 20 t x y = some b →
          ∃ ca cb, cx = .agg ca ∧ cy = .agg cb ∧ ∀ w, (Op.equalIn 10000 t (.agg ca) (.agg cb)).run P w = .ok b w := by
        intro xs b hxs hg he
        subst hxs
        have hy' : ∃ ys, y = .agg ys := by
          rw [eqA] at he
          split at he
          · cases he
          · split at he
            all_goals first
              | (cases he; done)
              | (rename_i hxy; exact ⟨_, rfl⟩)
              | (exfalso; simp_all; done)
              | exact ⟨_, rfl⟩
        obtain ⟨ys, rfl⟩ := hy'
        have hx2 := hx
        have hy2 := hy
        cases hx2 with
        | agg hl hr => cases hy2 with
          | agg hl' hr' => exact ⟨_, _, rfl, rfl, fun w => eqA_sound 20 t _ _ b he 10000 (by omega) _ _ hx hy⟩
      split at h
      · split at h
        · rename_i b hn
          cases h
          refine ⟨_, .val rfl, fun w => ?_⟩
          obtain ⟨h1, h2, h3, h4, h5⟩ := nilBin_sound (w := w) hi hn hx hy
          rw [h1, h4]
          simp [h3]
        · split at h
          · split at h
            · cases h
            · rename_i hg
              split at h
              · rename_i b he
                cases h
                obtain ⟨ca, cb, rfl, rfl, hr⟩ := agg _ b rfl (by simpa using hg) he
                refine ⟨_, .val rfl, fun w => ?_⟩
                simp only [Sem.run_bind, run_eqGuard_agg w .eql t X Y ca cb (by simpa using hg), Result.andThen_ok, run_eql_struct, hr w]
              · cases h
          · cases h
      · split at h
        · rename_i b hn
          cases h
          refine ⟨_, .val rfl, fun w => ?_⟩
          obtain ⟨h1, h2, h3, h4, h5⟩ := nilBin_sound (w := w) hi hn hx hy
          rw [h2, h5]
          simp [h3]
        · split at h
          · split at h
            · cases h
            · rename_i hg
              split at h
              · rename_i b he
                cases h
                obtain ⟨ca, cb, rfl, rfl, hr⟩ := agg _ b rfl (by simpa using hg) he
                refine ⟨_, .val rfl, fun w => ?_⟩
                simp only [Sem.run_bind, run_eqGuard_agg w .neq t X Y ca cb (by simpa using hg), Result.andThen_ok, run_neq_struct, hr w]
              · cases h
          · cases h
      · cases h

theorem optRel {ev : Operand → AV} {cev : Operand → Value} (hev : ∀ x, Rel κ (ev x) (cev x)) (o : Option Operand) : OptRel κ (o.map ev) (o.map cev) := by
  cases o with
  | none => exact trivial
  | some x => exact hev x
theorem relsMap {ev : Operand → AV} {cev : Operand → Value} (hev : ∀ x, Rel κ (ev x) (cev x)) (l : Array Operand) : Rels κ (l.toList.map ev) (l.map cev) :=
  ⟨by simp, fun i h h' => by simpa using hev _⟩

theorem quietA_sound (hs : Sim P κ m w) {o : Oper} {ev : Operand → AV} {cev : Operand → Value} (hev : ∀ x, Rel κ (ev x) (cev x)) {r : AV} (h : quietA P m ev o.op = some r) :
    ∃ cv, Rel κ r cv ∧ ∀ w', Ext w w' → (execOp cev o).run P w' = .ok (.value cv) w' := by
  obtain ⟨dst, op, type, pos, after, guard⟩ := o
  simp only at h
  unfold quietA at h
  split at h
  case _ x => cases h; exact ⟨_, hev x, fun w' _ => rfl⟩
  case _ x => cases h; exact ⟨_, hev x, fun w' _ => rfl⟩
  case _ c a b =>
    split at h
    · rename_i t ht
      cases h
      have := hev c
      rw [ht] at this
      obtain ⟨e, _⟩ := this.val_inv
      refine ⟨if t then cev a else cev b, by cases t <;> simp [hev], fun w' _ => ?_⟩
      simp [execOp, e, asBool]
    · cases h
  case _ t a =>
    obtain ⟨v, h1, h2⟩ := loadA_sound hs h (hev a)
    exact ⟨v, h1, fun w' hw => by simp only [execOp, Sem.run_bind, h2 w' hw, Result.andThen_ok, Sem.run_pure]⟩
  case _ x =>
    have hx := hev x
    unfold nilCheckA at h
    split at h
    · rename_i e; rw [e] at hx; cases h
      generalize hc : cev x = c at hx
      cases hx with
      | ptr hr => exact ⟨_, .ptr hr, fun w' _ => by simp only [execOp, hc, Sem.run_pure]⟩
    · rename_i e; rw [e] at hx; cases h
      generalize hc : cev x = c at hx
      cases hx with
      | vp f g1 g2 => exact ⟨_, .vp f g1 g2, fun w' _ => by simp only [execOp, hc, Sem.run_pure]⟩
    · rename_i f a b e; rw [e] at hx
      split at h
      · rename_i hsf
        cases h
        generalize hc : cev x = c at hx
        have hx2 := hx
        cases hx with
        | fn g0 g1 g2 g3 g4 =>
          refine ⟨_, hx2, fun w' _ => ?_⟩
          cases f <;> simp [staticFn] at g0
          simp only [execOp, hc, Sem.run_pure]
      · cases h
    · rename_i e; rw [e] at hx; cases h
      generalize hc : cev x = c at hx
      cases hx with
      | yld hr => exact ⟨_, .yld hr, fun w' _ => by simp only [execOp, hc, Sem.run_pure]⟩
    · cases h
  case _ op t x y yt =>
    obtain ⟨v, h1, h2⟩ := cmpA_sound h (hev x) (hev y) x y
    refine ⟨v, h1, fun w' _ => ?_⟩
    have := h2 w'
    simp only [execOp]
    rw [Sem.run_bind, this]; rfl
  case _ op t x =>
    obtain ⟨v, h1, h2⟩ := unA_sound (P := P) h (hev x)
    exact ⟨v, h1, fun w' _ => by simp only [execOp, Sem.run_bind, h2 w', Result.andThen_ok, Sem.run_pure]⟩
  case _ s d x =>
    obtain ⟨v, h1, h2⟩ := convA_sound hs h (hev x)
    exact ⟨v, h1, fun w' hw => by simp only [execOp, Sem.run_bind, h2 w' hw, Result.andThen_ok, Sem.run_pure]⟩
  case _ t x =>
    unfold ifaceA at h
    split at h
    · rename_i i hi
      split at h
      · cases h
      · rename_i hd
        cases h
        refine ⟨.iface t (cev x), .ifc (hev x), fun w' _ => ?_⟩
        have : (Instr.makeInterface t (cev x)).run P w' = .ok (.iface t (cev x)) w' := by
          simp only [Instr.makeInterface, Sem.run_bind, run_underlying' hi, Result.andThen_ok]
          cases hdd : i.desc <;> first | rfl | exact absurd hdd (hd _)
        simp only [execOp, Sem.run_bind, this, Result.andThen_ok, Sem.run_pure]
    · cases h
  case _ f a b =>
    unfold mkFnA at h
    split at h
    · rename_i hsf
      cases h
      obtain ⟨a1, a2⟩ := relsMap hev a
      obtain ⟨b1, b2⟩ := relsMap hev b
      exact ⟨.func f (a.map cev) (b.map cev), .fn hsf a1 a2 b1 b2, fun w' _ => by simp [execOp, Instr.makeFunc]⟩
    · cases h
  case _ t x lo hi mx =>
    obtain ⟨v, h1, h2⟩ := sliceA_sound hs h (hev x) (optRel hev lo) (optRel hev hi) (optRel hev mx)
    exact ⟨v, h1, fun w' _ => by simp only [execOp, Sem.run_bind, h2 w', Result.andThen_ok, Sem.run_pure]⟩
  case _ s x f =>
    obtain ⟨v, h1, h2⟩ := fieldAddrA_sound h (hev x)
    exact ⟨v, h1, fun w' _ => by simp only [execOp, Sem.run_bind, h2 w', Result.andThen_ok, Sem.run_pure]⟩
  case _ t x f =>
    obtain ⟨v, h1, h2⟩ := fieldA_sound h (hev x)
    exact ⟨v, h1, fun w' _ => by simp only [execOp, Sem.run_bind, h2 w', Result.andThen_ok, Sem.run_pure]⟩
  case _ t x ix =>
    obtain ⟨v, h1, h2⟩ := indexAddrA_sound h (hev x) (hev ix)
    exact ⟨v, h1, fun w' _ => by simp only [execOp, Sem.run_bind, h2 w', Result.andThen_ok, Sem.run_pure]⟩
  case _ t x ix =>
    obtain ⟨v, h1, h2⟩ := indexA_sound h (hev x) (hev ix)
    exact ⟨v, h1, fun w' _ => by simp only [execOp, Sem.run_bind, h2 w', Result.andThen_ok, Sem.run_pure]⟩
  case _ t ps =>
    obtain ⟨v, h1, h2⟩ := buildA_sound (κ := κ) h (cparts := ps.map fun (i, x) => (i, cev x)) (by simp) (fun i a b => by simpa using hev _)
    exact ⟨v, h1, fun w' _ => by simp only [execOp, Sem.run_bind, h2 w', Result.andThen_ok, Sem.run_pure]⟩
  case _ x i =>
    have hx := hev x
    unfold extractA at h
    split at h
    · rename_i vs e
      rw [e] at hx
      generalize hc : cev x = c at hx
      cases hx with
      | @tup _ ca hl hr =>
        obtain ⟨h1, rfl⟩ := List.getElem?_eq_some_iff.1 h
        have h2 : i < ca.size := hl ▸ h1
        exact ⟨ca[i], hr i h1 h2, fun w' _ => by simp [execOp, Instr.extract, hc, h2]⟩
    · cases h
  case _ args ts =>
    split at h
    · rename_i t x ht hx
      have hca : (args.map cev)[0]? = some (cev x) := by simp [hx]
      obtain ⟨v, h1, h2⟩ := lenA_sound (ty := type) hs ht h hca (hev x)
      exact ⟨v, h1, fun w' hw => by simp only [execOp, resolve, invoke, builtin, Sem.run_bind, Sem.run_pure, Result.andThen_ok, h2 w' hw]⟩
    · cases h
  case _ args ts =>
    obtain ⟨v, h1, h2⟩ := mmA_sound (P := P) (ts := ts) (ty := type) h (relsMap hev args)
    exact ⟨v, h1, fun w' _ => by
      have := h2 w'
      simp only [Bool.false_eq_true, if_false] at this
      simp only [execOp, resolve, invoke, builtin, Sem.run_bind, Sem.run_pure, Result.andThen_ok, this]⟩
  case _ args ts =>
    obtain ⟨v, h1, h2⟩ := mmA_sound (P := P) (ts := ts) (ty := type) h (relsMap hev args)
    exact ⟨v, h1, fun w' _ => by
      have := h2 w'
      simp only [if_true] at this
      simp only [execOp, resolve, invoke, builtin, Sem.run_bind, Sem.run_pure, Result.andThen_ok, this]⟩
  case _ t x =>
    obtain ⟨v, h1, h2⟩ := arrPtrA_sound h (hev x)
    exact ⟨v, h1, fun w' _ => by simp only [execOp, Sem.run_bind, h2 w', Result.andThen_ok, Sem.run_pure]⟩
  case _ => cases h
end Go.Abs
