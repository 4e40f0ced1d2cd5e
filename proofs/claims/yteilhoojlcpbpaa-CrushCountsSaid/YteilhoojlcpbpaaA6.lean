/- The abstract layer, sixth part: comparisons of wholes, conversions, building, and all quiet operations in one function. -/
import Derived.Test.YteilhoojlcpbpaaA5
set_option linter.unusedVariables false
set_option linter.unusedSimpArgs false
namespace Go.Abs
variable {P : Program} {κ : K} {m : Mem} {w : World}

theorem mm2 (big : Bool) (k k' : IntKind) (x y : Int) : ((if big then Builtin.max2 else Builtin.min2) (.int k x) (.int k' y)).run P w = .ok (.int k (if big then (if y > x then y else x) else (if y < x then y else x))) w := by
  cases big <;> simp [Builtin.max2, Builtin.min2]
theorem mm_fold (big : Bool) : ∀ (rest : List AV) (a r : AV), rest.foldlM (fun (a : AV) b => match a, b with
      | .val (.int k x), .val (.int _ y) => some (AV.val (.int k (if big then (if y > x then y else x) else (if y < x then y else x))))
      | _, _ => none) a = some r → ∀ (ca : Value) (cs : List Value), Rel κ a ca → rest.length = cs.length → (∀ i (h : i < rest.length) (h' : i < cs.length), Rel κ rest[i] cs[i]) →
      ∃ v, Rel κ r v ∧ ∀ w, (cs.foldlM (if big then Builtin.max2 else Builtin.min2) ca).run P w = .ok v w
  | [], a, r, h, ca, cs, hc, hl, _ => by
    cases h
    have : cs = [] := List.eq_nil_of_length_eq_zero hl.symm
    subst this
    exact ⟨ca, hc, fun _ => rfl⟩
  | b :: rest, a, r, h, ca, cs, hc, hl, hr => by
    cases cs with
    | nil => simp at hl
    | cons cb cs =>
      simp only [List.foldlM_cons, Option.bind_eq_bind, Option.bind_eq_some_iff] at h
      obtain ⟨a', h1, h2⟩ := h
      split at h1
      · rename_i k x k' y
        cases h1
        obtain ⟨rfl, _⟩ := hc.val_inv
        obtain ⟨e, _⟩ := (hr 0 (by simp) (by simp)).val_inv
        simp only [List.getElem_cons_zero] at e
        subst e
        obtain ⟨v, g1, g2⟩ := mm_fold big rest _ r h2 (.int k (if big then (if y > x then y else x) else (if y < x then y else x))) cs (.val rfl) (by simpa using hl) (fun i p q => hr (i + 1) (by simpa using p) (by simpa using q))
        refine ⟨v, g1, fun w => ?_⟩
        rw [List.foldlM_cons, Sem.run_bind, mm2]
        exact g2 w
      · cases h1
theorem mmA_sound {big : Bool} {args : List AV} {r : AV} (h : mmA big args = some r) {ts : Array TypeId} {ty : TypeId} {ca : Array Value} (hr : Rels κ args ca) :
    ∃ v, Rel κ r v ∧ ∀ w, ((if big then Builtin.max_ else Builtin.min_) ts ty ca).run P w = .ok v w := by
  unfold mmA at h
  split at h
  · rename_i k x rest
    obtain ⟨hl, hr⟩ := hr
    obtain ⟨cs⟩ := ca
    cases cs with
    | nil => simp at hl
    | cons c cs =>
      have h0 := hr 0 (by simp) (by simp)
      simp only [List.getElem_cons_zero, List.getElem_toArray] at h0
      obtain ⟨v, g1, g2⟩ := mm_fold (P := P) big rest _ r h c cs h0 (by simpa using hl) (fun i p q => hr (i + 1) (by simpa using p) (by simpa using q))
      refine ⟨v, g1, fun w => ?_⟩
      have g2 := g2 w
      cases big <;> simpa [Builtin.max_, Builtin.min_] using g2
  · cases h

/-! ### Wholes held against each other -/
def eqFieldsA (P : Program) (eq : TypeId → AV → AV → Option Bool) : List Field → List AV → List AV → Option Bool
  | [], _, _ => some true
  | f :: fs, xs, ys =>
    if f.name = "_" then eqFieldsA P eq fs xs ys
    else match partA P f.type xs f.offset, partA P f.type ys f.offset with
      | some a, some b => match eq f.type a b with
        | some r => match fs with
          | [] => some r
          | f' :: fs' => match eqFieldsA P eq (f' :: fs') xs ys with
            | some s => some (r && s)
            | none => none
        | none => none
      | _, _ => none
def eqA (P : Program) : Nat → TypeId → AV → AV → Option Bool
  | 0, _, _, _ => none
  | d + 1, t, x, y => match ti P t with
    | none => none
    | some i => match i.desc, x, y with
      | .int _, .val (.int k a), .val (.int k' b) => if k = k' then some (a == b) else none
      | .bool, .val (.bool a), .val (.bool b) => some (a == b)
      | .string, .val (.string a), .val (.string b) => some (a.toList == b.toList)
      | .struct fs, .agg xs, .agg ys => if P.stoodInHeld t then none else eqFieldsA P (eqA P d) fs.toList xs ys
      | _, _, _ => none
theorem eqFieldsA_sound {eq : TypeId → AV → AV → Option Bool} {e : Nat} (heq : ∀ t x y r, eq t x y = some r → ∀ (cx cy : Value), Rel κ x cx → Rel κ y cy → (Op.equalIn e t cx cy).run P w = .ok r w) :
    ∀ (fs : List Field) (xs ys : List AV) (r : Bool), eqFieldsA P eq fs xs ys = some r → ∀ (cx cy : Array Value), Rels κ xs cx → Rels κ ys cy → (Op.eqFields e cx cy fs).run P w = .ok r w
  | [], xs, ys, r, h => by
    intro cx cy hx hy
    rw [eqFieldsA] at h; cases h; rfl
  | f :: fs, xs, ys, r, h => by
    intro cx cy hx hy
    rw [eqFieldsA] at h
    split at h
    · rename_i hn
      rw [Op.eqFields, if_neg (by simpa using hn)]
      exact eqFieldsA_sound heq fs xs ys r h cx cy hx hy
    · rename_i hn
      split at h
      · rename_i a b ha hb
        obtain ⟨ca, g1, g2⟩ := partA_sound ha hx
        obtain ⟨cb, g3, g4⟩ := partA_sound hb hy
        split at h
        · rename_i q hq
          have g5 := heq f.type a b q hq ca cb g1 g3
          rw [Op.eqFields, if_pos (by simpa using hn)]
          simp only [Sem.run_bind, g2, g4, g5, Result.andThen_ok]
          split at h
          · cases h
            cases r
            · rfl
            · simp [Op.eqFields]
          · split at h
            · rename_i s hs
              cases h
              have g6 := eqFieldsA_sound heq _ xs ys s hs cx cy hx hy
              cases q
              · rfl
              · simpa using g6
            · cases h
        · cases h
      · cases h
theorem eqA_sound : ∀ (d : Nat) (t : TypeId) (x y : AV) (r : Bool), eqA P d t x y = some r → ∀ (e : Nat), d ≤ e → ∀ (cx cy : Value), Rel κ x cx → Rel κ y cy → (Op.equalIn e t cx cy).run P w = .ok r w
  | 0, _, _, _, _, h => by simp [eqA] at h
  | d + 1, t, x, y, r, h => by
    intro e he cx cy hx hy
    obtain ⟨e, rfl⟩ : ∃ k, e = k + 1 := ⟨e - 1, by omega⟩
    rw [eqA] at h
    split at h
    · cases h
    · rename_i i hi
      split at h
      · rename_i k k1 a k2 b hd
        split at h
        · rename_i hk
          subst hk; cases h
          obtain ⟨rfl, _⟩ := hx.val_inv
          obtain ⟨rfl, _⟩ := hy.val_inv
          exact run_equalIn_int w e t k1 k a b ((ti_spec hi).1.trans (by rw [hd]))
        · cases h
      · rename_i a b hd
        cases h
        obtain ⟨rfl, _⟩ := hx.val_inv
        obtain ⟨rfl, _⟩ := hy.val_inv
        exact run_equalIn_bool' w e t a b ((ti_spec hi).1.trans (by rw [hd]))
      · rename_i a b hd
        cases h
        obtain ⟨rfl, _⟩ := hx.val_inv
        obtain ⟨rfl, _⟩ := hy.val_inv
        exact run_equalIn_string w e t a b ((ti_spec hi).1.trans (by rw [hd]))
      · rename_i fs xs ys hd
        split at h
        · cases h
        · rename_i hp
          have hu : P.underlying t = some (.struct fs) := (ti_spec hi).1.trans (by rw [hd])
          have hf : P.fieldsOf t = fs := by simp [Program.fieldsOf, hu]
          cases hx with
          | agg hl hr =>
            cases hy with
            | agg hl' hr' =>
              rw [run_equalIn_struct w e t _ _ (by rw [hf]; exact hu) (by simpa using hp), hf]
              exact eqFieldsA_sound (fun t x y r h => eqA_sound d t x y r h e (by omega)) fs.toList xs ys r h _ _ ⟨hl, hr⟩ ⟨hl', hr'⟩
      · cases h

/-- '==' and '!=' with nil, of wholes, and all else. -/
def nilBin (d : TypeDesc) (x y : AV) : Option Bool :=
  match isNilA x, isNilA y with
  | some a, some b => if a || b then (match d, x, y with
      | .pointer _, .ptr _ _, _ | .pointer _, .vp _ _, _ | .pointer _, .val (.pointer none), _ => match y with
        | .ptr _ _ | .vp _ _ | .val (.pointer none) => some (a && b)
        | _ => none
      | .map _ _, .map _, .val (.map none) | .map _ _, .val (.map none), .map _ | .map _ _, .val (.map none), .val (.map none) => some (a && b)
      | .slice _, .val (.slice none 0 0), .val (.slice none 0 0) => some (a && b)
      | .func _ _ _, .fn _ _ _, .val .nilFunc | .func _ _ _, .val .nilFunc, .fn _ _ _ | .func _ _ _, .val .nilFunc, .val .nilFunc => some (a && b)
      | _, _, _ => none) else none
  | _, _ => (match d, x, y with
      | .slice _, .sl _ _ _ cap, .val (.slice none 0 0) => if 0 < cap then some false else none
      | .slice _, .val (.slice none 0 0), .sl _ _ _ cap => if 0 < cap then some false else none
      | .slice _, .vs es _, .val (.slice none 0 0) => if 0 < es.length then some false else none
      | .slice _, .val (.slice none 0 0), .vs es _ => if 0 < es.length then some false else none
      | _, _, _ => none)
theorem run_equal_of (t : TypeId) (x y : Value) {r : Bool} (h : (Op.equalIn (9999 + 1) t x y).run P w = .ok r w) : (Op.equal t x y).run P w = .ok r w := h
theorem nilBin_sound {t : TypeId} {i : TI} (hi : ti P t = some i) {x y : AV} {r : Bool} (h : nilBin i.desc x y = some r) {cx cy : Value} (hx : Rel κ x cx) (hy : Rel κ y cy) :
    (∀ z v, eqGuard .eql t z v cx cy = pure ()) ∧ (∀ z v, eqGuard .neq t z v cx cy = pure ()) ∧ (Op.equal t cx cy).run P w = .ok r w ∧
    (binOp .eql t cx cy = do pure (.bool (← Op.equal t cx cy))) ∧ (binOp .neq t cx cy = do pure (.bool (!(← Op.equal t cx cy)))) := by
  have eqn : ∀ {d : TypeDesc} (hd : i.desc = d), (Op.equal t cx cy).run P w = (Op.equalIn (9999 + 1) t cx cy).run P w := fun _ => rfl
  have key : ∀ {d : TypeDesc} (hd : i.desc = d), P.underlying t = some d := fun hd => (ti_spec hi).1.trans (by rw [hd])
  unfold nilBin at h
  split at h
  · rename_i a b ha hb
    split at h
    · rename_i hab
      split at h
      case _ | _ | _ =>
        rename_i hd
        split at h
        all_goals first | (cases h; done) | skip
        all_goals
          cases h
          cases hx <;> cases hy <;> simp [isNilA] at ha hb <;> subst ha hb <;>
            refine ⟨fun _ _ => eqGuard_at_pointer .., fun _ _ => eqGuard_at_pointer .., ?_, rfl, rfl⟩ <;>
            (try (simp at hab; done)) <;>
            (refine run_equal_of _ _ _ ?_; rw [Op.equalIn, Sem.run_bind, run_underlying (key hd)]; rfl)
      all_goals first | (cases h; done) | skip
      all_goals
        rename_i hd
        cases h
        cases hx <;> cases hy <;> simp [isNilA] at ha hb <;> subst ha hb <;>
          first
            | exact ⟨fun _ _ => eqGuard_at_map .., fun _ _ => eqGuard_at_map .., by refine run_equal_of _ _ _ ?_; rw [Op.equalIn, Sem.run_bind, run_underlying (key hd)]; rfl, rfl, rfl⟩
            | exact ⟨fun _ _ => eqGuard_at_slice .., fun _ _ => eqGuard_at_slice .., by refine run_equal_of _ _ _ ?_; rw [Op.equalIn, Sem.run_bind, run_underlying (key hd)]; rfl, rfl, rfl⟩
            | exact ⟨fun _ _ => eqGuard_at_func .., fun _ _ => eqGuard_at_func .., by refine run_equal_of _ _ _ ?_; rw [Op.equalIn, Sem.run_bind, run_underlying (key hd)]; rfl, rfl, rfl⟩
            | exact ⟨fun _ _ => eqGuard_at_nilFunc .., fun _ _ => eqGuard_at_nilFunc .., by refine run_equal_of _ _ _ ?_; rw [Op.equalIn, Sem.run_bind, run_underlying (key hd)]; rfl, rfl, rfl⟩
    · cases h
  · split at h
    all_goals first | (cases h; done) | skip
    all_goals
      rename_i hd _
      split at h
      · rename_i hpos
        cases h
        cases hx <;> cases hy <;> (try (simp at hpos; done)) <;>
          exact ⟨fun _ _ => eqGuard_at_slice .., fun _ _ => eqGuard_at_slice .., by refine run_equal_of _ _ _ ?_; rw [Op.equalIn, Sem.run_bind, run_underlying (key hd)]; rfl, rfl, rfl⟩
      · cases h
end Go.Abs
