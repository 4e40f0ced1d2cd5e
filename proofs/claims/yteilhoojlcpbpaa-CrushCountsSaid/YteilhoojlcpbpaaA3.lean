/- The abstract layer, third part: operations that only compute or read. -/
import Derived.Test.YteilhoojlcpbpaaA2
import Derived.WalkKit
set_option linter.unusedVariables false
set_option linter.unusedSimpArgs false
namespace Go.Abs

/-! ### Temporaries -/
def nth : List AV → Nat → AV
  | [], _ => .junk
  | a :: _, 0 => a
  | _ :: l, n + 1 => nth l n
def upd : List AV → Nat → AV → List AV
  | [], _, _ => []
  | _ :: l, 0, v => v :: l
  | a :: l, n + 1, v => a :: upd l n v
def put (env : List AV) (d : Option Nat) (v : AV) : List AV := match d with | some t => upd env t v | none => env

theorem nth_eq : ∀ (l : List AV) (t : Nat), nth l t = (l[t]?).getD .junk
  | [], t => by simp [nth]
  | a :: l, 0 => by simp [nth]
  | a :: l, t + 1 => by simp [nth, nth_eq l t]
theorem upd_eq : ∀ (l : List AV) (t : Nat) (v : AV), upd l t v = l.set t v
  | [], t, v => by simp [upd]
  | a :: l, 0, v => by simp [upd]
  | a :: l, t + 1, v => by simp [upd, upd_eq l t v]

theorem Rels.nth {κ : K} {env : List AV} {tmps : Array Value} (h : Rels κ env tmps) (t : Nat) : Rel κ (nth env t) (tmps.getD t undef) := by
  rw [nth_eq]
  by_cases ht : t < env.length
  · have ht' : t < tmps.size := h.1 ▸ ht
    simp only [List.getElem?_eq_getElem ht, Option.getD_some, Array.getD, ht', dif_pos]
    exact h.2 t ht ht'
  · rw [List.getElem?_eq_none (by omega)]
    exact .junk
theorem Rels.upd {κ : K} {env : List AV} {tmps : Array Value} (h : Rels κ env tmps) (t : Nat) {v : AV} {cv : Value} (hv : Rel κ v cv) : Rels κ (upd env t v) (tmps.setIfInBounds t cv) := by
  rw [upd_eq]
  refine ⟨by simp [h.1], fun i hi hi' => ?_⟩
  simp only [List.length_set, Array.size_setIfInBounds] at hi hi'
  by_cases e : t = i
  · subst e
    simp only [List.getElem_set_self, Array.getElem_setIfInBounds_self]
    exact hv
  · rw [List.getElem_set_ne e, Array.getElem_setIfInBounds_ne hi' e]
    exact h.2 i hi hi'
theorem Rels.put {κ : K} {env : List AV} {a : Act} (h : Rels κ env a.tmps) (d : Option Nat) {v : AV} {cv : Value} (hv : Rel κ v cv) : Rels κ (put env d v) (a.put d cv).tmps := by
  cases d with
  | none => exact h
  | some t => exact h.upd t hv

def evA (env : List AV) : Operand → AV
  | .tmp t => nth env t
  | .const v => if plain v then .val v else .junk
  | .global _ => .junk
  | .func f => .fn (.func f) [] []
theorem evA_rel {κ : K} {env : List AV} {a : Act} (h : Rels κ env a.tmps) (x : Operand) : Rel κ (evA env x) (a.eval x) := by
  cases x with
  | tmp t => exact h.nth t
  | const v => simp only [evA]; split; · exact .val ‹_›
               · exact .junk
  | global g => exact .junk
  | func f => exact .fn rfl rfl (fun i hi => by simp at hi) rfl (fun i hi => by simp at hi)

/-! ### Reading abstract values back -/
theorem Rel.val_inv {κ : K} {v cv : Value} (h : Rel κ (.val v) cv) : cv = v ∧ plain v = true := by cases h; exact ⟨rfl, ‹_›⟩

def AV.one : AV → Bool
  | .agg _ | .tup _ | .junk => false
  | _ => true
def AV.cells : AV → Option (List AV)
  | .agg cs => if cs.all AV.one then some cs else none
  | .tup _ | .junk => none
  | v => some [v]
theorem Rel.one {κ : K} {v : AV} {cv : Value} (h : Rel κ v cv) (h1 : v.one = true) : cv.oneCell' = true ∧ cv.cells = #[cv] := by
  cases h <;> simp [AV.one] at h1 <;> try exact ⟨rfl, rfl⟩
  rename_i hp
  cases cv <;> simp [plain] at hp <;> exact ⟨rfl, rfl⟩
theorem Rel.cells {κ : K} {v : AV} {cv : Value} (h : Rel κ v cv) {cs : List AV} (hc : v.cells = some cs) : Rels κ cs cv.cells ∧ ∀ u ∈ cv.cells.toList, u.oneCell' = true := by
  by_cases h1 : v.one = true
  · have hv : v.cells = some [v] := by cases v <;> simp [AV.one] at h1 <;> rfl
    rw [hv] at hc; cases hc
    obtain ⟨a, b⟩ := h.one h1
    rw [b]
    refine ⟨⟨rfl, fun i hi hi' => ?_⟩, by simpa using a⟩
    have : i = 0 := by simpa using hi
    subst this; exact h
  · cases v <;> simp [AV.one] at h1 <;> simp [AV.cells] at hc
    obtain ⟨hall, rfl⟩ := hc
    cases h with
    | agg hl hr =>
      refine ⟨⟨hl, hr⟩, fun u hu => ?_⟩
      obtain ⟨i, hi, rfl⟩ := List.getElem_of_mem hu
      simp only [Value.cells, Array.length_toList] at hi
      have := hr i (by omega) hi
      exact (this.one (hall _ (List.getElem_mem _))).1

/-! ### Types -/
structure TI where
  desc : TypeDesc
  size : Nat
  bytes : Nat
  zero : Option Value
def ti (P : Program) (t : TypeId) : Option TI :=
  match P.underlying t, P.info? t with
  | some d, some i => some ⟨d, i.size, i.bytes, i.zero⟩
  | _, _ => none
theorem ti_spec {P : Program} {t : TypeId} {i : TI} (h : ti P t = some i) : P.underlying t = some i.desc ∧ ∃ j, P.info? t = some j ∧ j.size = i.size ∧ j.bytes = i.bytes ∧ j.zero = i.zero := by
  unfold ti at h
  split at h
  · rename_i d j h1 h2; cases h; exact ⟨h1, j, h2, rfl, rfl, rfl⟩
  · cases h
theorem run_sizeOf {P : Program} {t : TypeId} {i : TI} (h : ti P t = some i) (w : World) : (sizeOf t).run P w = .ok i.size w := by
  obtain ⟨_, j, h1, h2, _⟩ := ti_spec h
  simp [sizeOf, typeInfo, h1, h2]
theorem run_underlying' {P : Program} {t : TypeId} {i : TI} (h : ti P t = some i) (w : World) : (underlying t).run P w = .ok i.desc w := run_underlying (ti_spec h).1 w
def isAggD : TypeDesc → Bool
  | .struct _ | .array _ _ => true
  | _ => false
theorem run_isAgg {P : Program} {t : TypeId} {i : TI} (h : ti P t = some i) (w : World) : (isAgg t).run P w = .ok (isAggD i.desc) w := by
  simp only [isAgg, Sem.run_bind, run_underlying' h, Result.andThen_ok]
  cases i.desc <;> rfl
theorem cellsOf_ti {P : Program} {t : TypeId} {i : TI} (h : ti P t = some i) : P.cellsOf t = i.size := by
  obtain ⟨_, j, h1, h2, _⟩ := ti_spec h
  simp [Program.cellsOf, h1, h2]

/-! ### Whole numbers, bools, strings -/
def intBin (op : BinOp) (k : IntKind) (a : Int) (k' : IntKind) (b : Int) : Option AV :=
  match op with
  | .shl => if b < 0 then none else some (.val (.int k (k.wrap (a * 2 ^ (min b.toNat k.bits)))))
  | .shr => if b < 0 then none else some (.val (.int k (a.fdiv (2 ^ (min b.toNat k.bits)))))
  | op => if k ≠ k' then none else match op with
    | .add => some (.val (.int k (k.wrap (a + b))))
    | .sub => some (.val (.int k (k.wrap (a - b))))
    | .mul => some (.val (.int k (k.wrap (a * b))))
    | .quo => if b = 0 then none else some (.val (.int k (k.wrap (a.tdiv b))))
    | .rem => if b = 0 then none else some (.val (.int k (a.tmod b)))
    | .and => some (.val (.int k (bits .and k a b)))
    | .or => some (.val (.int k (bits .or k a b)))
    | .xor => some (.val (.int k (bits .xor k a b)))
    | .andNot => some (.val (.int k (bits .andNot k a b)))
    | .eql => some (.val (.bool (a == b)))
    | .neq => some (.val (.bool (a != b)))
    | .lss => some (.val (.bool (a < b)))
    | .leq => some (.val (.bool (a ≤ b)))
    | .gtr => some (.val (.bool (a > b)))
    | .geq => some (.val (.bool (a ≥ b)))
    | _ => none
def strBin (op : BinOp) (a b : ByteArray) : Option AV :=
  match op with
  | .add => if ((a.size + b.size : Nat) : Int) ≤ 9223372036854775807 then some (.val (.string (a ++ b))) else none
  | .eql => some (.val (.bool (a.toList == b.toList)))
  | .neq => some (.val (.bool !(a.toList == b.toList)))
  | .lss => some (.val (.bool (Op.bytesLess a.toList b.toList)))
  | .leq => some (.val (.bool (Op.bytesLess a.toList b.toList || a.toList == b.toList)))
  | .gtr => some (.val (.bool !(Op.bytesLess a.toList b.toList || a.toList == b.toList)))
  | .geq => some (.val (.bool !(Op.bytesLess a.toList b.toList)))
  | _ => none
/-- Is it nil? -/
def isNilA : AV → Option Bool
  | .ptr _ _ | .vp _ _ => some false
  | .val (.pointer none) => some true
  | .map _ => some false
  | .val (.map none) => some true
  | .val (.slice none 0 0) => some true
  | .ifc _ _ => some false
  | .val .nilIface => some true
  | .fn _ _ _ | .yld _ => some false
  | .val .nilFunc => some true
  | _ => none
def isNilC : AV → Bool
  | .val (.pointer none) | .val (.map none) | .val (.slice none 0 0) | .val .nilIface | .val .nilFunc => true
  | _ => false
def binA (d : TypeDesc) (op : BinOp) (x y : AV) : Option AV :=
  match x, y with
  | .val (.int k a), .val (.int k' b) => intBin op k a k' b
  | .val (.string a), .val (.string b) => strBin op a b
  | .val (.bool a), .val (.bool b) => match d, op with
    | .bool, .eql => some (.val (.bool (a == b)))
    | .bool, .neq => some (.val (.bool !(a == b)))
    | _, _ => none
  | _, _ => none

theorem intBin_sound {P : Program} {op : BinOp} {t : TypeId} {k k' : IntKind} {a b : Int} {r : AV} (h : intBin op k a k' b = some r) :
    ∃ v, r = .val v ∧ plain v = true ∧ ∀ w, (binOp op t (.int k a) (.int k' b)).run P w = .ok v w := by
  unfold intBin at h
  split at h
  · split at h
    · cases h
    · rename_i hb; cases h; exact ⟨_, rfl, rfl, fun w => by simp [binOp, Op.shift, hb]⟩
  · split at h
    · cases h
    · rename_i hb; cases h; exact ⟨_, rfl, rfl, fun w => by simp [binOp, Op.shift, hb]⟩
  · split at h
    · cases h
    · rename_i hk
      have hk : k = k' := by simpa using hk
      subst hk
      split at h
      case _ | _ | _ => cases h; exact ⟨_, rfl, rfl, fun w => by simp [binOp, Op.intArith]⟩
      case _ | _ => split at h; · cases h
                    · rename_i hb; cases h; exact ⟨_, rfl, rfl, fun w => by simp [binOp, Op.intDiv, hb]⟩
      case _ | _ | _ | _ => cases h; exact ⟨_, rfl, rfl, fun w => by simp [binOp]; rfl⟩
      case _ | _ | _ | _ | _ | _ => cases h; exact ⟨_, rfl, rfl, fun w => by simp [binOp, Op.intCmp]⟩
      · cases h

theorem strBin_sound {P : Program} {op : BinOp} {t : TypeId} {a b : ByteArray} {r : AV} (h : strBin op a b = some r) :
    ∃ v, r = .val v ∧ plain v = true ∧ ∀ w, (binOp op t (.string a) (.string b)).run P w = .ok v w := by
  unfold strBin at h
  split at h
  · split at h
    · rename_i hb; cases h
      refine ⟨_, rfl, rfl, fun w => ?_⟩
      have hb' : ¬ ((a.size + b.size : Nat) : Int) > IntKind.i64.max := by simp only [IntKind.max_i64]; omega
      simp only [binOp, Op.stringOp, if_neg hb', Sem.run_pure]
    · cases h
  case _ | _ | _ | _ | _ | _ => cases h; exact ⟨_, rfl, rfl, fun w => by simp [binOp, Op.stringOp]⟩
  · cases h

theorem run_equal_bool {P : Program} {t : TypeId} {i : TI} (hi : ti P t = some i) (hd : i.desc = .bool) (a b : Bool) (w : World) : (Op.equal t (.bool a) (.bool b)).run P w = .ok (a == b) w := by
  show (Op.equalIn (9999 + 1) t (.bool a) (.bool b)).run P w = _
  rw [Op.equalIn, Sem.run_bind, run_underlying' hi w, hd]
  rfl

theorem binA_sound {P : Program} {op : BinOp} {t : TypeId} {i : TI} (hi : ti P t = some i) {x y r : AV} (h : binA i.desc op x y = some r) {κ : K} {cx cy : Value} (hx : Rel κ x cx) (hy : Rel κ y cy)
    (X Y : Operand) : ∃ v, Rel κ r v ∧ ∀ w, (do eqGuard op t X Y cx cy; binOp op t cx cy : Sem Value).run P w = .ok v w := by
  unfold binA at h
  split at h
  · obtain ⟨rfl, _⟩ := hx.val_inv
    obtain ⟨rfl, _⟩ := hy.val_inv
    obtain ⟨v, rfl, hp, hr⟩ := intBin_sound (P := P) (t := t) h
    exact ⟨v, .val hp, fun w => by simp [eqGuard_at_int, hr]⟩
  · obtain ⟨rfl, _⟩ := hx.val_inv
    obtain ⟨rfl, _⟩ := hy.val_inv
    obtain ⟨v, rfl, hp, hr⟩ := strBin_sound (P := P) (t := t) h
    exact ⟨v, .val hp, fun w => by simp [eqGuard_at_string, hr]⟩
  · obtain ⟨rfl, _⟩ := hx.val_inv
    obtain ⟨rfl, _⟩ := hy.val_inv
    have hu := fun w => run_underlying' hi w
    split at h
    · rename_i hd; cases h
      exact ⟨_, .val rfl, fun w => by rw [eqGuard_at_bool]; simp only [binOp, Sem.run_bind, Sem.run_pure, Result.andThen_ok, run_equal_bool hi hd]⟩
    · rename_i hd; cases h
      exact ⟨_, .val rfl, fun w => by rw [eqGuard_at_bool]; simp only [binOp, Sem.run_bind, Sem.run_pure, Result.andThen_ok, run_equal_bool hi hd]⟩
    · cases h
  · cases h

def unA (op : UnOp) (x : AV) : Option AV :=
  match op, x with
  | .not, .val (.bool b) => some (.val (.bool !b))
  | .neg, .val (.int k n) => some (.val (.int k (k.wrap (0 - n))))
  | .xor, .val (.int k n) => some (.val (.int k (bits .xor k (if k.signed then -1 else k.max) n)))
  | _, _ => none
theorem unA_sound {P : Program} {op : UnOp} {x r : AV} (h : unA op x = some r) {κ : K} {cx : Value} (hx : Rel κ x cx) : ∃ v, Rel κ r v ∧ ∀ w, (Op.unary op cx).run P w = .ok v w := by
  unfold unA at h
  split at h <;> cases h <;> obtain ⟨rfl, _⟩ := hx.val_inv
  · exact ⟨_, .val rfl, fun w => by simp [Op.unary]⟩
  · exact ⟨_, .val rfl, fun w => by simp [Op.unary, Op.intArith]⟩
  · exact ⟨_, .val rfl, fun w => by simp [Op.unary]; rfl⟩

end Go.Abs
