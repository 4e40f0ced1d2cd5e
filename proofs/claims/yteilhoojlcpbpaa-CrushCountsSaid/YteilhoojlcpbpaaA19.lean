/- The abstract layer, nineteenth part: code without what is not looked at, and what it comes to. -/
import Derived.Test.YteilhoojlcpbpaaA18
set_option linter.unusedVariables false
set_option linter.unusedSimpArgs false
namespace Go.Abs
variable {P : Program}

inductive LC where
  | ops (l : List Ln)
  | any (l : List (Ln × Bool × Option (List Ln)))
  | skip | ret | bad
  | exit (id : Nat)
  | label (l : Nat)
  | seq (a b : LC)
  | cond (c : Operand) (a b : LC)
  | block (id : Nat) (a : LC)
  | loop (a : LC)
  | range (g : Operand) (ps : Array Tmp) (asg body : Code)

def quietOp : Op → Bool
  | .move _ | .assign _ | .pick .. | .load .. | .nilCheck _ | .binOp .. | .unOp .. | .convert .. | .makeInterface .. | .makeFunc .. | .slice .. | .fieldAddr .. | .field .. | .indexAddr .. | .index .. | .build .. | .extract .. | .sliceToArrayPointer .. => true
  | .call { callee := .builtin .len, .. } | .call { callee := .builtin .min, .. } | .call { callee := .builtin .max, .. } => true
  | _ => false
def callOp : Op → Bool
  | .call { callee := .value _, .. } => true
  | _ => false
def planOf (ops : Array Oper) : Nat → Array Bool → List (Nat × Bool)
  | 0, _ => []
  | fuel + 1, listed =>
    let rs := Region.ready .any ops listed
    match rs.find? fun k => (match ops[k]? with | some o => quietOp o.op | none => false) && Region.free .any ops listed k with
    | some k => (k, true) :: planOf ops fuel (listed.setIfInBounds k true)
    | none => match rs with
      | [k] => (k, false) :: planOf ops fuel (listed.setIfInBounds k true)
      | _ => match rs.find? fun k => (match ops[k]? with | some o => callOp o.op | none => false) && Region.free .any ops listed k with
        | some k => (k, true) :: planOf ops fuel (listed.setIfInBounds k true)
        | none => []
def leanAny (ops : Array Oper) : LC :=
  let ks := planOf ops ops.size (Array.replicate ops.size false)
  if ks.length == ops.size then (match planFrom ops true [] ks (Array.replicate ops.size false) with
    | some l => .any l
    | none => match planFrom ops false [] ks (Array.replicate ops.size false) with
      | some l => .any l
      | none => .bad) else .bad
def leanC : Code → LC
  | .region _ ops false => .ops (lean ops)
  | .region _ ops true => leanAny ops
  | .skip => .skip
  | .ret => .ret
  | .exit id => .exit id
  | .label l => .label l
  | .seq a b => .seq (leanC a) (leanC b)
  | .cond c a b => .cond c (leanC a) (leanC b)
  | .block id a => .block id (leanC a)
  | .loop a => .loop (leanC a)
  | .rangeFunc g ps asg body => .range g ps asg body
  | _ => .bad

def condK (c : AV) (a b : Prop) : Prop := match c with | .val (.bool t) => if t then a else b | _ => False
theorem condK_bool (t : Bool) (a b : Prop) : condK (.val (.bool t)) a b = ifK t a b := Eq.trans rfl rfl
def rangeV (P : Program) (rd : Option Nat) (g : AV) (ps : Array Tmp) (asg body : Code) (Q : Exit → List AV → Mem → Prop) (env : List AV) (m : Mem) : Prop :=
  match g with
  | .fn (.func f) first caps => (∀ n, rd = some n → ∃ st pend env ps asg body, m n = some (.loop st pend env ps asg body)) ∧
      ∀ n, m n = none → C P f (first ++ [.yld n] ++ caps) (m.set n (.loop .ready none env ps asg body)) (fun _ m' => rangeK n env ps asg body Q m')
  | _ => False
/-- The next round begins: with less to go, less memory may be told of. -/
def againK (P : Program) (I : Nat → List AV → Mem → Prop) (j : Nat) (env : List AV) (m : Mem) : Prop := Ghosts P env m (fun env' m' => ∃ j', j' < j ∧ I j' env' m')
def loopV (P : Program) (V' : (Exit → List AV → Mem → Prop) → List AV → Mem → Prop) (Q : Exit → List AV → Mem → Prop) (env : List AV) (m : Mem) : Prop :=
  ∃ (I : Nat → List AV → Mem → Prop) (j0 : Nat), Ghosts P env m (I j0) ∧ ∀ j env m, I j env m → V' (andThen (fun env' m' => againK P (hid I .mk) j env' m') Q) env m
theorem loop_introG {P : Program} {V' : (Exit → List AV → Mem → Prop) → List AV → Mem → Prop} {Q : Exit → List AV → Mem → Prop} {env : List AV} {m : Mem} {x : Hid V'} {y : Hid Q} (I : Nat → List AV → Mem → Prop) (j0 : Nat) (h0 : Ghosts P env m (I j0))
    (h : ∀ j env m, I j env m → V' (andThen (fun env' m' => againK P (hid I .mk) j env' m') Q) env m) : loopV P (hid V' x) (hid Q y) env m := ⟨I, j0, h0, h⟩
theorem loop_intro {P : Program} {V' : (Exit → List AV → Mem → Prop) → List AV → Mem → Prop} {Q : Exit → List AV → Mem → Prop} {env : List AV} {m : Mem} {x : Hid V'} {y : Hid Q} (I : Nat → List AV → Mem → Prop) (j0 : Nat) (m0 : Mem) (hm : m0.sub m) (h0 : I j0 env m0)
    (h : ∀ j env m, I j env m → V' (andThen (fun env' m' => againK P (hid I .mk) j env' m') Q) env m) : loopV P (hid V' x) (hid Q y) env m := ⟨I, j0, .sub hm (.mk h0), h⟩
theorem again_introG {P : Program} {I : Nat → List AV → Mem → Prop} {x : Hid I} {j : Nat} {env : List AV} {m : Mem} (h : Ghosts P env m (fun env' m' => ∃ j', j' < j ∧ I j' env' m')) : againK P (hid I x) j env m := h
theorem again_intro {P : Program} {I : Nat → List AV → Mem → Prop} {x : Hid I} {j : Nat} {env : List AV} {m : Mem} (j' : Nat) (hj : j' < j) (m' : Mem) (hm : m'.sub m) (h : I j' env m') : againK P (hid I x) j env m := .sub hm (.mk ⟨j', hj, h⟩)
def V (P : Program) (rd : Option Nat) : LC → (Exit → List AV → Mem → Prop) → List AV → Mem → Prop
  | .ops l, Q => stepsK P (Q .normal) l
  | .any l, Q => planK P (Q .normal) l
  | .skip, Q => Q .normal
  | .label _, Q => Q .normal
  | .ret, Q => Q .ret
  | .exit id, Q => Q (.exit id)
  | .seq a b, Q => V P rd a (andThen (V P rd b Q) Q)
  | .cond c a b, Q => fun env m => condK (evA env c) (V P rd a Q env m) (V P rd b Q env m)
  | .block id a, Q => V P rd a (inBlk id Q)
  | .loop a, Q => loopV P (V P rd a) Q
  | .range g ps asg body, Q => fun env m => rangeV P rd (evA env g) ps asg body Q env m
  | .bad, _ => fun _ _ => False

theorem W.of_V {rd : Option Nat} (hm : P.follows .mixedOrders = true) : ∀ (c : Code) (Q : Exit → List AV → Mem → Prop) (env : List AV) (m : Mem), V P rd (leanC c) Q env m → W P rd c Q env m
  | .region id ops false, Q, env, m, h => W.ops rfl h
  | .region id ops true, Q, env, m, h => by
    simp only [leanC, leanAny] at h
    split at h
    · rename_i hl
      split at h
      · rename_i l hp
        exact W.plan hm hp (by simpa using hl) h
      · split at h
        · rename_i l hp
          exact W.plan hm hp (by simpa using hl) h
        · exact h.elim
    · exact h.elim
  | .skip, Q, env, m, h => W.skip h
  | .label l, Q, env, m, h => W.label h
  | .ret, Q, env, m, h => W.ret h
  | .exit id, Q, env, m, h => W.exit h
  | .seq a b, Q, env, m, h => W.seq ((W.of_V hm a _ env m h).mono fun e env m h => by
      cases e with
      | normal => exact W.of_V hm b Q env m h
      | _ => exact h)
  | .cond c a b, Q, env, m, h => by
    simp only [leanC, V, condK] at h
    split at h
    · rename_i t ht
      refine W.cond ht ?_
      cases t
      · exact W.of_V hm b Q env m h
      · exact W.of_V hm a Q env m h
    · exact h.elim
  | .block id a, Q, env, m, h => W.block (W.of_V hm a _ env m h)
  | .loop a, Q, env, m, h => by
    obtain ⟨I, j0, h0, h1⟩ := h
    exact W.loopG I h0 fun j env m hI => (W.of_V hm a _ env m (h1 j env m hI)).mono fun e env' m' h => by
      cases e with
      | normal => exact h
      | _ => exact h
  | .rangeFunc g ps asg body, Q, env, m, h => by
    simp only [leanC, V, rangeV] at h
    split at h
    · rename_i f first caps hg
      exact W.range hg h.1 h.2
    · exact h.elim
  | .goto _, Q, env, m, h => h.elim
  | .scope _, Q, env, m, h => h.elim
  | .refuse _, Q, env, m, h => h.elim

/-! ### The rules, to be rewritten with -/
section
variable {rd : Option Nat} {Q : Exit → List AV → Mem → Prop} {env : List AV} {m : Mem}
theorem V_ops (l : List Ln) : V P rd (.ops l) Q env m = seeE env m (hid (fun env m => stepsK P (Q .normal) l env m) .mk) := Eq.trans rfl rfl
theorem V_any (l : List (Ln × Bool × Option (List Ln))) : V P rd (.any l) Q env m = seeE env m (hid (fun env m => planK P (Q .normal) l env m) .mk) := Eq.trans rfl rfl
theorem V_skip : V P rd .skip Q env m = Q .normal env m := Eq.trans rfl rfl
theorem V_label (l : Nat) : V P rd (.label l) Q env m = Q .normal env m := Eq.trans rfl rfl
theorem V_ret : V P rd .ret Q env m = Q .ret env m := Eq.trans rfl rfl
theorem V_exit (id : Nat) : V P rd (.exit id) Q env m = Q (.exit id) env m := Eq.trans rfl rfl
theorem V_seq (a b : LC) : V P rd (.seq a b) Q env m = V P rd a (andThen (V P rd b Q) Q) env m := Eq.trans rfl rfl
theorem V_cond (c : Operand) (a b : LC) : V P rd (.cond c a b) Q env m = condK (evA env c) (hid (V P rd a Q env m) .mk) (hid (V P rd b Q env m) .mk) := Eq.trans rfl rfl
theorem V_block (id : Nat) (a : LC) : V P rd (.block id a) Q env m = V P rd a (inBlk id Q) env m := Eq.trans rfl rfl
theorem V_loop (a : LC) : V P rd (.loop a) Q env m = loopV P (hid (V P rd a) .mk) (hid Q .mk) env m := Eq.trans rfl rfl
theorem V_range (g : Operand) (ps : Array Tmp) (asg body : Code) : V P rd (.range g ps asg body) Q env m = rangeV P rd (evA env g) ps asg body (hid Q .mk) env m := Eq.trans rfl rfl
theorem andThen_normal (K' : List AV → Mem → Prop) : andThen K' Q .normal env m = K' env m := Eq.trans rfl rfl
theorem andThen_ret (K' : List AV → Mem → Prop) : andThen K' Q .ret env m = Q .ret env m := Eq.trans rfl rfl
theorem andThen_exit (K' : List AV → Mem → Prop) (id : Nat) : andThen K' Q (.exit id) env m = Q (.exit id) env m := Eq.trans rfl rfl
theorem inBlk_normal (id : Nat) : inBlk id Q .normal env m = Q .normal env m := Eq.trans rfl rfl
theorem inBlk_ret (id : Nat) : inBlk id Q .ret env m = Q .ret env m := Eq.trans rfl rfl
theorem inBlk_exit (id id' : Nat) : inBlk id Q (.exit id') env m = ifK (id' == id) (hid (Q .normal env m) .mk) (hid (Q (.exit id') env m) .mk) := by
  simp only [inBlk, ifK, hid, beq_iff_eq]
  split <;> rfl
theorem sub_self (m : Mem) : Mem.sub m m = True := eq_true (Mem.sub.refl m)
theorem planK_nil (Q : List AV → Mem → Prop) : planK P Q [] env m = Q env m := Eq.trans rfl rfl
theorem planK_first (Q : List AV → Mem → Prop) (op : Op) (dst : Option Nat) (g : Option (Option Nat × Bool)) (b : Option (List Ln)) (rest : List (Ln × Bool × Option (List Ln))) :
    planK P Q ((⟨op, dst, g⟩, true, b) :: rest) env m = onK env g (firstK P op (evA env) m fun v => seeE (put env dst v) m (hid (fun env m => planK P Q rest env m) .mk)) (seeE (put env dst (.tup [])) m (hid (fun env m => planK P Q rest env m) .mk)) := Eq.trans rfl rfl
theorem planK_only (Q : List AV → Mem → Prop) (op : Op) (dst : Option Nat) (g : Option (Option Nat × Bool)) (rest : List (Ln × Bool × Option (List Ln))) :
    planK P Q ((⟨op, dst, g⟩, false, none) :: rest) env m = onK env g (opK P op (evA env) m fun v m' => seeE (put env dst v) m' (hid (fun env m => planK P Q rest env m) .mk)) (seeE (put env dst (.tup [])) m (hid (fun env m => planK P Q rest env m) .mk)) := Eq.trans rfl rfl
/-- Nothing that was looked at ahead has turned, or memory has only grown. -/
def keepsK (P : Program) (acc : List Ln) (env : List AV) (m m' : Mem) (K' : Prop) : Prop := (m.sub m' ∨ stabK P acc env m m') ∧ K'
theorem planK_adds (Q : List AV → Mem → Prop) (op : Op) (dst : Option Nat) (g : Option (Option Nat × Bool)) (acc : List Ln) (rest : List (Ln × Bool × Option (List Ln))) :
    planK P Q ((⟨op, dst, g⟩, false, some acc) :: rest) env m = onK env g (opK P op (evA env) m fun v m' => keepsK P (hid acc .mk) env m m' (hid (seeE (put env dst v) m' (hid (fun env m => planK P Q rest env m) .mk)) .mk)) (seeE (put env dst (.tup [])) m (hid (fun env m => planK P Q rest env m) .mk)) := Eq.trans rfl rfl
theorem keeps_sub {acc : List Ln} {x : Hid acc} {m m' : Mem} {K' : Prop} {y : Hid K'} (h : m.sub m') (hk : K') : keepsK P (hid acc x) env m m' (hid K' y) := ⟨.inl h, hk⟩
theorem keeps_stab {acc : List Ln} {x : Hid acc} {m m' : Mem} {K' : Prop} {y : Hid K'} (h : stabK P acc env m m') (hk : K') : keepsK P (hid acc x) env m m' (hid K' y) := ⟨.inr h, hk⟩
theorem keeps_self {acc : List Ln} {x : Hid acc} {K' : Prop} {y : Hid K'} : keepsK P (hid acc x) env m m (hid K' y) = K' := by simp only [keepsK, hid, Mem.sub.refl, true_or, true_and]
theorem stabK_nil (m m' : Mem) : stabK P [] env m m' := fun o h => by simp at h
theorem stabK_cons {op : Op} {dst : Option Nat} {g : Option (Option Nat × Bool)} {acc : List Ln} {m m' : Mem} (h : onK env g ((quietA P m (evA env) op).isSome = true ∧ quietA P m' (evA env) op = quietA P m (evA env) op) True) (hs : stabK P acc env m m') : stabK P (⟨op, dst, g⟩ :: acc) env m m' := fun o ho => by
  rcases List.mem_cons.1 ho with rfl | ho
  · exact h
  · exact hs o ho
end
section
variable {ev : Operand → AV} {m : Mem} {K' : AV → Prop}
theorem quiet_firstK {op : Op} {o : Option AV} (h : quietA P m ev op = o) (hl : ∀ c, op ≠ .call c) : firstK P op ev m K' = got o (hid K' .mk) := by
  unfold firstK
  rw [h]
  cases o with
  | none => simp only [got]
            split
            · exact absurd rfl (hl _)
            · rfl
  | some r => rfl
theorem firstK_move (x : Operand) : firstK P (.move x) ev m K' = K' (ev x) := Eq.trans rfl rfl
theorem firstK_assign (x : Operand) : firstK P (.assign x) ev m K' = K' (ev x) := Eq.trans rfl rfl
theorem firstK_pick (c a b : Operand) : firstK P (.pick c a b) ev m K' = got (pickA (ev c) (ev a) (ev b)) (hid K' .mk) := quiet_firstK rfl (fun _ h => nomatch h)
theorem firstK_load (t : TypeId) (a : Operand) : firstK P (.load t a) ev m K' = got (loadA P m t (ev a)) (hid K' .mk) := quiet_firstK rfl (fun _ h => nomatch h)
theorem firstK_arrPtr (t : TypeId) (x : Operand) : firstK P (.sliceToArrayPointer t x) ev m K' = got (arrPtrA P t (ev x)) (hid K' .mk) := quiet_firstK rfl (fun _ h => nomatch h)
theorem firstK_nilCheck (x : Operand) : firstK P (.nilCheck x) ev m K' = got (nilCheckA (ev x)) (hid K' .mk) := quiet_firstK rfl (fun _ h => nomatch h)
theorem firstK_bin (op : BinOp) (t : TypeId) (x y : Operand) (u : TypeId) : firstK P (.binOp op t x y u) ev m K' = got (cmpA P t op (ev x) (ev y)) (hid K' .mk) := quiet_firstK rfl (fun _ h => nomatch h)
theorem firstK_un (op : UnOp) (t : TypeId) (x : Operand) : firstK P (.unOp op t x) ev m K' = got (unA op (ev x)) (hid K' .mk) := quiet_firstK rfl (fun _ h => nomatch h)
theorem firstK_convert (s d : TypeId) (x : Operand) : firstK P (.convert s d x) ev m K' = got (convA P m s d (ev x)) (hid K' .mk) := quiet_firstK rfl (fun _ h => nomatch h)
theorem firstK_iface (t : TypeId) (x : Operand) : firstK P (.makeInterface t x) ev m K' = got (ifaceA P t (ev x)) (hid K' .mk) := quiet_firstK rfl (fun _ h => nomatch h)
theorem firstK_fn (f : Fn) (a b : Array Operand) : firstK P (.makeFunc f a b) ev m K' = got (mkFnA ev f a b) (hid K' .mk) := quiet_firstK rfl (fun _ h => nomatch h)
theorem firstK_slice (t : TypeId) (x : Operand) (lo hi mx : Option Operand) : firstK P (.slice t x lo hi mx) ev m K' = got (sliceA P m t (ev x) (lo.map ev) (hi.map ev) (mx.map ev)) (hid K' .mk) := quiet_firstK rfl (fun _ h => nomatch h)
theorem firstK_fieldAddr (s : TypeId) (x : Operand) (f : Nat) : firstK P (.fieldAddr s x f) ev m K' = got (fieldAddrA P s f (ev x)) (hid K' .mk) := quiet_firstK rfl (fun _ h => nomatch h)
theorem firstK_field (t : TypeId) (x : Operand) (f : Nat) : firstK P (.field t x f) ev m K' = got (fieldA P t (ev x) f) (hid K' .mk) := quiet_firstK rfl (fun _ h => nomatch h)
theorem firstK_indexAddr (t : TypeId) (x ix : Operand) : firstK P (.indexAddr t x ix) ev m K' = got (indexAddrA P t (ev x) (ev ix)) (hid K' .mk) := quiet_firstK rfl (fun _ h => nomatch h)
theorem firstK_index (t : TypeId) (x ix : Operand) : firstK P (.index t x ix) ev m K' = got (indexA P t (ev x) (ev ix)) (hid K' .mk) := quiet_firstK rfl (fun _ h => nomatch h)
theorem firstK_build (t : TypeId) (ps : Array (Nat × Operand)) : firstK P (.build t ps) ev m K' = got (buildA P t (ps.toList.map fun p => (p.1, ev p.2))) (hid K' .mk) := quiet_firstK rfl (fun _ h => nomatch h)
theorem firstK_extract (x : Operand) (i : Nat) : firstK P (.extract x i) ev m K' = got (extractA i (ev x)) (hid K' .mk) := quiet_firstK rfl (fun _ h => nomatch h)
theorem firstK_len (x : Operand) (t : TypeId) : firstK P (.call { callee := .builtin .len, args := #[x], argTypes := #[t] }) ev m K' = got (lenA P m t (ev x)) (hid K' .mk) := by
  unfold firstK; simp only [quietA]; show (match lenA P m t (ev x) with | some r => K' r | none => False) = _; cases lenA P m t (ev x) <;> rfl
theorem firstK_min (args : Array Operand) (ts : Array TypeId) : firstK P (.call { callee := .builtin .min, args := args, argTypes := ts }) ev m K' = got (mmA false (args.toList.map ev)) (hid K' .mk) := by
  unfold firstK; simp only [quietA]; cases mmA false (args.toList.map ev) <;> rfl
theorem firstK_max (args : Array Operand) (ts : Array TypeId) : firstK P (.call { callee := .builtin .max, args := args, argTypes := ts }) ev m K' = got (mmA true (args.toList.map ev)) (hid K' .mk) := by
  unfold firstK; simp only [quietA]; cases mmA true (args.toList.map ev) <;> rfl
theorem firstK_call (f : Operand) (args : Array Operand) (ts : Array TypeId) : firstK P (.call { callee := .value f, args := args, argTypes := ts }) ev m K' = PureCV P (ev f) (args.toList.map ev) m (hid K' .mk) := Eq.trans rfl rfl
def PureC (P : Program) (g : FuncId) (args : List AV) (m : Mem) (K' : AV → Prop) : Prop := ∃ args' R, F P g args' R ∧ Seens m args args' ∧ K' R
theorem PureCV_func (g : FuncId) (first caps args : List AV) : PureCV P (.fn (.func g) first caps) args m K' = PureC P g (first ++ args ++ caps) m K' := Eq.trans rfl rfl
end

/-! ### Calls of functions with a contract -/
theorem call_F {f : FuncId} {args args' : List AV} {R : AV} (h : F P f args R) {m : Mem} (hseen : Seens m args' args) {K' : AV → Mem → Prop} {x : Hid K'} (hk : K' R m) : CC P f args' m (hid K' x) := .inl (C.of_F h hseen hk)
theorem call_C {f : FuncId} {args : List AV} {m : Mem} {K' K'' : AV → Mem → Prop} {x : Hid K'} (h : C P f args m K'') (hk : ∀ r m', K'' r m' → K' r m') : CC P f args m (hid K' x) := .inl (h.mono hk)
theorem call_X {f : FuncId} {args : List AV} {m : Mem} {K' K'' : AV → Mem → Prop} {x : Hid K'} (h : X P f args m K'') (hk : ∀ r m', K'' r m' → K' r m') : CC P f args m (hid K' x) := .inr (h.mono hk)
theorem pure_F {f : FuncId} {args args' : List AV} {R : AV} (h : F P f args R) {m : Mem} (hseen : Seens m args' args) {K' : AV → Prop} {x : Hid K'} (hk : K' R) : PureC P f args' m (hid K' x) := ⟨args, R, h, hseen, hk⟩

/-! ### Functions -/
def endK (e : Exit) (p : Prop) : Prop := match e with | .normal | .ret => p | _ => False
theorem endK_ret (p : Prop) : endK .ret p = p := Eq.trans rfl rfl
theorem endK_normal (p : Prop) : endK .normal p = p := Eq.trans rfl rfl
def resL (P : Program) (m : Mem) (env : List AV) : List ResultVar → Option AV
  | [x] => resOne P m env x
  | xs => (xs.mapM (resOne P m env)).map .tup
theorem resL_eq {fn : Func} {rs : Array ResultVar} (hr : fn.results = rs) (env : List AV) (m : Mem) {r : AV} (h : resL P m env rs.toList = some r) : resA P fn env m = some r := by
  unfold resA
  rw [hr]
  match hl : rs.toList, h with
  | [], h => simp [resL] at h; simp [h]
  | [x], h => simp only [resL] at h; simp [h]
  | x :: y :: l, h =>
    simp only [resL, Option.map_eq_some_iff] at h
    obtain ⟨vs, h1, rfl⟩ := h
    rw [h1]
    have hlen : 2 ≤ vs.length := by
      simp only [List.mapM_cons, Option.bind_eq_bind, Option.bind_eq_some_iff, Option.pure_def, Option.some.injEq] at h1
      obtain ⟨a, _, b, ⟨c, _, d, _, rfl⟩, rfl⟩ := h1
      simp
    match vs, hlen with
    | a :: b :: vs, _ => rfl
theorem resL_one (m : Mem) (env : List AV) (x : ResultVar) : resL P m env [x] = resOne P m env x := Eq.trans rfl rfl
theorem resL_nil (m : Mem) (env : List AV) : resL P m env [] = some (.tup []) := Eq.trans rfl rfl
def two (a b : Option AV) : Option AV := match a, b with | some a, some b => some (.tup [a, b]) | _, _ => none
theorem two_some (a b : AV) : two (some a) (some b) = some (.tup [a, b]) := rfl
theorem resL_two (m : Mem) (env : List AV) (x y : ResultVar) : resL P m env [x, y] = two (resOne P m env x) (resOne P m env y) := by
  simp only [resL, List.mapM_cons, List.mapM_nil, two]
  cases resOne P m env x <;> cases resOne P m env y <;> rfl
theorem resOne_tmp (m : Mem) (env : List AV) (t : Nat) : resOne P m env (.tmp t) = some (nth env t) := rfl
theorem resOne_cell (m : Mem) (env : List AV) (a t : Nat) : resOne P m env (.cell a t) = loadA P m t (nth env a) := rfl

theorem C.of_code {f : FuncId} {fn : Func} {lc : LC} {args : List AV} {m : Mem} {K' : AV → Mem → Prop} {n : Nat} {rs : Array ResultVar} {env : List AV} (hf : P.funcs[f]? = some fn) (hk : fn.body.map leanC = some lc)
    (hn : fn.ntmps = n) (hr : fn.results = rs) (hname : (fn.name == "runtime.NumGoroutine") = false) (hm : P.follows .mixedOrders = true) (he : args ++ List.replicate (n - args.length) (.tup []) = env)
    (h : V P none lc (fun e env' m' => endK e (got (resL P m' env' rs.toList) fun r => K' r m')) env m) : C P f args m K' := by
  cases hb : fn.body with
  | none => rw [hb] at hk; cases hk
  | some c =>
    rw [hb] at hk; cases hk
    refine C.of_W hf hb hname ?_
    rw [hn, he]
    refine (W.of_V hm c _ env m h).mono fun e env' m' h => ?_
    have fin : (got (resL P m' env' rs.toList) fun r => K' r m') → ∃ r, resA P fn env' m' = some r ∧ K' r m' := fun h => by
      cases hres : resL P m' env' rs.toList with
      | none => rw [hres] at h; exact h.elim
      | some r => rw [hres] at h; exact ⟨r, resL_eq hr env' m' hres, h⟩
    cases e with
    | normal => exact ⟨trivial, fin h⟩
    | ret => exact ⟨trivial, fin h⟩
    | _ => exact h.elim
theorem F.of_code {f : FuncId} {fn : Func} {lc : LC} {args : List AV} {R : AV} {n : Nat} {rs : Array ResultVar} {env : List AV} (hf : P.funcs[f]? = some fn) (hk : fn.body.map leanC = some lc)
    (hn : fn.ntmps = n) (hr : fn.results = rs) (hname : (fn.name == "runtime.NumGoroutine") = false) (hm : P.follows .mixedOrders = true) (he : args ++ List.replicate (n - args.length) (.tup []) = env)
    (h : V P none lc (fun e env' m' => endK e (got (resL P m' env' rs.toList) fun r => New m' r R)) env nomem) : F P f args R :=
  F.of_C (C.of_code hf hk hn hr hname hm he h)
/-- One round of a loop over a function. -/
theorem Y.of_code {n : Nat} {args : List AV} {m : Mem} {K' : AV → Mem → Prop} {env : List AV} {ps : Array Tmp} {asg body : Code} {la lb : LC} (hm : P.follows .mixedOrders = true) (ha : leanC asg = la) (hb : leanC body = lb)
    (hmn : m n = some (.loop .ready none env ps asg body)) (hps : args.length = ps.size)
    (h : V P (some n) la (fun e env1 m1 => e = .normal ∧ m1 n = some (.loop .ready none env ps asg body) ∧ V P (some n) lb (fun e2 _ m2 => roundK n env ps asg body K' e2 m2) env1 (m1.set n (.loop .busy none env ps asg body)))
      (startA env ps args) m) : Y P n args m K' := by
  subst ha hb
  exact Y.of_W hmn hps ((W.of_V hm asg _ _ m h).mono fun e env m ⟨a, b, c⟩ => ⟨a, b, W.of_V hm body _ _ _ c⟩)
/-- The loops over functions in a piece of code, in their order. -/
def ranges : Code → List (Code × Code)
  | .seq a b => ranges a ++ ranges b
  | .cond _ a b => ranges a ++ ranges b
  | .block _ a => ranges a
  | .loop a => ranges a
  | .rangeFunc _ _ asg body => [(asg, body)]
  | _ => []
def rangeAt (fn : Func) (i : Nat) : Code × Code := match fn.body with | some c => (ranges c)[i]?.getD (.skip, .skip) | none => (.skip, .skip)
/-! ### Appending -/
section
variable {m : Mem} {t xt e : TypeId} {j : TI} {z src : List AV} {k : Nat} {y : AV} {K' : AV → Mem → Prop} {h : Hid K'}
theorem append_nil (hT : AppT P t xt e j z) (hs : srcA P m xt j.size y = some (k, src)) (hb : k * j.bytes ≤ 140737488355328)
    (hk : ∀ N, m N = none → K' (.sl N 0 k k) (m.set N (.cells true e src))) : AppK P t xt (.val (.slice none 0 0)) y m (hid K' h) :=
  ⟨e, j, z, k, src, hT, srcB_of hs, .inr (.inl ⟨.inl rfl, hb, hk⟩)⟩
theorem append_vnil (hT : AppT P t xt e j z) (hs : srcA P m xt j.size y = some (k, src)) (hb : k * j.bytes ≤ 140737488355328)
    (hk : ∀ N, m N = none → K' (.sl N 0 k k) (m.set N (.cells true e src))) : AppK P t xt (.vs [] true) y m (hid K' h) :=
  ⟨e, j, z, k, src, hT, srcB_of hs, .inr (.inl ⟨.inr rfl, hb, hk⟩)⟩
theorem append_open {n off len : Nat} {bt : TypeId} {cs : List AV} (hT : AppT P t xt e j z) (hs : srcA P m xt j.size y = some (k, src)) (hm : m n = some (.cells true bt cs)) (hc : P.cellsOf bt = j.size) (hl : off + len * j.size = cs.length)
    (hb : (len + k) * j.bytes ≤ 140737488355328) (hk : ∀ N, m N = none → K' (.sl N 0 (len + k) (len + k)) ((m.del n).set N (.cells true e (cs.drop off ++ src)))) : AppK P t xt (.sl n off len len) y m (hid K' h) :=
  ⟨e, j, z, k, src, hT, srcB_of hs, .inl ⟨n, off, len, bt, cs, rfl, hm, hc, hl, hb, hk⟩⟩
theorem append_vs {es : List (List AV)} (hT : AppT P t xt e j z) (hs : srcA P m xt j.size y = some (k, src)) (h0 : 0 < k) (hes : ∀ e ∈ es, e.length = j.size) (hb : (es.length + k) * j.bytes ≤ 140737488355328)
    (hk : ∀ N, m N = none → K' (.sl N 0 (es.length + k) (es.length + k)) (m.set N (.cells true e (es.flatten ++ src)))) : AppK P t xt (.vs es true) y m (hid K' h) :=
  ⟨e, j, z, k, src, hT, srcB_of hs, .inr (.inr (.inl ⟨es, rfl, h0, hes, hb, hk⟩))⟩
theorem append_in {n off len cap : Nat} {opn : Bool} {bt : TypeId} {cs : List AV} (hT : AppT P t xt e j z) (hs : srcA P m xt j.size y = some (k, src)) (hm : m n = some (.cells opn bt cs)) (hr : len + k ≤ cap) (hl : off + (len + k) * j.size ≤ cs.length)
    (hk : K' (.sl n off (len + k) cap) (m.set n (.cells opn bt (setRange cs (off + len * j.size) src)))) : AppK P t xt (.sl n off len cap) y m (hid K' h) :=
  ⟨e, j, z, k, src, hT, srcB_of hs, .inr (.inr (.inr (.inl ⟨n, off, len, cap, opn, bt, cs, rfl, hm, hr, hl, hk⟩)))⟩
theorem append_full {n off len cap : Nat} {bt : TypeId} {cs : List AV} (hT : AppT P t xt e j z) (hs : srcA P m xt j.size y = some (k, src)) (hm : m n = some (.cells false bt cs)) (hr : cap < len + k) (hl : off + len * j.size ≤ cs.length) (hb : (len + k) * j.bytes ≤ 140737488355328)
    (hk : ∀ N, m N = none → K' (.sl N 0 (len + k) (len + k)) (m.set N (.cells true e ((cs.drop off).take (len * j.size) ++ src)))) : AppK P t xt (.sl n off len cap) y m (hid K' h) :=
  ⟨e, j, z, k, src, hT, srcB_of hs, .inr (.inr (.inr (.inr ⟨n, off, len, cap, bt, cs, rfl, hm, hr, hl, hb, hk⟩)))⟩
theorem appendB_full {n off len cap : Nat} {bt : TypeId} {cs : List AV} (hT : AppT P t xt e j z) (hs : srcB P m xt j z y = some (k, src)) (hm : m n = some (.cells false bt cs)) (hr : cap < len + k) (hl : off + len * j.size ≤ cs.length) (hb : (len + k) * j.bytes ≤ 140737488355328)
    (hk : ∀ N, m N = none → K' (.sl N 0 (len + k) (len + k)) (m.set N (.cells true e ((cs.drop off).take (len * j.size) ++ src)))) : AppK P t xt (.sl n off len cap) y m (hid K' h) :=
  ⟨e, j, z, k, src, hT, hs, .inr (.inr (.inr (.inr ⟨n, off, len, cap, bt, cs, rfl, hm, hr, hl, hb, hk⟩)))⟩
theorem appendB_in {n off len cap : Nat} {opn : Bool} {bt : TypeId} {cs : List AV} (hT : AppT P t xt e j z) (hs : srcB P m xt j z y = some (k, src)) (hm : m n = some (.cells opn bt cs)) (hr : len + k ≤ cap) (hl : off + (len + k) * j.size ≤ cs.length)
    (hk : K' (.sl n off (len + k) cap) (m.set n (.cells opn bt (setRange cs (off + len * j.size) src)))) : AppK P t xt (.sl n off len cap) y m (hid K' h) :=
  ⟨e, j, z, k, src, hT, hs, .inr (.inr (.inr (.inl ⟨n, off, len, cap, opn, bt, cs, rfl, hm, hr, hl, hk⟩)))⟩
theorem appendB_open {n off len : Nat} {bt : TypeId} {cs : List AV} (hT : AppT P t xt e j z) (hs : srcB P m xt j z y = some (k, src)) (hm : m n = some (.cells true bt cs)) (hc : P.cellsOf bt = j.size) (hl : off + len * j.size = cs.length)
    (hb : (len + k) * j.bytes ≤ 140737488355328) (hk : ∀ N, m N = none → K' (.sl N 0 (len + k) (len + k)) ((m.del n).set N (.cells true e (cs.drop off ++ src)))) : AppK P t xt (.sl n off len len) y m (hid K' h) :=
  ⟨e, j, z, k, src, hT, hs, .inl ⟨n, off, len, bt, cs, rfl, hm, hc, hl, hb, hk⟩⟩
theorem appendB_nil (hT : AppT P t xt e j z) (hs : srcB P m xt j z y = some (k, src)) (hb : k * j.bytes ≤ 140737488355328)
    (hk : ∀ N, m N = none → K' (.sl N 0 k k) (m.set N (.cells true e src))) : AppK P t xt (.val (.slice none 0 0)) y m (hid K' h) :=
  ⟨e, j, z, k, src, hT, hs, .inr (.inl ⟨.inl rfl, hb, hk⟩)⟩
end
theorem range_intro {rd : Option Nat} {ps : Array Tmp} {asg body : Code} {Q : Exit → List AV → Mem → Prop} {x : Hid Q} {env : List AV} {m : Mem} {f : FuncId} {first caps : List AV} (hrd : ∀ n, rd = some n → ∃ st pend env ps asg body, m n = some (.loop st pend env ps asg body))
    (h : ∀ n, m n = none → C P f (first ++ [.yld n] ++ caps) (m.set n (.loop .ready none env ps asg body)) (fun _ m' => rangeK n env ps asg body Q m')) : rangeV P rd (.fn (.func f) first caps) ps asg body (hid Q x) env m := ⟨hrd, h⟩
def litK (o : Option (TypeId × Nat × List AV)) (len : Nat) (m : Mem) (K' : AV → Mem → Prop) : Prop :=
  ∃ e s cs, o = some (e, s, cs) ∧ cs.length = len * s ∧ (K' (.vs (chunk s len cs) true) m ∨ ∀ n, m n = none → K' (.sl n 0 len len) (m.set n (.cells false e cs)))
theorem opK_lit (t : TypeId) (len : Nat) (ps : Array (Nat × Operand)) (ev : Operand → AV) (m : Mem) (K' : AV → Mem → Prop) : opK P (.buildSlice t len ps) ev m K' = litK (litA P t len (ps.toList.map fun p => (p.1, ev p.2))) len m (hid K' .mk) := Eq.trans rfl rfl
theorem lit_vs {o : Option (TypeId × Nat × List AV)} {len : Nat} {m : Mem} {K' : AV → Mem → Prop} {x : Hid K'} {e : TypeId} {s : Nat} {cs : List AV} (h : o = some (e, s, cs)) (hl : cs.length = len * s) (hk : K' (.vs (chunk s len cs) true) m) : litK o len m (hid K' x) := ⟨e, s, cs, h, hl, .inl hk⟩
theorem lit_own {o : Option (TypeId × Nat × List AV)} {len : Nat} {m : Mem} {K' : AV → Mem → Prop} {x : Hid K'} {e : TypeId} {s : Nat} {cs : List AV} (h : o = some (e, s, cs)) (hl : cs.length = len * s) (hk : ∀ n, m n = none → K' (.sl n 0 len len) (m.set n (.cells false e cs))) : litK o len m (hid K' x) := ⟨e, s, cs, h, hl, .inr hk⟩
theorem chunk_one (s : Nat) (l : List AV) : chunk s 1 l = [l.take s] := rfl
theorem chunk_zero (s : Nat) (l : List AV) : chunk s 0 l = [] := rfl

/-! ### Results that are rows of the run's own -/
theorem C.of_O {f : FuncId} {args args' : List AV} {t : TypeId} {len : Nat} {cs : List AV} (h : O P f args t len cs) {m : Mem} (hseen : Seens m args' args) (hcs : ∀ c ∈ cs, ∃ v, c = .val v) {K' : AV → Mem → Prop}
    (hk : ∀ N, m N = none → K' (.sl N 0 len len) (m.set N (.cells true t cs))) : C P f args' m K' := by
  refine ⟨h.1, fun κ w cargs hs hr => ?_⟩
  obtain ⟨κ1, hle, hs1, hrho, hf⟩ := freezeAll hs
  have hr1 : Rels κ1 args cargs := ⟨hseen.1 ▸ hr.1, fun i a b => seen_rel hs hle hrho hf (hseen.2 i (hseen.1 ▸ a) a) ((hr.2 i (hseen.1 ▸ a) b).mono hle)⟩
  refine (h.2 κ1 w cargs hs1 hr1).mono ?_
  rintro e w' ⟨cv, r, m', κ2, rfl, ⟨n, rfl, hm'⟩, hst, hrel⟩
  have hheap : ∀ c, c < w.heap.size → w'.heap[c]? = w.heap[c]? := fun c hc => hst.frame c hc fun ⟨n, l, _, h, _⟩ => h rfl
  obtain ⟨N, hrN, hmN⟩ := hs.fresh
  have hbut : ∀ g, But w w' g := fun g => ⟨hst.size, fun c hc _ => hheap c hc, hst.os, hst.tape, hst.output⟩
  rcases hst.sim.blk n _ hm' with ⟨l, h1, h2, h3⟩ | ⟨h1, t', h2⟩
  · have hge : w.heap.size ≤ l.blk := by
      rcases Nat.lt_or_ge l.blk w.heap.size with hlt | hge
      · obtain ⟨n', l', _, h', _⟩ := hst.origin l.blk hlt ⟨n, l, h1, by rw [hm']; simp, rfl⟩
        exact absurd rfl h'
      · exact hge
    have hstep : Step P κ m w (κ.add N l) (m.set N (.cells true t cs)) w' := by
      refine Step.alloc hs hmN hrN hge (hst.sim.lt n l h1) (hbut _) _ ?_
      obtain ⟨arr, t', fz, z1, z2, z3, z4, z5, z6, z7⟩ := h2
      refine ⟨arr, t', fz, z1, z2, z3, z4, z5, z6, fun i hi => ?_⟩
      obtain ⟨cv', y1, y2⟩ := z7 i hi
      obtain ⟨v, hv⟩ := hcs _ (List.getElem_mem hi)
      rw [hv] at y2 ⊢
      obtain ⟨rfl, hp⟩ := y2.val_inv
      exact ⟨_, y1, .val hp⟩
    refine ⟨cv, _, _, _, rfl, hk N hmN, hstep, ?_⟩
    have hl : (κ.add N l).rho N = some (some l) := by simp [K.add]
    cases hrel with
    | snil => exact .snil
    | szero => exact .szero
    | @sl _ _ _ _ cap' c' o' l' q1 q2 q3 q4 =>
      rw [h1] at q1; cases q1
      exact .sl hl q2 q3 q4
  · cases h2
    refine ⟨cv, _, _, κ.ghost N, rfl, hk N hmN, (Step.quiet hs hbut).trans (Step.empty (Step.quiet hs hbut).sim hmN hrN t), ?_⟩
    cases hrel with
    | snil => exact .snil
    | szero => exact .szero
    | @sl _ _ _ _ cap' c' o' l' q1 q2 q3 q4 => rw [h1] at q1; cases q1
theorem call_O {f : FuncId} {args args' : List AV} {t : TypeId} {len : Nat} {cs : List AV} (h : O P f args t len cs) {m : Mem} (hseen : Seens m args' args) (hcs : ∀ c ∈ cs, ∃ v, c = .val v) {K' : AV → Mem → Prop} {x : Hid K'}
    (hk : ∀ N, m N = none → K' (.sl N 0 len len) (m.set N (.cells true t cs))) : CC P f args' m (hid K' x) := .inl (C.of_O h hseen hcs hk)
theorem vals_row {α : Type} (f : α → List AV) (hf : ∀ a, ∀ c ∈ f a, ∃ v, c = .val v) (l : List α) : ∀ c ∈ (l.map f).flatten, ∃ v, c = .val v := by
  intro c hc
  obtain ⟨e, he, hce⟩ := List.mem_flatten.1 hc
  obtain ⟨a, _, rfl⟩ := List.mem_map.1 he
  exact hf a c hce
/-! ### Rows of elements -/
theorem flatten_len {s : Nat} : ∀ {es : List (List AV)}, (∀ e ∈ es, e.length = s) → es.flatten.length = es.length * s
  | [], _ => by simp
  | e :: es, h => by
    rw [List.flatten_cons, List.length_append, h e (by simp), flatten_len (es := es) (fun x hx => h x (by simp [hx])), List.length_cons, Nat.add_mul]; omega
theorem flatten_get {s : Nat} : ∀ {es : List (List AV)}, (∀ e ∈ es, e.length = s) → ∀ i (hi : i < es.length) j (hj : j < es[i].length) (hk : i * s + j < es.flatten.length), es.flatten[i * s + j] = es[i][j]
  | e :: es, h, 0, hi, j, hj, hk => by
    simp only [Nat.zero_mul, Nat.zero_add, List.flatten_cons, List.getElem_cons_zero]
    exact List.getElem_append_left (by simpa using hj)
  | e :: es, h, i + 1, hi, j, hj, hk => by
    have hes : ∀ x ∈ es, x.length = s := fun x hx => h x (by simp [hx])
    have he : e.length = s := h e (by simp)
    have hi' : i < es.length := by simpa using hi
    have hjs : j < s := by rw [← hes _ (List.getElem_mem hi')]; simpa using hj
    have ha : (i + 1) * s + j = e.length + (i * s + j) := by rw [Nat.add_mul, he]; omega
    have hk' : i * s + j < es.flatten.length := by
      rw [flatten_len hes]
      have : (i + 1) * s ≤ es.length * s := Nat.mul_le_mul_right _ hi'
      rw [Nat.add_mul] at this; omega
    have := flatten_get hes i hi' j (by simpa using hj) hk'
    simp only [List.flatten_cons, List.getElem_cons_succ]
    rw [List.getElem_append_right (by omega)]
    simp only [ha, Nat.add_sub_cancel_left]
    exact this
theorem New.row {α : Type} (f : α → List AV) {s : Nat} (hf : ∀ a, (f a).length = s) (hfl : ∀ a, AV.flat.flats (f a) = true) (l : List α) {m : Mem} {n cap : Nat} {opn : Bool} {t : TypeId} (hm : m n = some (.cells opn t (l.map f).flatten)) :
    New m (.sl n 0 l.length cap) (.vs (l.map f) false) := by
  have hall : ∀ e ∈ l.map f, e.length = s := fun e he => by obtain ⟨a, _, rfl⟩ := List.mem_map.1 he; exact hf a
  refine New.sl (s := s) hm (by rw [flatten_len hall]; simp) (by simp) hall fun i hi j hj hk => ?_
  have hk' : i * s + j < (l.map f).flatten.length := by simpa using hk
  have := flatten_get hall i hi j hj hk'
  simp only [Nat.zero_add]
  rw [this]
  refine New.flats ?_ j hj
  obtain ⟨a, _, e⟩ := List.mem_map.1 (List.getElem_mem hi)
  rw [← e]; exact hfl a
theorem Seen.row {α : Type} (f : α → List AV) {s : Nat} (hf : ∀ a, (f a).length = s) (l : List α) {m : Mem} {n cap : Nat} {opn : Bool} {t : TypeId} (hm : m n = some (.cells opn t (l.map f).flatten)) :
    Seen m (.sl n 0 l.length cap) (.vs (l.map f) false) := by
  have hall : ∀ e ∈ l.map f, e.length = s := fun e he => by obtain ⟨a, _, rfl⟩ := List.mem_map.1 he; exact hf a
  refine Seen.sl (s := s) hm (by rw [flatten_len hall]; simp) (by simp) hall fun i hi j hj hk => ?_
  have hk' : i * s + j < (l.map f).flatten.length := by simpa using hk
  have := flatten_get hall i hi j hj hk'
  simp only [Nat.zero_add]
  rw [this]
  exact .same
theorem src_vs {α : Type} (f : α → List AV) {t e : TypeId} {i : TI} (hi : ti P t = some i) (hd : i.desc = .slice e) {s : Nat} (hf : ∀ a, (f a).length = s ∧ (f a).all AV.one = true) (m : Mem) (l : List α) (x : Bool) :
    srcA P m t s (.vs (l.map f) x) = some (l.length, (l.map f).flatten) := by
  simp only [srcA, hi, hd]
  rw [if_pos (fun e he => by obtain ⟨a, _, rfl⟩ := List.mem_map.1 he; exact hf a)]
  simp
/-- A pure contract out of one with a row of its own. -/
theorem F.of_O {α : Type} (g : α → List AV) {s : Nat} (hg : ∀ a, (g a).length = s) (hfl : ∀ a, AV.flat.flats (g a) = true) {f : FuncId} {args : List AV} {t : TypeId} {l : List α} (h : O P f args t l.length (l.map g).flatten) : F P f args (.vs (l.map g) false) :=
  F.of_C (C.mono h fun r m' ⟨n, e, hm⟩ => by
    subst e
    exact New.row g hg hfl l hm)
end Go.Abs
