/- The abstract layer, sixteenth part: rows of operations without what is not looked at; pure contracts. -/
import Derived.Test.YteilhoojlcpbpaaA15
set_option linter.unusedVariables false
set_option linter.unusedSimpArgs false
namespace Go.Abs
universe u
variable {P : Program}

structure Ln where
  op : Op
  dst : Option Nat
  g : Option (Option Nat × Bool)
def leanG (ops : Array Oper) : Option (Nat × Bool) → Option (Option Nat × Bool)
  | none => none
  | some (j, want) => some ((ops[j]?).bind (·.dst), want)
def lean (ops : Array Oper) : List Ln := ops.toList.map fun o => ⟨o.op, o.dst, leanG ops o.guard⟩

/-- When an operation is done. -/
def onK (env : List AV) (g : Option (Option Nat × Bool)) (yes no : Prop) : Prop :=
  match g with
  | none => yes
  | some (none, _) => no
  | some (some t, want) => match nth env t with
    | .val (.bool b) => if b = want then yes else no
    | .tup [] => no
    | _ => False
def stepsK (P : Program) (Q : List AV → Mem → Prop) : List Ln → List AV → Mem → Prop
  | [], env, m => Q env m
  | o :: rest, env, m => onK env o.g (opK P o.op (evA env) m fun v m' => stepsK P Q rest (put env o.dst v) m') (stepsK P Q rest (put env o.dst (.tup [])) m)
/-- What a quiet operation comes to, if it comes to something. -/
def gotK (o : Option AV) (K' : AV → Prop) : Prop := match o with | some r => K' r | none => False
def stepsQ (P : Program) (Q : List AV → Mem → Prop) : List Ln → List AV → Mem → Prop
  | [], env, m => Q env m
  | o :: rest, env, m => onK env o.g (gotK (quietA P m (evA env) o.op) fun v => stepsQ P Q rest (put env o.dst v) m) (stepsQ P Q rest (put env o.dst (.tup [])) m)

theorem onK_sound {ops : Array Oper} {env : List AV} {o : Oper} {yes no : Prop} (h : onK env (leanG ops o.guard) yes no) :
    match wantedA ops env o with | some true => yes | some false => no | none => False := by
  unfold onK leanG at h
  unfold wantedA
  cases hg : o.guard with
  | none => rw [hg] at h; exact h
  | some jw =>
    obtain ⟨j, want⟩ := jw
    rw [hg] at h
    simp only at h ⊢
    cases ht : (ops[j]?).bind (·.dst) with
    | none => rw [ht] at h; exact h
    | some t =>
      rw [ht] at h
      simp only at h ⊢
      generalize nth env t = v at h
      split at h
      · rename_i b
        by_cases e : b = want
        · subst e; simp only [beq_self_eq_true]; simpa using h
        · rw [if_neg e] at h
          have : (b == want) = false := by simpa using e
          simp only [this]; exact h
      · exact h
      · exact h.elim
theorem stepsK_sound {ops : Array Oper} {Q : List AV → Mem → Prop} : ∀ (l : List Oper) (env : List AV) (m : Mem), stepsK P Q (l.map fun o => ⟨o.op, o.dst, leanG ops o.guard⟩) env m → opsK P ops Q l env m
  | [], env, m, h => h
  | o :: l, env, m, h => by
    have := onK_sound (ops := ops) (o := o) h
    unfold opsK
    split
    · rename_i e; rw [e] at this
      simp only at this
      unfold opK at this ⊢
      split
      · rename_i r hr; rw [hr] at this; exact stepsK_sound l _ _ this
      · rename_i hr; rw [hr] at this; exact loud_mono this fun v m' => stepsK_sound l _ _
    · rename_i e; rw [e] at this; exact stepsK_sound l _ _ this
    · rename_i e; rw [e] at this; exact this
where
  loud_mono {op : Op} {ev : Operand → AV} {m : Mem} {K' K'' : AV → Mem → Prop} (h : loudK P op ev m K') (hk : ∀ r m', K' r m' → K'' r m') : loudK P op ev m K'' := by
    unfold loudK at h ⊢
    split at h
    case _ => obtain ⟨m', a, b⟩ := h; exact ⟨m', a, hk _ _ b⟩
    case _ => obtain ⟨m', a, b⟩ := h; exact ⟨m', a, fun n hn => hk _ _ (b n hn)⟩
    case _ => obtain ⟨m', a, b⟩ := h; exact ⟨m', a, fun n hn => hk _ _ (b n hn)⟩
    case _ => obtain ⟨e, s, cs, a, a', b⟩ := h; exact ⟨e, s, cs, a, a', b.imp (hk _ _) fun b n hn => hk _ _ (b n hn)⟩
    case _ => obtain ⟨e, a, b, cs, h1, h2⟩ := h; exact ⟨e, a, b, cs, h1, fun n hn => hk _ _ (h2 n hn)⟩
    case _ => exact fun n hn => hk _ _ (h n hn)
    case _ => exact ⟨h.1, fun b => hk _ _ (h.2 b)⟩
    case _ =>
      rcases h with ⟨b, a, c⟩ | ⟨r, m', a, c⟩
      · exact .inl ⟨b, a, hk _ _ c⟩
      · exact .inr ⟨r, m', a, hk _ _ c⟩
    case _ => exact CW.mono h hk
    case _ =>
      split at h
      case _ h1 h2 =>
        obtain ⟨e, j, z, k, src, hT, hsrc, h⟩ := h
        refine ⟨e, j, z, k, src, hT, hsrc, ?_⟩
        rcases h with ⟨n, off, len, bt, cs, a, b, c, d, e', f⟩ | ⟨a, b, c⟩ | ⟨es, a, b, c, d, f⟩ | ⟨n, off, len, cap, opn, bt, cs, a, b, c, d, f⟩ | ⟨n, off, len, cap, bt, cs, a, b, c, d, e', f⟩
        · exact .inl ⟨n, off, len, bt, cs, a, b, c, d, e', fun N hN => hk _ _ (f N hN)⟩
        · exact .inr (.inl ⟨a, b, fun N hN => hk _ _ (c N hN)⟩)
        · exact .inr (.inr (.inl ⟨es, a, b, c, d, fun N hN => hk _ _ (f N hN)⟩))
        · exact .inr (.inr (.inr (.inl ⟨n, off, len, cap, opn, bt, cs, a, b, c, d, hk _ _ f⟩)))
        · exact .inr (.inr (.inr (.inr ⟨n, off, len, cap, bt, cs, a, b, c, d, e', fun N hN => hk _ _ (f N hN)⟩)))
      · exact h.elim
    case _ =>
      split at h
      · obtain ⟨k, m', a, b⟩ := h; exact ⟨k, m', a, hk _ _ b⟩
      · exact h.elim
    case _ =>
      split at h
      · obtain ⟨r, a, b⟩ := h; exact ⟨r, a, hk _ _ b⟩
      · exact h.elim
    case _ => exact h.elim
theorem stepsQ_sound {ops : Array Oper} {Q : List AV → Mem → Prop} : ∀ (l : List Oper) (env : List AV) (m : Mem), stepsQ P Q (l.map fun o => ⟨o.op, o.dst, leanG ops o.guard⟩) env m → opsQ P ops Q l env m
  | [], env, m, h => h
  | o :: l, env, m, h => by
    have := onK_sound (ops := ops) (o := o) h
    unfold opsQ
    split
    · rename_i e; rw [e] at this
      replace this : gotK (quietA P m (evA env) o.op) _ := this
      split
      · rename_i r hr; rw [hr] at this; exact stepsQ_sound l _ _ this
      · rename_i hr; rw [hr] at this; exact this
    · rename_i e; rw [e] at this; exact stepsQ_sound l _ _ this
    · rename_i e; rw [e] at this; exact this

section
variable {rd : Option Nat} {Q : Exit → List AV → Mem → Prop} {env : List AV} {m : Mem}
theorem W.ops {id : Nat} {ops : Array Oper} {l : List Ln} (hl : lean ops = l) (h : stepsK P (Q .normal) l env m) : W P rd (.region id ops false) Q env m :=
  W.region (stepsK_sound ops.toList env m (by rw [← hl] at h; exact h))
theorem W.any {id : Nat} {ops : Array Oper} {l : List Ln} (hl : lean ops = l) (hm : P.follows .mixedOrders = true) (hB : Region.lexB .any ops = true) (hd : ops.all (fun o => match o.op with | .defer _ => false | _ => true) = true)
    (h : stepsQ P (Q .normal) l env m) : W P rd (.region id ops true) Q env m :=
  W.draws hm hB hd (stepsQ_sound ops.toList env m (by rw [← hl] at h; exact h))
end
theorem onK_none (env : List AV) (yes no : Prop) : onK env none yes no = yes := Eq.trans rfl rfl
/-- What is behind here is not rewritten in (what hangs on it stands still). -/
inductive Hid {α : Sort u} (a : α) : Type where
  | mk : Hid a
def hid {α : Sort u} (a : α) (_ : Hid a) : α := a
def ifK (c : Bool) (a b : Prop) : Prop := if c = true then a else b
def wantB (want b : Bool) : Bool := if want then b else !b
theorem wantB_true (b : Bool) : wantB true b = b := rfl
theorem wantB_false (b : Bool) : wantB false b = !b := rfl
def onB (v : AV) (want : Bool) (yes no : Prop) : Prop := match v with
    | .val (.bool b) => ifK (wantB want b) yes no
    | .tup [] => no
    | _ => False
theorem onK_some' (env : List AV) (t : Nat) (want : Bool) (yes no : Prop) : onK env (some (some t, want)) yes no = (match nth env t with
    | .val (.bool b) => if b = want then yes else no
    | .tup [] => no
    | _ => False) := Eq.trans rfl rfl
theorem onK_some (env : List AV) (t : Nat) (want : Bool) (yes no : Prop) : onK env (some (some t, want)) yes no = onB (nth env t) want (hid yes .mk) (hid no .mk) := by
  rw [onK_some']; unfold onB ifK wantB hid
  split <;> try rfl
  rename_i b _
  cases b <;> cases want <;> rfl
theorem onB_bool (b want : Bool) (yes no : Prop) (h : Hid yes) (h' : Hid no) : onB (.val (.bool b)) want (hid yes h) (hid no h') = ifK (wantB want b) (hid yes .mk) (hid no .mk) := Eq.trans rfl rfl
theorem onB_off (want : Bool) (yes no : Prop) (h' : Hid no) : onB (.tup []) want yes (hid no h') = no := Eq.trans rfl rfl
theorem ifK_true (a b : Prop) (h : Hid a) : ifK true (hid a h) b = a := if_pos rfl
theorem ifK_false (a b : Prop) (h : Hid b) : ifK false a (hid b h) = b := if_neg (by simp)
theorem ifK_intro {c : Bool} {a b : Prop} {h : Hid a} {h' : Hid b} (ha : c = true → a) (hb : c = false → b) : ifK c (hid a h) (hid b h') := by
  unfold ifK; split
  · exact ha ‹_›
  · exact hb (Bool.eq_false_iff.2 ‹_›)
def allK (m : Mem) (f : Nat → Prop) : Prop := ∀ n, m n = none → f n
theorem allK_intro {m : Mem} {f : Nat → Prop} {x : Hid f} (h : ∀ n, m n = none → f n) : allK m (hid f x) := h
theorem stepsK_nil (Q : List AV → Mem → Prop) (env : List AV) (m : Mem) : stepsK P Q [] env m = Q env m := Eq.trans rfl rfl
/-- Temporaries and memory are rewritten ahead of what follows. -/
def seeE (env : List AV) (m : Mem) (K' : List AV → Mem → Prop) : Prop := K' env m
theorem seeE_go (env : List AV) (m : Mem) (K' : List AV → Mem → Prop) (h : Hid K') : seeE env m (hid K' h) = K' env m := Eq.trans rfl rfl
theorem stepsK_cons (Q : List AV → Mem → Prop) (op : Op) (dst : Option Nat) (g : Option (Option Nat × Bool)) (rest : List Ln) (env : List AV) (m : Mem) :
    stepsK P Q (⟨op, dst, g⟩ :: rest) env m = onK env g (opK P op (evA env) m fun v m' => seeE (put env dst v) m' (hid (fun env m => stepsK P Q rest env m) .mk)) (seeE (put env dst (.tup [])) m (hid (fun env m => stepsK P Q rest env m) .mk)) := Eq.trans rfl rfl
theorem stepsQ_nil (Q : List AV → Mem → Prop) (env : List AV) (m : Mem) : stepsQ P Q [] env m = Q env m := rfl
theorem stepsQ_cons (Q : List AV → Mem → Prop) (op : Op) (dst : Option Nat) (g : Option (Option Nat × Bool)) (rest : List Ln) (env : List AV) (m : Mem) :
    stepsQ P Q (⟨op, dst, g⟩ :: rest) env m = onK env g (gotK (quietA P m (evA env) op) fun v => stepsQ P Q rest (put env dst v) m) (stepsQ P Q rest (put env dst (.tup [])) m) := rfl

/-- Values without blocks. -/
def AV.flat : AV → Bool
  | .val _ => true
  | .agg cs => flats cs
  | .tup cs => flats cs
  | _ => false
where flats : List AV → Bool
  | [] => true
  | x :: l => AV.flat x && flats l
theorem AV.flats_get : ∀ {l : List AV}, AV.flat.flats l = true → ∀ i (h : i < l.length), l[i].flat = true
  | x :: l, h, i, hi => by
    simp only [AV.flat.flats, Bool.and_eq_true] at h
    cases i with
    | zero => exact h.1
    | succ i => simpa using AV.flats_get h.2 i (by simpa using hi)
mutual
theorem New.flat {m : Mem} : ∀ {x : AV}, x.flat = true → New m x x
  | .val _, _ => .val
  | .agg cs, h => .agg rfl fun i a b => New.flats h i a
  | .tup cs, h => .tup rfl fun i a b => New.flats h i a
  | .vs _ _, h | .vp _ _, h | .ptr _ _, h | .sl _ _ _ _, h | .fn _ _ _, h | .yld _, h | .ifc _ _, h | .map _, h | .junk, h => by simp [AV.flat] at h
theorem New.flats {m : Mem} : ∀ {l : List AV}, AV.flat.flats l = true → ∀ i (h : i < l.length), New m l[i] l[i]
  | x :: l, h, 0, hi => by simp only [AV.flat.flats, Bool.and_eq_true] at h; exact New.flat h.1
  | x :: l, h, i + 1, hi => by simp only [AV.flat.flats, Bool.and_eq_true] at h; exact New.flats h.2 i (by simpa using hi)
end
/-- The way a body that keeps no memory is shown to be a pure contract. -/
theorem F.of_W {f : FuncId} {fn : Func} {c : Code} {args : List AV} {R : AV} (hf : P.funcs[f]? = some fn) (hb : fn.body = some c) (hnm : (fn.name == "runtime.NumGoroutine") = false)
    (h : W P none c (fun e env' m' => (match e with | .normal | .ret => True | _ => False) ∧ ∃ r, resA P fn env' m' = some r ∧ New m' r R) (args ++ List.replicate (fn.ntmps - args.length) (.tup [])) nomem) : F P f args R :=
  F.of_C (C.of_W hf hb hnm h)
theorem fresh_set (m : Mem) (n k : Nat) (b : Blk) : (m.set n b k = none) = (k ≠ n ∧ n ≠ k ∧ m k = none) := by
  rw [Mem.set_none]; simp only [eq_iff_iff]; constructor
  · exact fun ⟨a, b⟩ => ⟨a, Ne.symm a, b⟩
  · exact fun ⟨a, _, b⟩ => ⟨a, b⟩
theorem Mem.set_at (m : Mem) (n k : Nat) (b : Blk) : m.set n b k = if k = n then some b else m k := rfl
end Go.Abs
