/- The abstract layer, seventeenth part: each operation as an equation, to be rewritten with. -/
import Derived.Test.YteilhoojlcpbpaaA16
set_option linter.unusedVariables false
set_option linter.unusedSimpArgs false
namespace Go.Abs
variable {P : Program} {ev : Operand → AV} {m : Mem} {K' : AV → Mem → Prop}

def got {α : Type} (o : Option α) (K : α → Prop) : Prop := match o with | some r => K r | none => False
theorem got_some {α : Type} (a : α) (K : α → Prop) (h : Hid K) : got (some a) (hid K h) = K a := Eq.trans rfl rfl
theorem gotK_got (o : Option AV) (K : AV → Prop) : gotK o K = got o K := by cases o <;> rfl
theorem got_ex {α : Type} (o : Option α) (K : α → Prop) : (∃ a, o = some a ∧ K a) = got o K := by
  cases o <;> simp [got]

theorem opK_move (x : Operand) : opK P (.move x) ev m K' = K' (ev x) m := Eq.trans rfl rfl
theorem opK_assign (x : Operand) : opK P (.assign x) ev m K' = K' (ev x) m := Eq.trans rfl rfl
def pickA (c a b : AV) : Option AV := match c with | .val (.bool t) => some (if t then a else b) | _ => none
theorem pickA_bool (t : Bool) (a b : AV) : pickA (.val (.bool t)) a b = some (if t then a else b) := rfl
theorem quiet_opK {op : Op} {o : Option AV} (h : quietA P m ev op = o) (hl : loudK P op ev m K' = False) : opK P op ev m K' = got o (hid (fun r => K' r m) .mk) := by
  unfold opK hid
  rw [h]
  cases o with
  | none => exact hl
  | some r => rfl
theorem opK_pick (c a b : Operand) : opK P (.pick c a b) ev m K' = got (pickA (ev c) (ev a) (ev b)) (hid (fun r => K' r m) .mk) := quiet_opK rfl rfl
theorem opK_load (t : TypeId) (a : Operand) : opK P (.load t a) ev m K' = got (loadA P m t (ev a)) (hid (fun r => K' r m) .mk) := quiet_opK rfl rfl
theorem opK_nilCheck (x : Operand) : opK P (.nilCheck x) ev m K' = got (nilCheckA (ev x)) (hid (fun r => K' r m) .mk) := quiet_opK rfl rfl
def binK (P : Program) (op : BinOp) (t : TypeId) (x y : AV) (o : Option AV) (K : AV → Prop) : Prop := match o with | some r => K r | none => nilAny P op t x y ∧ ∀ b, K (.val (.bool b))
theorem binK_some (op : BinOp) (t : TypeId) (x y a : AV) (K : AV → Prop) (h : Hid K) : binK P op t x y (some a) (hid K h) = K a := Eq.trans rfl rfl
theorem opK_bin (op : BinOp) (t : TypeId) (x y : Operand) (u : TypeId) : opK P (.binOp op t x y u) ev m K' = binK P op t (ev x) (ev y) (cmpA P t op (ev x) (ev y)) (hid (fun r => K' r m) .mk) := by
  unfold binK
  cases h : cmpA P t op (ev x) (ev y) with
  | some r => simp only [opK, quietA, h, hid]
  | none => simp only [opK, quietA, h, loudK, hid]
/-- Is a slice nil? Either may be. -/
theorem nil_any {op : BinOp} {t e : TypeId} {i : TI} {x : AV} {K : AV → Prop} {h : Hid K} (hi : ti P t = some i) (hd : i.desc = .slice e) (hop : op = .eql ∨ op = .neq) (hx : (∃ es ex, x = .vs es ex) ∨ ∃ n off len cap, x = .sl n off len cap) (hk : ∀ b, K (.val (.bool b))) :
    binK P op t x (.val (.slice none 0 0)) (cmpA P t op x (.val (.slice none 0 0))) (hid K h) := by
  unfold binK hid
  cases hc : cmpA P t op x (.val (.slice none 0 0)) with
  | none => exact ⟨⟨hop, ⟨i, e, hi, hd⟩, rfl, hx⟩, hk⟩
  | some r =>
    have : ∃ b, r = .val (.bool b) := by
      unfold cmpA at hc
      rw [hi] at hc
      have hb : binA i.desc op x (.val (.slice none 0 0)) = none ∨ ∃ b, binA i.desc op x (.val (.slice none 0 0)) = some (.val (.bool b)) := by
        rcases hx with ⟨es, ex, rfl⟩ | ⟨n, off, len, cap, rfl⟩ <;> rw [hd] <;> exact .inl rfl
      rcases hb with hb | ⟨b, hb⟩
      · simp only [hb] at hc
        rcases hop with rfl | rfl
        · simp only at hc
          split at hc
          · cases hc; exact ⟨_, rfl⟩
          · rcases hx with ⟨es, ex, rfl⟩ | ⟨n, off, len, cap, rfl⟩ <;> cases hc
        · simp only at hc
          split at hc
          · cases hc; exact ⟨_, rfl⟩
          · rcases hx with ⟨es, ex, rfl⟩ | ⟨n, off, len, cap, rfl⟩ <;> cases hc
      · simp only [hb] at hc; cases hc; exact ⟨_, rfl⟩
    obtain ⟨b, rfl⟩ := this
    exact hk b
theorem opK_un (op : UnOp) (t : TypeId) (x : Operand) : opK P (.unOp op t x) ev m K' = got (unA op (ev x)) (hid (fun r => K' r m) .mk) := quiet_opK rfl rfl
def convK (P : Program) (m : Mem) (s d : TypeId) (x : AV) (o : Option AV) (K : AV → Mem → Prop) : Prop := match o with | some r => K r m | none => (∃ b, textB P s d x = some b ∧ K (.vs (bytesE b) false) m) ∨ ∃ r m', markA P m s d x = some (r, m') ∧ K r m'
theorem convK_some (s d : TypeId) (x a : AV) (K : AV → Mem → Prop) (h : Hid K) : convK P m s d x (some a) (hid K h) = K a m := Eq.trans rfl rfl
theorem conv_text {s d : TypeId} {x : AV} {K : AV → Mem → Prop} {h : Hid K} {b : ByteArray} (hb : textB P s d x = some b) (hk : K (.vs (bytesE b) false) m) : convK P m s d x none (hid K h) := .inl ⟨b, hb, hk⟩
theorem conv_mark {s d : TypeId} {x : AV} {K : AV → Mem → Prop} {h : Hid K} {r : AV} {m' : Mem} (hb : markA P m s d x = some (r, m')) (hk : K r m') : convK P m s d x none (hid K h) := .inr ⟨r, m', hb, hk⟩
theorem opK_convert (s d : TypeId) (x : Operand) : opK P (.convert s d x) ev m K' = convK P m s d (ev x) (convA P m s d (ev x)) (hid K' .mk) := by
  unfold convK
  cases h : convA P m s d (ev x) with
  | some r => simp only [opK, quietA, h, hid]
  | none => simp only [opK, quietA, h, loudK, hid]
theorem opK_arrPtr (t : TypeId) (x : Operand) : opK P (.sliceToArrayPointer t x) ev m K' = got (arrPtrA P t (ev x)) (hid (fun r => K' r m) .mk) := quiet_opK rfl rfl
theorem opK_iface (t : TypeId) (x : Operand) : opK P (.makeInterface t x) ev m K' = got (ifaceA P t (ev x)) (hid (fun r => K' r m) .mk) := quiet_opK rfl rfl
theorem opK_fn (f : Fn) (a b : Array Operand) : opK P (.makeFunc f a b) ev m K' = got (mkFnA ev f a b) (hid (fun r => K' r m) .mk) := quiet_opK rfl rfl
theorem opK_slice (t : TypeId) (x : Operand) (lo hi mx : Option Operand) : opK P (.slice t x lo hi mx) ev m K' = got (sliceA P m t (ev x) (lo.map ev) (hi.map ev) (mx.map ev)) (hid (fun r => K' r m) .mk) := quiet_opK rfl rfl
theorem opK_fieldAddr (s : TypeId) (x : Operand) (f : Nat) : opK P (.fieldAddr s x f) ev m K' = got (fieldAddrA P s f (ev x)) (hid (fun r => K' r m) .mk) := quiet_opK rfl rfl
theorem opK_field (t : TypeId) (x : Operand) (f : Nat) : opK P (.field t x f) ev m K' = got (fieldA P t (ev x) f) (hid (fun r => K' r m) .mk) := quiet_opK rfl rfl
theorem opK_indexAddr (t : TypeId) (x ix : Operand) : opK P (.indexAddr t x ix) ev m K' = got (indexAddrA P t (ev x) (ev ix)) (hid (fun r => K' r m) .mk) := quiet_opK rfl rfl
theorem opK_index (t : TypeId) (x ix : Operand) : opK P (.index t x ix) ev m K' = got (indexA P t (ev x) (ev ix)) (hid (fun r => K' r m) .mk) := quiet_opK rfl rfl
theorem opK_build (t : TypeId) (ps : Array (Nat × Operand)) : opK P (.build t ps) ev m K' = got (buildA P t (ps.toList.map fun p => (p.1, ev p.2))) (hid (fun r => K' r m) .mk) := quiet_opK rfl rfl
theorem opK_extract (x : Operand) (i : Nat) : opK P (.extract x i) ev m K' = got (extractA i (ev x)) (hid (fun r => K' r m) .mk) := quiet_opK rfl rfl
theorem opK_len (x : Operand) (t : TypeId) : opK P (.call { callee := .builtin .len, args := #[x], argTypes := #[t] }) ev m K' = got (lenA P m t (ev x)) (hid (fun r => K' r m) .mk) := quiet_opK rfl rfl
theorem opK_min (args : Array Operand) (ts : Array TypeId) : opK P (.call { callee := .builtin .min, args := args, argTypes := ts }) ev m K' = got (mmA false (args.toList.map ev)) (hid (fun r => K' r m) .mk) := quiet_opK rfl rfl
theorem opK_max (args : Array Operand) (ts : Array TypeId) : opK P (.call { callee := .builtin .max, args := args, argTypes := ts }) ev m K' = got (mmA true (args.toList.map ev)) (hid (fun r => K' r m) .mk) := quiet_opK rfl rfl

theorem opK_store (t : TypeId) (a x : Operand) : opK P (.store t a x) ev m K' = got (storeA P m t (ev a) (ev x)) (hid (fun m' => K' (.tup []) m') .mk) := got_ex _ _
theorem opK_alloc (t : TypeId) : opK P (.alloc t) ev m K' = got (zeroA P t) (hid (fun cs => allK m (hid (fun n => K' (.ptr n 0) (m.set n (.cells false t cs))) .mk)) .mk) := got_ex _ _
theorem opK_box (t : TypeId) (x : Operand) : opK P (.box t x) ev m K' = got (ev x).cells (hid (fun cs => allK m (hid (fun n => K' (.ptr n 0) (m.set n (.cells false t cs))) .mk)) .mk) := got_ex _ _
theorem opK_call (f : Operand) (args : Array Operand) (ts : Array TypeId) : opK P (.call { callee := .value f, args := args, argTypes := ts }) ev m K' = CW P (ev f) (args.toList.map ev) m (hid K' .mk) := Eq.trans rfl rfl
theorem opK_makeSlice (t : TypeId) (l c : Operand) : opK P (.makeSlice t l c) ev m K' = got (mkSliceA P t (ev l) (ev c)) (hid (fun r => allK m (hid (fun n => K' (.sl n 0 r.2.1 r.2.2.1) (m.set n (.cells false r.1 r.2.2.2))) .mk)) .mk) := by
  show (∃ e a b cs, mkSliceA P t (ev l) (ev c) = some (e, a, b, cs) ∧ _) = _
  cases h : mkSliceA P t (ev l) (ev c) with
  | none => simp [got, hid]
  | some r =>
    obtain ⟨e, a, b, cs⟩ := r
    refine propext ⟨?_, fun h => ⟨e, a, b, cs, rfl, h⟩⟩
    rintro ⟨_, _, _, _, h1, h2⟩
    cases h1
    exact h2
theorem opK_append (s x : Operand) (t xt : TypeId) : opK P (.call { callee := .builtin .append, args := #[s, x], argTypes := #[t, xt] }) ev m K' = AppK P t xt (ev s) (ev x) m (hid K' .mk) := Eq.trans rfl rfl
theorem CW_func (g : FuncId) (first caps args : List AV) : CW P (.fn (.func g) first caps) args m K' = CC P g (first ++ args ++ caps) m K' := Eq.trans rfl rfl
theorem CW_yld (n : Nat) (args : List AV) : CW P (.yld n) args m K' = Y P n args m K' := Eq.trans rfl rfl
theorem opK_copy (d x : Operand) (t xt : TypeId) : opK P (.call { callee := .builtin .copy, args := #[d, x], argTypes := #[t, xt] }) ev m K' = got (copyA P m t xt (ev d) (ev x)) (hid (fun r => K' (.val (.int .i64 r.1)) r.2) .mk) := by
  show (∃ k m', copyA P m t xt (ev d) (ev x) = some (k, m') ∧ K' (.val (.int .i64 k)) m') = _
  cases h : copyA P m t xt (ev d) (ev x) with
  | none => simp [got, hid]
  | some r =>
    obtain ⟨k, m'⟩ := r
    refine propext ⟨?_, fun h => ⟨k, m', rfl, h⟩⟩
    rintro ⟨_, _, h1, h2⟩
    cases h1
    exact h2
theorem opK_cap (x : Operand) (t : TypeId) : opK P (.call { callee := .builtin .cap, args := #[x], argTypes := #[t] }) ev m K' = got (capA P m t (ev x)) (hid (fun r => K' r m) .mk) := got_ex _ _

theorem moveA_ptr (k n off : Nat) : moveA k (.ptr n off) = some (.ptr n (off + k)) := rfl
theorem moveA_vp (k : Nat) (cs : List AV) (off : Nat) : moveA k (.vp cs off) = some (.vp cs (off + k)) := rfl
theorem extractA_tup (i : Nat) (vs : List AV) : extractA i (.tup vs) = vs[i]? := rfl
theorem evA_tmp (env : List AV) (t : Nat) : evA env (.tmp t) = nth env t := rfl
theorem evA_int (env : List AV) (k : IntKind) (x : Int) : evA env (.const (.int k x)) = .val (.int k x) := rfl
theorem evA_bool (env : List AV) (b : Bool) : evA env (.const (.bool b)) = .val (.bool b) := rfl
theorem evA_str (env : List AV) (s : ByteArray) : evA env (.const (.string s)) = .val (.string s) := rfl
theorem evA_nilS (env : List AV) : evA env (.const (.slice none 0 0)) = .val (.slice none 0 0) := rfl
theorem evA_nilP (env : List AV) : evA env (.const (.pointer none)) = .val (.pointer none) := rfl
theorem evA_nilI (env : List AV) : evA env (.const .nilIface) = .val .nilIface := rfl
theorem evA_nilF (env : List AV) : evA env (.const .nilFunc) = .val .nilFunc := rfl
theorem evA_func (env : List AV) (f : FuncId) : evA env (.func f) = .fn (.func f) [] [] := rfl

/-! Types told -/
theorem fieldAddrA_of {s : TypeId} {i : TI} {fs : Array Field} (hi : ti P s = some i) (hd : i.desc = .struct fs) (f k : Nat) {fd : Field} (hf : fs[f]? = some fd) {t : TypeId} {j : TI} (ht : fd.type = t) (hj : ti P t = some j) (h0 : (j.size == 0) = false) (hk : fd.offset = k) (x : AV) :
    fieldAddrA P s f x = moveA k x := by
  subst ht hk
  simp only [fieldAddrA, hi, hd, hf, hj, if_neg (ne_of_beq_false h0)]
def loadOne (m : Mem) (x : AV) : Option AV := match cellsAt m x with | some (cs, off) => cs[off]? | none => none
def loadAgg (m : Mem) (n : Nat) (x : AV) : Option AV := match cellsAt m x with | some (cs, off) => if off + n ≤ cs.length then some (.agg ((cs.drop off).take n)) else none | none => none
theorem loadA_one {t : TypeId} {i : TI} (hi : ti P t = some i) (hd : isAggD i.desc = false) (m : Mem) (x : AV) : loadA P m t x = loadOne m x := by
  simp only [loadA, hi, loadOne]
  cases cellsAt m x with
  | none => rfl
  | some p => obtain ⟨cs, off⟩ := p; simp [hd]
theorem loadA_agg {t : TypeId} {i : TI} (hi : ti P t = some i) (hd : isAggD i.desc = true) (h0 : Nat.ble 1 i.size = true) (m : Mem) (x : AV) : loadA P m t x = loadAgg m i.size x := by
  simp only [loadA, hi, loadAgg]
  cases cellsAt m x with
  | none => rfl
  | some p => obtain ⟨cs, off⟩ := p; simp [hd, show 0 < i.size from Nat.le_of_ble_eq_true h0]
theorem loadOne_ptr (m : Mem) (n off : Nat) : loadOne m (.ptr n off) = (match m n with | some (.cells _ _ cs) => cs[off]? | _ => none) := by
  unfold loadOne cellsAt
  cases h : m n with
  | none => simp [h]
  | some b => cases b <;> simp [h]
theorem loadOne_vp (m : Mem) (cs : List AV) (off : Nat) : loadOne m (.vp cs off) = cs[off]? := rfl
theorem loadAgg_ptr (m : Mem) (k n off : Nat) : loadAgg m k (.ptr n off) = (match m n with | some (.cells _ _ cs) => if off + k ≤ cs.length then some (.agg ((cs.drop off).take k)) else none | _ => none) := by
  unfold loadAgg cellsAt
  cases h : m n with
  | none => simp [h]
  | some b => cases b <;> simp [h]
theorem loadAgg_vp (m : Mem) (k : Nat) (cs : List AV) (off : Nat) : loadAgg m k (.vp cs off) = if off + k ≤ cs.length then some (.agg ((cs.drop off).take k)) else none := rfl
def storeN (m : Mem) (k n off : Nat) (v : AV) : Option Mem :=
  match m n, v.cells with
  | some (.cells opn bt cs), some vs => if vs.length = k ∧ off + vs.length ≤ cs.length ∧ 0 < vs.length then some (m.set n (.cells opn bt (setRange cs off vs))) else none
  | _, _ => none
theorem storeA_of {t : TypeId} {i : TI} (hi : ti P t = some i) (m : Mem) (n off : Nat) (v : AV) : storeA P m t (.ptr n off) v = storeN m i.size n off v := by
  unfold storeA storeN
  simp only
  cases m n with
  | none => rfl
  | some b => cases b with
    | cells opn bt cs => simp only [hi]; cases v.cells <;> rfl
    | _ => rfl
theorem cmpA_int {t : TypeId} {i : TI} (hi : ti P t = some i) (op : BinOp) (k k' : IntKind) (a b : Int) {r : AV} (h : intBin op k a k' b = some r) : cmpA P t op (.val (.int k a)) (.val (.int k' b)) = some r := by
  simp only [cmpA, hi, binA, h]
def onTi (i : Option TI) (o : Option AV) : Option AV := match i with | some _ => o | none => none
theorem onTi_some (i : TI) (o : Option AV) : onTi (some i) o = o := rfl
theorem cmpA_ii (t : TypeId) (op : BinOp) (k k' : IntKind) (a b : Int) : cmpA P t op (.val (.int k a)) (.val (.int k' b)) = onTi (ti P t) (intBin op k a k' b) := by
  unfold cmpA onTi
  cases ti P t with
  | none => rfl
  | some i =>
    simp only [binA]
    have hn : nilBin i.desc (.val (.int k a)) (.val (.int k' b)) = none := by cases i.desc <;> rfl
    cases intBin op k a k' b with
    | some r => rfl
    | none => cases op <;> simp only [hn]
theorem cmpA_ss (t : TypeId) (op : BinOp) (a b : ByteArray) : cmpA P t op (.val (.string a)) (.val (.string b)) = onTi (ti P t) (strBin op a b) := by
  unfold cmpA onTi
  cases ti P t with
  | none => rfl
  | some i =>
    simp only [binA]
    have hn : nilBin i.desc (.val (.string a)) (.val (.string b)) = none := by cases i.desc <;> rfl
    cases strBin op a b with
    | some r => rfl
    | none => cases op <;> simp only [hn]
def boolBin (i : Option TI) (op : BinOp) (a b : Bool) : Option AV := match i with
  | some i => match i.desc, op with
    | .bool, .eql => some (.val (.bool (a == b)))
    | .bool, .neq => some (.val (.bool !(a == b)))
    | _, _ => none
  | none => none
theorem cmpA_bb (t : TypeId) (op : BinOp) (a b : Bool) : cmpA P t op (.val (.bool a)) (.val (.bool b)) = boolBin (ti P t) op a b := by
  unfold cmpA boolBin
  cases ti P t with
  | none => rfl
  | some i =>
    simp only [binA]
    cases i.desc <;> cases op <;> rfl
theorem cells_val (v : Value) : (AV.val v).cells = some [.val v] := rfl
theorem cells_vs (es : List (List AV)) (x : Bool) : (AV.vs es x).cells = some [.vs es x] := rfl
theorem cells_vp (cs : List AV) (off : Nat) : (AV.vp cs off).cells = some [.vp cs off] := rfl
theorem cells_ptr (n off : Nat) : (AV.ptr n off).cells = some [.ptr n off] := rfl
theorem cells_sl (n off len cap : Nat) : (AV.sl n off len cap).cells = some [.sl n off len cap] := rfl
theorem cells_fn (f : Fn) (a b : List AV) : (AV.fn f a b).cells = some [.fn f a b] := rfl
theorem cells_yld (n : Nat) : (AV.yld n).cells = some [.yld n] := rfl
theorem cells_ifc (t : TypeId) (v : AV) : (AV.ifc t v).cells = some [.ifc t v] := rfl
theorem cells_map (n : Nat) : (AV.map n).cells = some [.map n] := rfl
theorem cells_agg (cs : List AV) : (AV.agg cs).cells = if cs.all AV.one then some cs else none := rfl
theorem seen_val (m : Mem) (xs : List AV) : Seens m xs xs := Seens.refl m xs
def pickB (c : Bool) (a b : AV) : AV := if c then a else b
def inB (n t : Nat) (v : AV) : AV := if t < n then v else .junk
theorem pickB_true (a b : AV) (h : Hid a) : pickB true (hid a h) b = a := Eq.trans rfl rfl
theorem pickB_false (a b : AV) (h : Hid b) : pickB false a (hid b h) = b := Eq.trans rfl rfl
theorem inB_lt (n t : Nat) (v : AV) (h : t < n) : inB n t v = v := if_pos h
theorem nth_upd (l : List AV) (t k : Nat) (v : AV) : nth (upd l t v) k = pickB (t == k) (hid (inB l.length t v) .mk) (hid (nth l k) .mk) := by
  simp only [nth_eq, upd_eq, pickB, inB, hid]
  by_cases h : t = k
  · subst h
    simp only [beq_self_eq_true, if_true]
    by_cases h' : t < l.length
    · simp [h']
    · simp [h']
  · have : (t == k) = false := by simpa using h
    simp only [this, Bool.false_eq_true, if_false, List.getElem?_set_ne h]
theorem upd_len (l : List AV) (t : Nat) (v : AV) : (upd l t v).length = l.length := by rw [upd_eq]; simp
theorem cast_succ (i : Nat) : ((i + 1 : Nat) : Int) = (i : Int) + 1 := rfl
theorem wrap_i64 (x : Int) (h : -9223372036854775808 ≤ x) (h' : x < 9223372036854775808) : IntKind.i64.wrap x = x := IntWalk.i64_in x (by omega)
theorem wrap_u64 (x : Int) (h : 0 ≤ x) (h' : x < 18446744073709551616) : IntKind.u64.wrap x = x := IntWalk.u64_in x (by omega)
theorem shr_half (k : IntKind) (hk : 1 ≤ k.bits) (x : Int) : x.fdiv (2 ^ min (Int.toNat 1) k.bits) = x / 2 := by
  have : min (Int.toNat 1) k.bits = 1 := by
    have : Int.toNat 1 = 1 := rfl
    omega
  rw [this, Int.pow_succ, Int.pow_zero, Int.one_mul, Int.fdiv_eq_ediv_of_nonneg x (by decide)]
theorem shr_half64 (x : Int) : x.fdiv (2 ^ min (Int.toNat 1) IntKind.u64.bits) = x / 2 := shr_half .u64 (by decide) x
/-- A part of a slice that is only read. -/
theorem index_vs {α : Type} [Inhabited α] (f : α → List AV) {t e : TypeId} {i j : TI} (ht : ti P t = some i) (hd : i.desc = .slice e) (he : ti P e = some j) (hf : ∀ a, (f a).length = j.size) (l : List α) (x : Bool) (kk : IntKind) (k : Int) (h0 : 0 ≤ k) (h1 : k < l.length) :
    indexAddrA P t (.vs (l.map f) x) (.val (.int kk k)) = some (.vp (f (l.getD k.toNat default)) 0) := by
  have hk : k.toNat < l.length := by omega
  simp only [indexAddrA, ht, hd, he, List.length_map]
  rw [dif_pos ⟨h0, by omega⟩]
  simp only [List.getElem_map, hf, if_true, List.getD_eq_getElem?_getD, List.getElem?_eq_getElem hk, Option.getD_some]
theorem len_vs {α : Type} (f : α → List AV) {t e : TypeId} {i : TI} (ht : ti P t = some i) (hd : i.desc = .slice e) (m : Mem) (l : List α) (x : Bool) : lenA P m t (.vs (l.map f) x) = some (.val (.int .i64 l.length)) := by
  simp only [lenA, ht, hd, List.length_map]
end Go.Abs
