/- The abstract layer, twenty-sixth part: rows of bytes; arrays; memory apart. -/
import Derived.Test.YteilhoojlcpbpaaA25
import Derived.Test.YteilhoojlcpbpaaA21
set_option linter.unusedVariables false
set_option linter.unusedSimpArgs false
namespace Go.Abs
variable {P : Program}

/-! ### Bytes -/
theorem byteC_len (b : UInt8) : (byteC b).length = 1 := rfl
theorem byteC_flat (b : UInt8) : AV.flat.flats (byteC b) = true := rfl
theorem byteC_vals (b : UInt8) : ∀ c ∈ byteC b, ∃ v, c = .val v := fun c hc => by
  simp only [byteC, List.mem_singleton] at hc; exact ⟨_, hc⟩
theorem bytesE_def (b : ByteArray) : bytesE b = b.data.toList.map byteC := rfl
theorem mapM_byteE : ∀ (l : List UInt8), (l.map byteC).mapM byteOfE = some (l.map fun b => (b.toNat : Int))
  | [] => rfl
  | b :: l => by simp only [List.map_cons, List.mapM_cons, mapM_byteE l]; rfl
theorem mapM_byteA : ∀ (l : List UInt8), (l.map byteC).flatten.mapM byteOfA = some (l.map fun b => (b.toNat : Int))
  | [] => rfl
  | b :: l => by
    have : ((b :: l).map byteC).flatten = .val (.int .u8 b.toNat) :: (l.map byteC).flatten := rfl
    rw [this, List.mapM_cons, mapM_byteA l]; rfl
theorem str_nums (l : List UInt8) : strOfNums (l.map fun b => (b.toNat : Int)) = ⟨l.toArray⟩ := by
  unfold strOfNums
  congr 2
  rw [List.map_map]
  conv => rhs; rw [← List.map_id l]
  refine List.map_congr_left fun b _ => ?_
  simp
theorem conv_vs {s d e : TypeId} {i j q : TI} (hi : ti P s = some i) (hd : i.desc = .slice e) (hj : ti P d = some j) (hjd : j.desc = .string) (hq : ti P e = some q) (hqd : q.desc = .int .u8) (m : Mem) (l : List UInt8) (x : Bool) :
    convA P m s d (.vs (l.map byteC) x) = some (.val (.string ⟨l.toArray⟩)) := by
  simp only [convA, hi, hj, hjd, hd, hq, hqd, mapM_byteE, str_nums]
theorem conv_own {s d e : TypeId} {i j q : TI} (hi : ti P s = some i) (hd : i.desc = .slice e) (hj : ti P d = some j) (hjd : j.desc = .string) (hq : ti P e = some q) (hqd : q.desc = .int .u8) {m : Mem} {n off len cap : Nat} {opn : Bool} {t : TypeId} {cs : List AV} (hm : m n = some (.cells opn t cs))
    (l : List UInt8) (hl : (cs.drop off).take len = (l.map byteC).flatten) (hlen : off + len ≤ cs.length) : convA P m s d (.sl n off len cap) = some (.val (.string ⟨l.toArray⟩)) := by
  simp only [convA, hi, hj, hjd, hd, hq, hqd, hm, hl, mapM_byteA, str_nums]
  rw [if_pos hlen]
theorem conv_nilB {s d e : TypeId} {i j q : TI} (hi : ti P s = some i) (hd : i.desc = .slice e) (hj : ti P d = some j) (hjd : j.desc = .string) (hq : ti P e = some q) (hqd : q.desc = .int .u8) (m : Mem) (x : Bool) :
    convA P m s d (.vs [] x) = some (.val (.string ⟨#[]⟩)) := conv_vs hi hd hj hjd hq hqd m [] x
theorem single_bytes : ∀ (l : List UInt8), (l.map byteC).flatten.map (fun c => [c]) = l.map byteC
  | [] => rfl
  | b :: l => by
    have : ((b :: l).map byteC).flatten = .val (.int .u8 b.toNat) :: (l.map byteC).flatten := rfl
    rw [this, List.map_cons, single_bytes l]; rfl
theorem mark_bytes {s e : TypeId} {i q : TI} (hi : ti P s = some i) (hd : i.desc = .slice e) (hq : ti P e = some q) (hqd : q.desc = .int .u8) (hc : P.cellsOf e = 1) {m : Mem} {n cap : Nat} {bt : TypeId} (l : List UInt8) (hm : m n = some (.cells false bt (l.map byteC).flatten)) (h0 : 0 < l.length) :
    markA P m s s (.sl n 0 l.length cap) = some (.vs (l.map byteC) false, m.del n) := by
  have hl : (l.map byteC).flatten.length = l.length := by
    rw [← List.length_map (f := fun c => [c]), single_bytes, List.length_map]
  simp only [markA, if_true, hi, hd, hm, hq, hqd, hc]
  rw [if_pos ⟨by omega, h0, trivial⟩, List.drop_zero, ← hl, List.take_length, single_bytes]
theorem flatten_one : ∀ (l : List UInt8), (l.map byteC).flatten.length = l.length
  | [] => rfl
  | b :: l => by
    have : ((b :: l).map byteC).flatten = .val (.int .u8 b.toNat) :: (l.map byteC).flatten := rfl
    rw [this, List.length_cons, flatten_one l]; rfl
theorem arrPtr_vs {t e : TypeId} {i : TI} {n : Nat} (hi : ti P t = some i) (hd : i.desc = .array n e) (h0 : 0 < n) (l : List UInt8) (x : Bool) (h : n ≤ l.length) :
    arrPtrA P t (.vs (l.map byteC) x) = some (.vp ((l.take n).map byteC).flatten 0) := by
  simp only [arrPtrA, hi, hd]
  rw [if_pos ⟨h0, by simpa using h, fun e he => by obtain ⟨y, _, rfl⟩ := List.mem_map.1 he; rfl⟩, List.map_take]
theorem arrPtr_own {t e : TypeId} {i : TI} {n : Nat} (hi : ti P t = some i) (hd : i.desc = .array n e) (h0 : 0 < n) (nm off len cap : Nat) (h : n ≤ len) : arrPtrA P t (.sl nm off len cap) = some (.ptr nm off) := by
  simp only [arrPtrA, hi, hd]
  rw [if_pos ⟨h0, h⟩]
theorem slice_arr {t e : TypeId} {i j : TI} {len : Nat} (hi : ti P t = some i) (hd : i.desc = .array len e) (hj : ti P e = some j) (m : Mem) (n off : Nat) : sliceA P m t (.ptr n off) none none none = some (.sl n off len len) := by
  simp only [sliceA, hi, hd, hj, bnd_none len len (Nat.le_refl _), Nat.zero_mul, Nat.add_zero, Nat.sub_zero]

/-- A slice of bytes that is told. -/
theorem byte_of {P : Program} {t : TypeId} {i : TI} (ht : ti P t = some i) (hd : i.desc = .int .u8) {x : List AV} (h : Shaped P t x) (hl : x.length = 1) : ∃ b : UInt8, x = byteC b ∧ True := by
  match x, hl with
  | [c], _ =>
    obtain ⟨v, rfl, h0, h1⟩ := h.u8 ht hd
    refine ⟨UInt8.ofNat v.toNat, ?_, trivial⟩
    unfold byteC
    have : ((UInt8.ofNat v.toNat).toNat : Int) = v := by rw [UInt8.toNat_ofNat']; omega
    rw [this]
theorem Shaped.bytes {P : Program} {t e : TypeId} {c : AV} {i j : TI} (ht : ti P t = some i) (hd : i.desc = .slice e) (he : ti P e = some j) (hj : j.desc = .int .u8) (hs : j.size = 1) (hb : j.bytes = 1) (h : Shaped P t [c]) :
    ∃ l : List UInt8, c = .vs (l.map byteC) false ∧ l.length ≤ 140737488351232 := by
  obtain ⟨l, e1, e2, _, _⟩ := Shaped.rows byteC (fun _ => True) ht hd he (by rw [hs]; rfl) (fun x hx hl => byte_of he hj hx (hl.trans hs)) h
  exact ⟨l, e1, by rw [hb] at e2; omega⟩
theorem mm_min0 (k k' : IntKind) (a b : Int) : mmA false [.val (.int k a), .val (.int k' b)] = some (.val (.int k (if b < a then b else a))) := rfl
/-- Not by rfl: the kernel would unfold the comparison. -/
theorem mm_min (k k' : IntKind) (a b : Int) : mmA false [.val (.int k a), .val (.int k' b)] = some (.val (.int k (if b < a then b else a))) := by have h := mm_min0 k k' a b; exact h
theorem mm_max0 (k k' : IntKind) (a b : Int) : mmA true [.val (.int k a), .val (.int k' b)] = some (.val (.int k (if a < b then b else a))) := rfl
/-- Not by rfl: the kernel would unfold the comparison. -/
theorem mm_max (k k' : IntKind) (a b : Int) : mmA true [.val (.int k a), .val (.int k' b)] = some (.val (.int k (if a < b then b else a))) := by have h := mm_max0 k k' a b; exact h
/-- A text's byte. -/
theorem index_text {t : TypeId} {i : TI} (hi : ti P t = some i) (hd : i.desc = .string) (l : List UInt8) (kk : IntKind) (k : Int) (h0 : 0 ≤ k) (h1 : k < l.length) : indexA P t (.val (.string ⟨l.toArray⟩)) (.val (.int kk k)) = some (.val (.int .u8 ((l.getD k.toNat default).toNat : Int))) := by
  have hk : k.toNat < l.length := by omega
  have hs : (⟨l.toArray⟩ : ByteArray).size = l.length := by simp [ByteArray.size]
  simp only [indexA, hi, hd, hs]
  rw [dif_pos ⟨h0, h1⟩]
  have : (⟨l.toArray⟩ : ByteArray)[k.toNat]'(by rw [hs]; exact hk) = l.getD k.toNat default := by
    rw [List.getD_eq_getElem?_getD, List.getElem?_eq_getElem hk]; rfl
  rw [this]
/-! ### A part of one element is put in place -/
theorem row_sub {α : Type} [Inhabited α] (f : α → List AV) {s : Nat} (hf : ∀ a, (f a).length = s) (l : List α) {k j : Nat} (hk : k < l.length) (vs : List AV) (hj : j + vs.length ≤ s) (b : α) (hb : f b = setRange (f (l.getD k default)) j vs) :
    setRange (l.map f).flatten (k * s + j) vs = ((l.set k b).map f).flatten := by
  have hlen : (l.map f).flatten.length = l.length * s := row_len f hf l
  have hin : (k + 1) * s ≤ l.length * s := Nat.mul_le_mul_right _ hk
  rw [Nat.add_mul] at hin
  rw [← row_set f hf l hk b]
  apply List.ext_getElem?
  intro i
  rw [setRange_get _ _ _ (by omega), setRange_get _ _ _ (by rw [hf]; omega), hf]
  by_cases h1 : k * s ≤ i ∧ i < k * s + s
  · rw [if_pos h1, hb, setRange_get _ _ _ (by rw [hf]; exact hj)]
    by_cases h2 : k * s + j ≤ i ∧ i < k * s + j + vs.length
    · rw [if_pos h2, if_pos (by omega)]; congr 1; omega
    · rw [if_neg h2, if_neg (by omega)]
      have := row_at f hf l hk (j := i - k * s) (by omega)
      rw [← this]; congr 1; omega
  · rw [if_neg h1, if_neg (by omega)]
/-! ### Building -/
def buOf (o : Option (List AV)) : Option AV := match o with | some cs => some (.agg cs) | none => none
theorem buOf_some (cs : List AV) : buOf (some cs) = some (.agg cs) := rfl
theorem build_struct {t : TypeId} {i : TI} {fs : Array Field} {pl : List (Nat × Nat)} {z : List AV} (hi : ti P t = some i) (hd : i.desc = .struct fs) (hz : zeroA P t = some z) (hp : placesA P fs.toList = some pl) (parts : List (Nat × AV)) : buildA P t parts = buOf (fillA (pl[·]?) z parts) := by
  simp only [buildA, hi, hz, hd, hp]; rfl
/-! ### What is seen -/
theorem Seen.fnOf {m : Mem} {f : Fn} {fs fs' cs cs' : List AV} (h : Seens m fs fs') (h' : Seens m cs cs') : Seen m (.fn f fs cs) (.fn f fs' cs') := .fn h.1 h.2 h'.1 h'.2
theorem Seen.ptrOf {m : Mem} {n off : Nat} {opn : Bool} {t : TypeId} {cs cs' : List AV} (hm : m n = some (.cells opn t cs)) (h0 : 0 < cs.length) (h : Seens m cs cs') : Seen m (.ptr n off) (.vp cs' off) := .ptr hm h0 h.1 h.2
theorem Seen.var {m : Mem} {n : Nat} {opn : Bool} {t : TypeId} {c : AV} (hm : m n = some (.cells opn t [c])) : Seen m (.ptr n 0) (.vp [c] 0) := .ptrOf hm (Nat.zero_lt_succ _) (Seens.refl _ _)
theorem Seens.one {m : Mem} {x x' : AV} (h : Seen m x x') : Seens m [x] [x'] := .cons h (.nil m)
theorem Seens.two {m : Mem} {x x' y y' : AV} (h : Seen m x x') (h' : Seen m y y') : Seens m [x, y] [x', y'] := .cons h (.one h')
theorem Seens.three {m : Mem} {x x' y y' z z' : AV} (h : Seen m x x') (h' : Seen m y y') (h'' : Seen m z z') : Seens m [x, y, z] [x', y', z'] := .cons h (.two h' h'')
theorem New.two {m : Mem} {a a' b b' : AV} (h : New m a a') (h' : New m b b') : New m (.tup [a, b]) (.tup [a', b']) := .tup rfl fun i hi hi' => by
  match i, hi with
  | 0, _ => exact h
  | 1, _ => exact h'
/-- A result told otherwise, by what it is alone. -/
theorem Turns.told {r r' : AV} {m : Mem} {K' : AV → Mem → Prop} (hr : ∀ (κ : K) cv, Rel κ r cv → Rel κ r' cv) (h : K' r' m) : Turns P r m K' := fun κ w cv hs hx => ⟨r', m, κ, h, Step.refl hs, hr κ cv hx⟩
theorem Rel.nilVs {κ : K} {x : Bool} {cv : Value} (h : Rel κ (.val (.slice none 0 0)) cv) : Rel κ (.vs [] x) cv := by
  obtain ⟨rfl, _⟩ := h.val_inv
  exact .vnil
theorem Rel.two {κ : K} {a a' b b' : AV} {cv : Value} (h : Rel κ (.tup [a, b]) cv) (ha : ∀ c, Rel κ a c → Rel κ a' c) (hb : ∀ c, Rel κ b c → Rel κ b' c) : Rel κ (.tup [a', b']) cv := by
  cases h with
  | tup hl hr =>
    refine .tup hl fun i h h' => ?_
    match i, h with
    | 0, _ => exact ha _ (hr 0 (by simp) h')
    | 1, _ => exact hb _ (hr 1 (by simp) h')
/-- A result, told with all own blocks told for good. -/
theorem Turns.freeze {r r' : AV} {m : Mem} {K' : AV → Mem → Prop} (hs : Seen m r r') (h : K' r' nomem) : Turns P r m K' := fun κ w cv hsim hr => by
  obtain ⟨κ', hle, hs1, hrho, hp, hf⟩ := freezeAll' hsim
  refine ⟨r', nomem, κ', h, ⟨hle, hs1, Nat.le_refl _, fun _ _ _ => rfl, fun c hc ⟨n, l, _, e, _⟩ => absurd rfl e, rfl, rfl, rfl, fun c o _ h => hp c o h, fun n _ _ => rfl⟩, seen_rel hsim hle hrho hf hs (hr.mono hle)⟩
/-! ### nil -/
theorem nilCheck_vp (cs : List AV) (off : Nat) : nilCheckA (.vp cs off) = some (.vp cs off) := rfl
theorem nilCheck_ptr (n off : Nat) : nilCheckA (.ptr n off) = some (.ptr n off) := rfl
theorem nilCheck_yld (n : Nat) : nilCheckA (.yld n) = some (.yld n) := rfl
theorem nilCheck_func (g : FuncId) (a b : List AV) : nilCheckA (.fn (.func g) a b) = some (.fn (.func g) a b) := rfl
section
variable {t e : TypeId} {i : TI}
theorem eq_ptr (hi : ti P t = some i) (hd : i.desc = .pointer e) (n off : Nat) : cmpA P t .eql (.ptr n off) (.val (.pointer none)) = some (.val (.bool false)) := by simp only [cmpA, hi, hd, binA, nilBin, isNilA]; rfl
theorem ne_ptr (hi : ti P t = some i) (hd : i.desc = .pointer e) (n off : Nat) : cmpA P t .neq (.ptr n off) (.val (.pointer none)) = some (.val (.bool true)) := by simp only [cmpA, hi, hd, binA, nilBin, isNilA]; rfl
theorem eq_vp (hi : ti P t = some i) (hd : i.desc = .pointer e) (cs : List AV) (off : Nat) : cmpA P t .eql (.vp cs off) (.val (.pointer none)) = some (.val (.bool false)) := by simp only [cmpA, hi, hd, binA, nilBin, isNilA]; rfl
theorem ne_vp (hi : ti P t = some i) (hd : i.desc = .pointer e) (cs : List AV) (off : Nat) : cmpA P t .neq (.vp cs off) (.val (.pointer none)) = some (.val (.bool true)) := by simp only [cmpA, hi, hd, binA, nilBin, isNilA]; rfl
theorem eq_pnil (hi : ti P t = some i) (hd : i.desc = .pointer e) : cmpA P t .eql (.val (.pointer none)) (.val (.pointer none)) = some (.val (.bool true)) := by simp only [cmpA, hi, hd, binA, nilBin, isNilA]; rfl
theorem ne_pnil (hi : ti P t = some i) (hd : i.desc = .pointer e) : cmpA P t .neq (.val (.pointer none)) (.val (.pointer none)) = some (.val (.bool false)) := by simp only [cmpA, hi, hd, binA, nilBin, isNilA]; rfl
theorem eq_snil (hi : ti P t = some i) (hd : i.desc = .slice e) : cmpA P t .eql (.val (.slice none 0 0)) (.val (.slice none 0 0)) = some (.val (.bool true)) := by simp only [cmpA, hi, hd, binA, nilBin, isNilA]; rfl
theorem ne_snil (hi : ti P t = some i) (hd : i.desc = .slice e) : cmpA P t .neq (.val (.slice none 0 0)) (.val (.slice none 0 0)) = some (.val (.bool false)) := by simp only [cmpA, hi, hd, binA, nilBin, isNilA]; rfl
theorem eq_vs (hi : ti P t = some i) {α : Type} (f : α → List AV) (hd : i.desc = .slice e) (l : List α) (x : Bool) (h : 0 < l.length) : cmpA P t .eql (.vs (l.map f) x) (.val (.slice none 0 0)) = some (.val (.bool false)) := by
  simp only [cmpA, hi, hd, binA, nilBin, isNilA, List.length_map]; rw [if_pos h]
theorem ne_vs (hi : ti P t = some i) {α : Type} (f : α → List AV) (hd : i.desc = .slice e) (l : List α) (x : Bool) (h : 0 < l.length) : cmpA P t .neq (.vs (l.map f) x) (.val (.slice none 0 0)) = some (.val (.bool true)) := by
  simp only [cmpA, hi, hd, binA, nilBin, isNilA, List.length_map]; rw [if_pos h]; rfl
theorem eq_sl (hi : ti P t = some i) (hd : i.desc = .slice e) (n off len cap : Nat) (h : 0 < cap) : cmpA P t .eql (.sl n off len cap) (.val (.slice none 0 0)) = some (.val (.bool false)) := by
  simp only [cmpA, hi, hd, binA, nilBin, isNilA]; rw [if_pos h]
theorem ne_sl (hi : ti P t = some i) (hd : i.desc = .slice e) (n off len cap : Nat) (h : 0 < cap) : cmpA P t .neq (.sl n off len cap) (.val (.slice none 0 0)) = some (.val (.bool true)) := by
  simp only [cmpA, hi, hd, binA, nilBin, isNilA]; rw [if_pos h]; rfl
end
/-! ### Memory apart -/
def Apart (m m' : Mem) : Prop := ∀ q, m q = none ∨ m' q = none
theorem Apart.symm {m m' : Mem} (h : Apart m m') : Apart m' m := fun q => (h q).symm
theorem Apart.zero (m : Mem) : Apart m nomem := fun q => .inr rfl
theorem Apart.sub {m m' k : Mem} (h : Apart m m') (hs : k.sub m') : Apart m k := fun q => (h q).elim .inl fun h' => .inr (by
  cases hk : k q with
  | none => rfl
  | some b => have := hs q b hk; rw [h'] at this; cases this)
theorem Apart.new {m : Mem} {n : Nat} {b : Blk} (h : m n = none) : Apart (nomem.set n b) m := fun q => by
  by_cases e : q = n
  · subst e; exact .inr h
  · exact .inl (by rw [Mem.set_ne _ _ e]; rfl)
theorem Apart.set {m m' : Mem} {n : Nat} {b : Blk} (h : Apart m m') (hn : m' n = none) : Apart (m.set n b) m' := fun q => by
  by_cases e : q = n
  · subst e; exact .inr hn
  · rw [Mem.set_ne _ _ e]; exact h q
theorem Apart.live {m m' : Mem} (h : Apart m m') {n : Nat} {b : Blk} (hn : m n = some b) : m' n = none := (h n).elim (fun e => by rw [hn] at e; cases e) id
theorem Mem.sub_none {m m' : Mem} (h : m.sub m') {n : Nat} (hn : m' n = none) : m n = none := by
  cases hm : m n with
  | none => rfl
  | some b => have := h n b hm; rw [hn] at this; cases this
/-- What a call at m1 leaves where m was: what lay elsewhere. -/
def Left (m1 m m1' M' : Mem) : Prop := ∀ q b, m1 q = none → m q = some b → m1' q = none ∧ M' q = some b
theorem Left.keep {m1 m m1' M' m2 : Mem} (h : Left m1 m m1' M') (hs : m2.sub m) (ha : Apart m1 m2) : m2.sub M' ∧ Apart m1' m2 := by
  refine ⟨fun q b hq => ?_, fun q => ?_⟩
  · have : m1 q = none := (ha q).elim id fun e => by rw [hq] at e; cases e
    exact (h q b this (hs q b hq)).2
  · cases hm : m2 q with
    | none => exact .inr rfl
    | some b =>
      have : m1 q = none := (ha q).elim id fun e => by rw [hm] at e; cases e
      exact .inl (h q b this (hs q b hm)).1
/-- A call at a part of memory. -/
theorem call_at {f : FuncId} {args : List AV} {m1 m : Mem} {K' K'' : AV → Mem → Prop} {x : Hid K'} (h : C P f args m1 K'') (hsub : m1.sub m)
    (hk : ∀ r m1' M', K'' r m1' → m1'.sub M' → Left m1 m m1' M' → K' r M') : CC P f args m (hid K' x) :=
  call_on h hsub fun r m' h1 h2 => hk r m' _ h1 (fun q b hq => Mem.plus_some hq) fun q b hq hb => by
    have : m' q = none := by
      cases hm : m' q with
      | none => rfl
      | some b' => have := h2 q hq (by rw [hm]; simp); rw [hb] at this; cases this
    exact ⟨this, by rw [Mem.plus_none this hq]; exact hb⟩
/-- A cell that is nil is told as an empty row of the run's own. -/
theorem Step.cellNil {κ : K} {m : Mem} {w : World} (hs : Sim P κ m w) {N : Nat} {opn : Bool} {t e : TypeId} {cs : List AV} {i : Nat} (hm : m N = some (.cells opn t cs)) (hi : cs[i]? = some (.val (.slice none 0 0))) :
    ∃ n κ', m n = none ∧ Step P κ m w κ' ((m.set n (.cells true e [])).set N (.cells opn t (cs.set i (.sl n 0 0 0)))) w := by
  obtain ⟨n, hr, hn⟩ := hs.fresh
  have h1 := Step.empty hs hn hr e
  have hne : N ≠ n := fun h => by rw [h, hn] at hm; cases hm
  have hm' : (m.set n (.cells true e [])) N = some (.cells opn t cs) := by rw [Mem.set_ne _ _ hne]; exact hm
  have hil : i < cs.length := (List.getElem?_eq_some_iff.1 hi).1
  rcases h1.sim.blk N _ hm' with ⟨l, g1, g2, g3⟩ | ⟨g1, t', g2⟩
  · refine ⟨n, _, hn, h1.trans (Step.change h1.sim (by rw [hm']; simp) g1 g3 (But.refl w _) _ ?_)⟩
    obtain ⟨arr, t', fz, z1, z2, z3, z4, z5, z6, z7⟩ := g2
    refine ⟨arr, t', fz, z1, z2, by simpa using z3, z4, z5, z6, fun k hk => ?_⟩
    obtain ⟨cv, y1, y2⟩ := z7 k (by simpa using hk)
    refine ⟨cv, y1, ?_⟩
    by_cases e' : i = k
    · subst e'
      rw [List.getElem_set_self]
      have : cs[i] = .val (.slice none 0 0) := (List.getElem?_eq_some_iff.1 hi).2
      rw [this] at y2
      obtain ⟨rfl, _⟩ := y2.val_inv
      exact .snil
    · rw [List.getElem_set_ne e']; exact y2
  · cases g2; simp at hi
theorem Turns.cellNil {r : AV} {m : Mem} {K' : AV → Mem → Prop} {N : Nat} {opn : Bool} {t : TypeId} {cs : List AV} (e : TypeId) (i : Nat) (hm : m N = some (.cells opn t cs)) (hi : cs[i]? = some (.val (.slice none 0 0)))
    (h : ∀ n, m n = none → Turns P r ((m.set n (.cells true e [])).set N (.cells opn t (cs.set i (.sl n 0 0 0)))) K') : Turns P r m K' := fun κ w cv hs hr => by
  obtain ⟨n, κ', hn, hst⟩ := Step.cellNil (e := e) hs hm hi
  obtain ⟨r', m', κ'', a, b, c⟩ := h n hn κ' w cv hst.sim (hr.mono hst.le)
  exact ⟨r', m', κ'', a, hst.trans b, c⟩
end Go.Abs
