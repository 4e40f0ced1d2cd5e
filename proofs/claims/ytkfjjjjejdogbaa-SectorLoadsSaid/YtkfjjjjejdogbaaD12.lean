/- Package 05: the law SectorWall: the walk. -/
import Derived.Test.YtkfjjjjejdogbaaD11
set_option maxRecDepth 100000
set_option maxHeartbeats 1000000
set_option linter.unusedSimpArgs false
set_option linter.unusedVariables false
namespace Go.Proofs.Ytkfjjjjejdogbaa
open Go.Abs
attribute [local irreducible] C X CC Y CV CW binK litK AppK PureC PureCV againK loopV rangeV allK ifK got onB condK V stepsK planK opK firstK seeE keepsK

def strC (s : ByteArray) : List AV := [.val (.string s)]
theorem str_g0 (s : ByteArray) : (strC s)[0]? = some (.val (.string s)) := rfl
theorem mk_38 (n : Nat) (h : n ≤ 4096) : mkSliceA Try.prog 38 (.val (.int .i64 n)) (.val (.int .i64 n)) = some (9, n, n, ((List.replicate n ByteArray.empty).map strC).flatten) := by
  simp only [mkSliceA, ti_38, ti_9, z_9]
  rw [if_pos ⟨by omega, by omega, by omega, by omega, rfl, by decide⟩]
  simp only [Int.toNat_natCast, ← map_rep]
  rfl
theorem str_at (l : List ByteArray) (k : Nat) (hk : k < l.length) : (l.map strC).flatten[k]? = some (.val (.string (l.getD k default))) := by
  have := row_at strC (s := 1) (fun _ => rfl) l (k := k) (j := 0) hk (by decide)
  simpa [strC] using this
theorem str_set (l : List ByteArray) (k : Nat) (hk : k < l.length) (s : ByteArray) : setRange (l.map strC).flatten k [.val (.string s)] = ((l.set k s).map strC).flatten := by
  have := row_set strC (s := 1) (fun _ => rfl) l hk s
  simpa [strC] using this
theorem str_len (l : List ByteArray) : (l.map strC).flatten.length = l.length := by rw [row_len strC (s := 1) (fun _ => rfl) l, Nat.mul_one]
/-- The device behind the second row of writes. -/
structure Wall (n : Nat) (L : List Sec) (last : List ByteArray) (d : Dev) : Prop where
  free : Free n d
  laid : d.laid = L
  len : last.length = n
  is : ∀ w ∈ d.list, last.getD w.at_ default = secStr w.s
theorem Wall.write {n : Nat} {L : List Sec} {last : List ByteArray} {d : Dev} (h : Wall n L last d) {k : Nat} (hk : k < n) (b : List UInt8) : writeE d k (fillS b).l = 0 ∧ Wall n L (last.set k (secStr (fillS b))) (writeD d k (fillS b).l) ∧ (writeD d k (fillS b).l).w = d.w + 1 := by
  obtain ⟨h1, h2, h3⟩ := h.free.write hk (fillS b).h
  have e : fillS (fillS b).l = fillS b := Sec.inj (fill_full (fillS b).h)
  rw [e] at h2
  refine ⟨h1, ⟨h3, by rw [h2]; exact h.laid, by rw [List.length_set]; exact h.len, fun w hw => ?_⟩, by rw [h2]; rfl⟩
  rw [h2] at hw
  rcases layL_mem h.free.ok.once (show w ∈ layL d.list k (fillS b) from hw) with ⟨e1, e2⟩ | ⟨e1, e2⟩
  · rw [e1, e2, List.getD_eq_getElem?_getD, List.getElem?_set_self (by rw [h.len]; exact hk)]; rfl
  · rw [List.getD_eq_getElem?_getD, List.getElem?_set_ne (Ne.symm e2), ← List.getD_eq_getElem?_getD]
    exact h.is w e1
theorem rlohi_27 (m : Mem) (l : List UInt8) (x : Bool) (kk kk' : IntKind) (lo hi : Int) (h0 : 0 ≤ lo) (h1 : lo ≤ hi) (h2 : hi ≤ l.length) : sliceA Try.prog m 27 (.vs (l.map byteC) x) (some (.val (.int kk lo))) (some (.val (.int kk' hi))) none = some (.vs (((l.drop lo.toNat).take (hi.toNat - lo.toNat)).map byteC) (x && hi.toNat == l.length)) := T_27.rlohi byteC_len m l x kk kk' lo hi h0 h1 h2
theorem F4 (x : Int) (a b : List (List UInt8)) (p : Int) (ha : a.length * 24 ≤ 140737488351232) (hb : b.length * 24 ≤ 140737488351232) : F Try.prog 4 [.val (.int .i64 x), .vs (a.map rowC) false, .vs (b.map rowC) false, .val (.int .u64 p)] (.val (.bool true)) := by
  obtain ⟨q, hq, eq⟩ : ∃ c : Nat, c < 32 ∧ (IntKind.u64.wrap x).tmod 32 = c := by
    rw [IntKind.wrap_u64]
    have h0 : 0 ≤ x % 18446744073709551616 := by omega
    have h1 := Int.tmod_nonneg 32 h0
    have h2 := Int.tmod_lt_of_pos (x % 18446744073709551616) (show (0 : Int) < 32 by decide)
    exact ⟨((x % 18446744073709551616).tmod 32).toNat, by omega, by omega⟩
  obtain ⟨sz, hn⟩ : ∃ sz, sz = 1 + q := ⟨_, rfl⟩
  have e1 : (1 : Int) + (q : Int) = (sz : Int) := by omega
  have hn1 : 1 ≤ sz := by omega
  have hn2 : sz ≤ 32 := by omega
  clear hn
  have n0 : ((sz : Int) = 0) = False := eq_false (by omega)
  refine F4_of ?_
  unfold k4
  repeat' first
    | simp -dsimp (disch := omega) only [↓rulesA, rulesB, rulesC, Int.reduceLT, nth, upd, put, storeN, AV.one, Nat.reduceBEq, Nat.reduceBNe, Int.reduceBEq, Int.reduceBNe, Int.reduceLE, Int.reduceEq, Int.reduceMod, Int.reduceNeg, boolBin, strBin, intBin, unA, fillA, ne_eq, reduceCtorEq, Nat.reduceAdd, Nat.reduceSub, Nat.reduceLeDiff, Nat.reduceLT, Nat.reduceEqDiff, Int.reduceToNat, eq_self, rulesT, bne_self_eq_false, mm_min, mm_max, buOf_some, nilCheck_vp, nilCheck_ptr, nilCheck_yld, nilCheck_func, *]
    | (refine allK_intro fun n hn => ?_; try simp only [fresh_set] at hn)
    | (refine ifK_intro (fun h => ?_) (fun h => ?_) <;> (try simp only [decide_eq_true_eq, decide_eq_false_iff_not, Bool.not_eq_true', Bool.not_eq_false'] at h) <;> try (exfalso; (try simp only [beq_iff_eq, beq_eq_false_iff_ne, bne_iff_ne, bne_eq_false_iff_eq, ne_eq] at h); omega))
    | (refine keeps_sub (Mem.sub_set (by simp [Mem.set_at, nomem, *])) ?_)
  refine call_at (C8 sz hn1 (by omega)) (nomem_sub _) fun r m1 M1 ⟨N, hr, a0⟩ s0 _ => ?_
  subst hr
  repeat' first
    | simp -dsimp (disch := omega) only [↓rulesA, rulesB, rulesC, Int.reduceLT, nth, upd, put, storeN, AV.one, Nat.reduceBEq, Nat.reduceBNe, Int.reduceBEq, Int.reduceBNe, Int.reduceLE, Int.reduceEq, Int.reduceMod, Int.reduceNeg, boolBin, strBin, intBin, unA, fillA, ne_eq, reduceCtorEq, Nat.reduceAdd, Nat.reduceSub, Nat.reduceLeDiff, Nat.reduceLT, Nat.reduceEqDiff, Int.reduceToNat, eq_self, rulesT, bne_self_eq_false, mm_min, mm_max, buOf_some, nilCheck_vp, nilCheck_ptr, nilCheck_yld, nilCheck_func, *]
    | (refine allK_intro fun n hn => ?_; try simp only [fresh_set] at hn)
    | (refine ifK_intro (fun h => ?_) (fun h => ?_) <;> (try simp only [decide_eq_true_eq, decide_eq_false_iff_not, Bool.not_eq_true', Bool.not_eq_false'] at h) <;> try (exfalso; (try simp only [beq_iff_eq, beq_eq_false_iff_ne, bne_iff_ne, bne_eq_false_iff_eq, ne_eq] at h); omega))
    | (refine keeps_sub (Mem.sub_set (by simp [Mem.set_at, nomem, *])) ?_)
  refine call_F (F15 _ false false (newDev_ok hn1 (by omega)).some) (.one (a0.seen s0 0)) ?_
  rw [show (newDev sz).laid.length = sz by simp [newDev]]
  repeat' first
    | simp -dsimp (disch := omega) only [↓rulesA, rulesB, rulesC, Int.reduceLT, nth, upd, put, storeN, AV.one, Nat.reduceBEq, Nat.reduceBNe, Int.reduceBEq, Int.reduceBNe, Int.reduceLE, Int.reduceEq, Int.reduceMod, Int.reduceNeg, boolBin, strBin, intBin, unA, fillA, ne_eq, reduceCtorEq, Nat.reduceAdd, Nat.reduceSub, Nat.reduceLeDiff, Nat.reduceLT, Nat.reduceEqDiff, Int.reduceToNat, eq_self, rulesT, bne_self_eq_false, mm_min, mm_max, buOf_some, nilCheck_vp, nilCheck_ptr, nilCheck_yld, nilCheck_func, *]
    | (refine allK_intro fun n hn => ?_; try simp only [fresh_set] at hn)
    | (refine ifK_intro (fun h => ?_) (fun h => ?_) <;> (try simp only [decide_eq_true_eq, decide_eq_false_iff_not, Bool.not_eq_true', Bool.not_eq_false'] at h) <;> try (exfalso; (try simp only [beq_iff_eq, beq_eq_false_iff_ne, bne_iff_ne, bne_eq_false_iff_eq, ne_eq] at h); omega))
    | (refine keeps_sub (Mem.sub_set (by simp [Mem.set_at, nomem, *])) ?_)
  refine loop_intro (fun j env m => ∃ (i : Nat) (d : Dev) (mI : Mem), i ≤ a.length ∧ j = a.length - i ∧ Free sz d ∧ d.w = i ∧ d.f = 0 ∧ d.At N mI ∧ mI.sub m ∧ env.length = 176 ∧ nth env 2 = .vs (b.map rowC) false ∧ nth env 3 = .val (.int .u64 p) ∧ nth env 9 = .ptr N 0 ∧ nth env 10 = .val (.int .i64 sz) ∧
    nth env 34 = .vs (a.map rowC) false ∧ nth env 35 = .val (.int .i64 a.length) ∧ nth env 36 = .val (.int .i64 i)) a.length _ (Mem.sub.refl _) ⟨0, _, m1, by omega, by omega, Free.begin hn1 (by omega), rfl, rfl, a0, s0, rfl, rfl, rfl, rfl, rfl, rfl, rfl, rfl⟩ ?_
  clear a0 s0
  rintro j env m ⟨i, d, mI, hi, rfl, hfree, hw, hf, hat, hsub, hlen, e2, e3, e9, e10, e34, e35, e36⟩
  repeat' first
    | simp -dsimp (disch := omega) only [↓rulesA, rulesB, rulesC, Int.reduceLT, nth, upd, put, storeN, AV.one, Nat.reduceBEq, Nat.reduceBNe, Int.reduceBEq, Int.reduceBNe, Int.reduceLE, Int.reduceEq, Int.reduceMod, Int.reduceNeg, boolBin, strBin, intBin, unA, fillA, ne_eq, reduceCtorEq, Nat.reduceAdd, Nat.reduceSub, Nat.reduceLeDiff, Nat.reduceLT, Nat.reduceEqDiff, Int.reduceToNat, eq_self, rulesT, bne_self_eq_false, mm_min, mm_max, buOf_some, nilCheck_vp, nilCheck_ptr, nilCheck_yld, nilCheck_func, ix_22, row_g0, tmod_nat, *]
    | (refine allK_intro fun n hn => ?_; try simp only [fresh_set] at hn)
    | (refine ifK_intro (fun h => ?_) (fun h => ?_) <;> (try simp only [decide_eq_true_eq, decide_eq_false_iff_not, Bool.not_eq_true', Bool.not_eq_false'] at h) <;> try (exfalso; (try simp only [beq_iff_eq, beq_eq_false_iff_ne, bne_iff_ne, bne_eq_false_iff_eq, ne_eq] at h); omega))
    | (refine keeps_sub (Mem.sub_set (by simp [Mem.set_at, nomem, *])) ?_)
  · have hil : i < a.length := by omega
    have hk : i % sz < sz := Nat.mod_lt _ (by omega)
    have hwr := hfree.write hk (fillS (a.getD i default)).h
    refine call_F (F11 (a.getD i default) false) (Seens.refl _ _) ?_
    repeat' first
      | simp -dsimp (disch := omega) only [↓rulesA, rulesB, rulesC, Int.reduceLT, nth, upd, put, storeN, AV.one, Nat.reduceBEq, Nat.reduceBNe, Int.reduceBEq, Int.reduceBNe, Int.reduceLE, Int.reduceEq, Int.reduceMod, Int.reduceNeg, boolBin, strBin, intBin, unA, fillA, ne_eq, reduceCtorEq, Nat.reduceAdd, Nat.reduceSub, Nat.reduceLeDiff, Nat.reduceLT, Nat.reduceEqDiff, Int.reduceToNat, eq_self, rulesT, bne_self_eq_false, mm_min, mm_max, buOf_some, nilCheck_vp, nilCheck_ptr, nilCheck_yld, nilCheck_func, *]
      | (refine allK_intro fun n hn => ?_; try simp only [fresh_set] at hn)
      | (refine ifK_intro (fun h => ?_) (fun h => ?_) <;> (try simp only [decide_eq_true_eq, decide_eq_false_iff_not, Bool.not_eq_true', Bool.not_eq_false'] at h) <;> try (exfalso; (try simp only [beq_iff_eq, beq_eq_false_iff_ne, bne_iff_ne, bne_eq_false_iff_eq, ne_eq] at h); omega))
      | (refine keeps_sub (Mem.sub_set (by simp [Mem.set_at, nomem, *])) ?_)
    refine call_at (C10 d hfree.ok hat (by omega) ((i % sz : Nat) : Int) (fillS (a.getD i default)).l false (by rw [(fillS _).h]; decide)) hsub fun r m3 M3 ⟨hr, hat'⟩ hsub' _ => ?_
    subst hr
    rw [hwr.1]
    have hfree' : Kept _ := hwr.2.2
    have hw' : Kept _ := hwr.2.1
    clear hwr hat hsub
    repeat' first
      | simp -dsimp (disch := omega) only [↓rulesA, rulesB, rulesC, Int.reduceLT, nth, upd, put, storeN, AV.one, Nat.reduceBEq, Nat.reduceBNe, Int.reduceBEq, Int.reduceBNe, Int.reduceLE, Int.reduceEq, Int.reduceMod, Int.reduceNeg, boolBin, strBin, intBin, unA, fillA, ne_eq, reduceCtorEq, Nat.reduceAdd, Nat.reduceSub, Nat.reduceLeDiff, Nat.reduceLT, Nat.reduceEqDiff, Int.reduceToNat, eq_self, rulesT, bne_self_eq_false, mm_min, mm_max, buOf_some, nilCheck_vp, nilCheck_ptr, nilCheck_yld, nilCheck_func, *]
      | (refine allK_intro fun n hn => ?_; try simp only [fresh_set] at hn)
      | (refine ifK_intro (fun h => ?_) (fun h => ?_) <;> (try simp only [decide_eq_true_eq, decide_eq_false_iff_not, Bool.not_eq_true', Bool.not_eq_false'] at h) <;> try (exfalso; (try simp only [beq_iff_eq, beq_eq_false_iff_ne, bne_iff_ne, bne_eq_false_iff_eq, ne_eq] at h); omega))
      | (refine keeps_sub (Mem.sub_set (by simp [Mem.set_at, nomem, *])) ?_)
    refine again_intro (a.length - (i + 1)) (by omega) M3 (Mem.sub.refl _) ⟨i + 1, _, m3, by omega, rfl, hfree', ?_, ?_, hat', hsub', ?_, ?_, ?_, ?_, ?_, ?_, ?_, ?_⟩
    · rw [(hw' : _ = _)]; show d.w + 1 = _; rw [hw]
    · rw [(hw' : _ = _)]; exact hf
    all_goals try (simp (disch := omega) only [nth_upd, pickB_true, pickB_false, inB_lt, upd_len, cast_succ, Nat.reduceBEq, beq_self_eq_true, reduceCtorEq, *]; done)
  · refine call_at (C16 d hfree.ok hat (by omega)) hsub fun r m2 M2 ⟨hr, hat2⟩ hsub2 _ => ?_
    subst hr
    rw [if_neg (by rw [hfree.dead]; decide)]
    obtain ⟨hfl, hnil, -, hw2⟩ := hfree.flush
    have hnil : Kept _ := hnil
    have hw2 : Kept _ := hw2
    have hdw : d.w ≤ a.length := by omega
    clear hat hsub hw hf
    obtain ⟨d1, hd1⟩ : ∃ d1, d1 = flushD d := ⟨_, rfl⟩
    rw [← hd1] at hat2 hfl hnil hw2
    clear hd1
    have mk := mk_38 sz (by omega)
    repeat' first
      | simp -dsimp (disch := omega) only [↓rulesA, rulesB, rulesC, Int.reduceLT, nth, upd, put, storeN, AV.one, Nat.reduceBEq, Nat.reduceBNe, Int.reduceBEq, Int.reduceBNe, Int.reduceLE, Int.reduceEq, Int.reduceMod, Int.reduceNeg, boolBin, strBin, intBin, unA, fillA, ne_eq, reduceCtorEq, Nat.reduceAdd, Nat.reduceSub, Nat.reduceLeDiff, Nat.reduceLT, Nat.reduceEqDiff, Int.reduceToNat, eq_self, rulesT, bne_self_eq_false, mm_min, mm_max, buOf_some, nilCheck_vp, nilCheck_ptr, nilCheck_yld, nilCheck_func, *]
      | (refine allK_intro fun n hn => ?_; try simp only [fresh_set] at hn)
      | (refine ifK_intro (fun h => ?_) (fun h => ?_) <;> (try simp only [decide_eq_true_eq, decide_eq_false_iff_not, Bool.not_eq_true', Bool.not_eq_false'] at h) <;> try (exfalso; (try simp only [beq_iff_eq, beq_eq_false_iff_ne, bne_iff_ne, bne_eq_false_iff_eq, ne_eq] at h); omega))
      | (refine keeps_sub (Mem.sub_set (by simp [Mem.set_at, nomem, *])) ?_)
    refine call_F (F17 d1 false false hfl.ok.some hfl.ok.most) (.one (hat2.seen hsub2 0)) ?_
    repeat' first
      | simp -dsimp (disch := omega) only [↓rulesA, rulesB, rulesC, Int.reduceLT, nth, upd, put, storeN, AV.one, Nat.reduceBEq, Nat.reduceBNe, Int.reduceBEq, Int.reduceBNe, Int.reduceLE, Int.reduceEq, Int.reduceMod, Int.reduceNeg, boolBin, strBin, intBin, unA, fillA, ne_eq, reduceCtorEq, Nat.reduceAdd, Nat.reduceSub, Nat.reduceLeDiff, Nat.reduceLT, Nat.reduceEqDiff, Int.reduceToNat, eq_self, rulesT, bne_self_eq_false, mm_min, mm_max, buOf_some, nilCheck_vp, nilCheck_ptr, nilCheck_yld, nilCheck_func, *]
      | (refine allK_intro fun n hn => ?_; try simp only [fresh_set] at hn)
      | (refine ifK_intro (fun h => ?_) (fun h => ?_) <;> (try simp only [decide_eq_true_eq, decide_eq_false_iff_not, Bool.not_eq_true', Bool.not_eq_false'] at h) <;> try (exfalso; (try simp only [beq_iff_eq, beq_eq_false_iff_ne, bne_iff_ne, bne_eq_false_iff_eq, ne_eq] at h); omega))
      | (refine keeps_sub (Mem.sub_set (by simp [Mem.set_at, nomem, *])) ?_)
    obtain ⟨nS, eS⟩ : ∃ q, q = n := ⟨n, rfl⟩
    subst eS
    have hnS := hn
    clear hn
    have hmS : m2 nS = none := Mem.sub_none hsub2 hnS
    refine loop_intro (fun j env m => ∃ (i : Nat) (d : Dev) (last : List ByteArray) (mI : Mem), i ≤ b.length ∧ j = b.length - i ∧ Wall sz d1.laid last d ∧ d.w = d1.w + i ∧ d.At N mI ∧ mI.sub m ∧ mI nS = none ∧ m nS = some (.cells false 9 (last.map strC).flatten) ∧ env.length = 176 ∧ nth env 3 = .val (.int .u64 p) ∧ nth env 9 = .ptr N 0 ∧ nth env 10 = .val (.int .i64 sz) ∧
      nth env 13 = .vs ((imgL d1.laid).map byteC) false ∧ nth env 14 = .sl nS 0 sz sz ∧ nth env 57 = .vs (b.map rowC) false ∧ nth env 58 = .val (.int .i64 b.length) ∧ nth env 59 = .val (.int .i64 i)) b.length _ (Mem.sub.refl _)
      ⟨0, d1, _, m2, by omega, by omega, ⟨hfl, rfl, by rw [List.length_replicate], fun w hw => by rw [(hnil : _ = _)] at hw; cases hw⟩, rfl, hat2, hsub2.trans (Mem.sub_set hnS), hmS, Mem.set_same _ _ _, ?_, ?_, ?_, ?_, ?_, ?_, ?_, ?_, ?_⟩ ?_
    all_goals try (simp (disch := omega) only [nth_upd, pickB_true, pickB_false, inB_lt, upd_len, Nat.reduceBEq, beq_self_eq_true, Int.cast_ofNat_Int, hlen, e3, e9, e10]; done)
    have hLn : d1.laid.length = sz := hfl.n
    have hd1w : Kept (d1.w ≤ a.length) := by rw [(hw2 : _ = _)]; exact hdw
    clear hnil hat2 hsub2 hmS hnS hw2 hdw hfree hi h hlen e2 e3 e9 e10 e34 e35 e36
    rintro j env m ⟨i, d, last, mI, hi, rfl, hwall, hw, hat, hsub, hmS, hS, hlen, e3, e9, e10, e13, e14, e57, e58, e59⟩
    have e7 : (i : Int) * 7 = ((i * 7 : Nat) : Int) := by omega
    repeat' first
      | simp -dsimp (disch := omega) only [↓rulesA, rulesB, rulesC, Int.reduceLT, nth, upd, put, storeN, AV.one, Nat.reduceBEq, Nat.reduceBNe, Int.reduceBEq, Int.reduceBNe, Int.reduceLE, Int.reduceEq, Int.reduceMod, Int.reduceNeg, boolBin, strBin, intBin, unA, fillA, ne_eq, reduceCtorEq, Nat.reduceAdd, Nat.reduceSub, Nat.reduceLeDiff, Nat.reduceLT, Nat.reduceEqDiff, Int.reduceToNat, eq_self, rulesT, bne_self_eq_false, mm_min, mm_max, buOf_some, nilCheck_vp, nilCheck_ptr, nilCheck_yld, nilCheck_func, ix_22, row_g0, tmod_nat, *]
      | (refine allK_intro fun n hn => ?_; try simp only [fresh_set] at hn)
      | (refine ifK_intro (fun h => ?_) (fun h => ?_) <;> (try simp only [decide_eq_true_eq, decide_eq_false_iff_not, Bool.not_eq_true', Bool.not_eq_false'] at h) <;> try (exfalso; (try simp only [beq_iff_eq, beq_eq_false_iff_ne, bne_iff_ne, bne_eq_false_iff_eq, ne_eq] at h); omega))
      | (refine keeps_sub (Mem.sub_set (by simp [Mem.set_at, nomem, *])) ?_)
    · have hil : i < b.length := by omega
      have hk : i * 7 % sz < sz := Nat.mod_lt _ (by omega)
      have hwr := hwall.write hk (b.getD i default)
      have hd1w' : d1.w ≤ a.length := hd1w
      refine call_F (F11 (b.getD i default) false) (Seens.refl _ _) ?_
      repeat' first
        | simp -dsimp (disch := omega) only [↓rulesA, rulesB, rulesC, Int.reduceLT, nth, upd, put, storeN, AV.one, Nat.reduceBEq, Nat.reduceBNe, Int.reduceBEq, Int.reduceBNe, Int.reduceLE, Int.reduceEq, Int.reduceMod, Int.reduceNeg, boolBin, strBin, intBin, unA, fillA, ne_eq, reduceCtorEq, Nat.reduceAdd, Nat.reduceSub, Nat.reduceLeDiff, Nat.reduceLT, Nat.reduceEqDiff, Int.reduceToNat, eq_self, rulesT, bne_self_eq_false, mm_min, mm_max, buOf_some, nilCheck_vp, nilCheck_ptr, nilCheck_yld, nilCheck_func, *]
        | (refine allK_intro fun n hn => ?_; try simp only [fresh_set] at hn)
        | (refine ifK_intro (fun h => ?_) (fun h => ?_) <;> (try simp only [decide_eq_true_eq, decide_eq_false_iff_not, Bool.not_eq_true', Bool.not_eq_false'] at h) <;> try (exfalso; (try simp only [beq_iff_eq, beq_eq_false_iff_ne, bne_iff_ne, bne_eq_false_iff_eq, ne_eq] at h); omega))
        | (refine keeps_sub (Mem.sub_set (by simp [Mem.set_at, nomem, *])) ?_)
      refine call_at (C10 d hwall.free.ok hat (by omega) ((i * 7 % sz : Nat) : Int) (fillS (b.getD i default)).l false (by rw [(fillS _).h]; decide)) hsub fun r m3 M3 ⟨hr, hat'⟩ hsub' hlf => ?_
      subst hr
      rw [hwr.1]
      have hwall' : Kept _ := hwr.2.1
      have hw' : Kept _ := hwr.2.2
      obtain ⟨hmS', hS'⟩ := hlf nS _ hmS hS
      have hll := hwall.len
      clear hwr hat hsub hmS hS hlf hwall
      repeat' first
        | simp -dsimp (disch := omega) only [↓rulesA, rulesB, rulesC, Int.reduceLT, nth, upd, put, storeN, AV.one, Nat.reduceBEq, Nat.reduceBNe, Int.reduceBEq, Int.reduceBNe, Int.reduceLE, Int.reduceEq, Int.reduceMod, Int.reduceNeg, boolBin, strBin, intBin, unA, fillA, ne_eq, reduceCtorEq, Nat.reduceAdd, Nat.reduceSub, Nat.reduceLeDiff, Nat.reduceLT, Nat.reduceEqDiff, Int.reduceToNat, eq_self, rulesT, bne_self_eq_false, mm_min, mm_max, buOf_some, nilCheck_vp, nilCheck_ptr, nilCheck_yld, nilCheck_func, *]
        | (refine allK_intro fun n hn => ?_; try simp only [fresh_set] at hn)
        | (refine ifK_intro (fun h => ?_) (fun h => ?_) <;> (try simp only [decide_eq_true_eq, decide_eq_false_iff_not, Bool.not_eq_true', Bool.not_eq_false'] at h) <;> try (exfalso; (try simp only [beq_iff_eq, beq_eq_false_iff_ne, bne_iff_ne, bne_eq_false_iff_eq, ne_eq] at h); omega))
        | (refine keeps_sub (Mem.sub_set (by simp [Mem.set_at, nomem, *])) ?_)
      refine call_F (F11 (b.getD i default) false) (Seens.refl _ _) ?_
      repeat' first
        | simp -dsimp (disch := omega) only [↓rulesA, rulesB, rulesC, Int.reduceLT, nth, upd, put, storeN, AV.one, Nat.reduceBEq, Nat.reduceBNe, Int.reduceBEq, Int.reduceBNe, Int.reduceLE, Int.reduceEq, Int.reduceMod, Int.reduceNeg, boolBin, strBin, intBin, unA, fillA, ne_eq, reduceCtorEq, Nat.reduceAdd, Nat.reduceSub, Nat.reduceLeDiff, Nat.reduceLT, Nat.reduceEqDiff, Int.reduceToNat, eq_self, rulesT, bne_self_eq_false, mm_min, mm_max, buOf_some, nilCheck_vp, nilCheck_ptr, nilCheck_yld, nilCheck_func, str_set, str_len, Nat.mul_one, tmod_nat, *]
        | (refine allK_intro fun n hn => ?_; try simp only [fresh_set] at hn)
        | (refine ifK_intro (fun h => ?_) (fun h => ?_) <;> (try simp only [decide_eq_true_eq, decide_eq_false_iff_not, Bool.not_eq_true', Bool.not_eq_false'] at h) <;> try (exfalso; (try simp only [beq_iff_eq, beq_eq_false_iff_ne, bne_iff_ne, bne_eq_false_iff_eq, ne_eq] at h); omega))
        | (refine keeps_sub (Mem.sub_set (by simp [Mem.set_at, nomem, *])) ?_)
      refine again_intro (b.length - (i + 1)) (by omega) (M3.set nS (.cells false 9 ((last.set (i * 7 % sz) (secStr (fillS (b.getD i default)))).map strC).flatten)) (Mem.sub.refl _) ⟨i + 1, _, _, m3, by omega, rfl, hwall', ?_, hat', Mem.sub_set_new hsub' hmS', hmS', Mem.set_same _ _ _, ?_, ?_, ?_, ?_, ?_, ?_, ?_, ?_, ?_⟩
      · rw [(hw' : _ = _), hw, Nat.add_assoc]
      all_goals try (simp (disch := omega) only [nth_upd, pickB_true, pickB_false, inB_lt, upd_len, cast_succ, Nat.reduceBEq, beq_self_eq_true, reduceCtorEq, *]; done)
    · have hll := hwall.len
      have hd1w' : d1.w ≤ a.length := hd1w
      refine call_F (F18 d false false hwall.free.ok.some hwall.free.ok.list) (.one (hat.seen hsub 0)) ?_
      repeat' first
        | simp -dsimp (disch := omega) only [↓rulesA, rulesB, rulesC, Int.reduceLT, nth, upd, put, storeN, AV.one, Nat.reduceBEq, Nat.reduceBNe, Int.reduceBEq, Int.reduceBNe, Int.reduceLE, Int.reduceEq, Int.reduceMod, Int.reduceNeg, boolBin, strBin, intBin, unA, fillA, ne_eq, reduceCtorEq, Nat.reduceAdd, Nat.reduceSub, Nat.reduceLeDiff, Nat.reduceLT, Nat.reduceEqDiff, Int.reduceToNat, eq_self, rulesT, bne_self_eq_false, mm_min, mm_max, buOf_some, nilCheck_vp, nilCheck_ptr, nilCheck_yld, nilCheck_func, *]
        | (refine allK_intro fun n hn => ?_; try simp only [fresh_set] at hn)
        | (refine ifK_intro (fun h => ?_) (fun h => ?_) <;> (try simp only [decide_eq_true_eq, decide_eq_false_iff_not, Bool.not_eq_true', Bool.not_eq_false'] at h) <;> try (exfalso; (try simp only [beq_iff_eq, beq_eq_false_iff_ne, bne_iff_ne, bne_eq_false_iff_eq, ne_eq] at h); omega))
        | (refine keeps_sub (Mem.sub_set (by simp [Mem.set_at, nomem, *])) ?_)
      refine call_at (C19 d hwall.free.ok hat p) hsub fun r m3 M3 ⟨hr, hat'⟩ hsub' hlf => ?_
      subst hr
      obtain ⟨hmS', hS'⟩ := hlf nS _ hmS hS
      have hok' := Ok.lose hwall.free.ok p
      have hdead' : (loseD d p).dead = true := by unfold loseD; rw [if_neg (by rw [hwall.free.dead]; decide)]
      have hlaid' : (loseD d p).laid = layTo d.list (bitAt p) d1.laid d.list.length := by unfold loseD; rw [if_neg (by rw [hwall.free.dead]; decide), ← hwall.laid]
      have hlist' : (loseD d p).list = [] := by unfold loseD; rw [if_neg (by rw [hwall.free.dead]; decide)]
      obtain ⟨L2, hL2⟩ : ∃ L2, L2 = layTo d.list (bitAt p) d1.laid d.list.length := ⟨_, rfl⟩
      have hL2n : L2.length = sz := by rw [hL2, layTo_len, hLn]
      have hi1 : (imgL d1.laid).length = sz * 64 := by rw [imgL_len, hLn]
      have hi2 : (imgL L2).length = sz * 64 := by rw [imgL_len, hL2n]
      rw [← hL2] at hlaid'
      have hor : Kept (∀ k, k < sz → L2.getD k default = d1.laid.getD k default ∨ (⟨(L2.getD k default).l.toArray⟩ : ByteArray) = last.getD k default) := fun k hk => by
        rw [hL2]
        rcases layTo_or (l := d.list) (b := bitAt p) (L := d1.laid) k d.list.length (Nat.le_refl _) with h | ⟨w, hw, e1, e2⟩
        · exact .inl h
        · rw [e2, ← e1]; exact .inr (hwall.is w hw).symm
      have his : Kept (∀ j, j < d.list.length → bitAt p j = true → (d.list.getD j default).at_ < sz ∧ (⟨(L2.getD (d.list.getD j default).at_ default).l.toArray⟩ : ByteArray) = last.getD (d.list.getD j default).at_ default) := fun j hj hb => by
        have hm : d.list.getD j default ∈ d.list := by
          rw [List.getD_eq_getElem?_getD, List.getElem?_eq_getElem hj]; exact List.getElem_mem _
        have ha : ∀ w ∈ d.list, w.at_ < d1.laid.length := fun w hw => by rw [← hwall.laid]; exact hwall.free.ok.at_ w hw
        refine ⟨by have := ha _ hm; rw [hLn] at this; exact this, ?_⟩
        rw [hL2, layTo_is hwall.free.ok.once ha hb d.list.length (Nat.le_refl _) hj]
        exact (hwall.is _ hm).symm
      have hdl : Kept (∀ j, j < d.list.length → (d.list.getD j default).at_ < sz) := fun j hj => by
        have hm : d.list.getD j default ∈ d.list := by
          rw [List.getD_eq_getElem?_getD, List.getElem?_eq_getElem hj]; exact List.getElem_mem _
        have := hwall.free.ok.at_ _ hm
        rw [hwall.laid, hLn] at this; exact this
      have hdd : (dirtyOf d.list).length = d.list.length := by unfold dirtyOf; simp
      have hll4 : d.list.length ≤ 4096 := hwall.free.ok.list
      clear hL2 hat hsub hmS hS hlf hwall
      repeat' first
        | simp -dsimp (disch := omega) only [↓rulesA, rulesB, rulesC, Int.reduceLT, nth, upd, put, storeN, AV.one, Nat.reduceBEq, Nat.reduceBNe, Int.reduceBEq, Int.reduceBNe, Int.reduceLE, Int.reduceEq, Int.reduceMod, Int.reduceNeg, boolBin, strBin, intBin, unA, fillA, ne_eq, reduceCtorEq, Nat.reduceAdd, Nat.reduceSub, Nat.reduceLeDiff, Nat.reduceLT, Nat.reduceEqDiff, Int.reduceToNat, eq_self, rulesT, bne_self_eq_false, mm_min, mm_max, buOf_some, nilCheck_vp, nilCheck_ptr, nilCheck_yld, nilCheck_func, *]
        | (refine allK_intro fun n hn => ?_; try simp only [fresh_set] at hn)
        | (refine ifK_intro (fun h => ?_) (fun h => ?_) <;> (try simp only [decide_eq_true_eq, decide_eq_false_iff_not, Bool.not_eq_true', Bool.not_eq_false'] at h) <;> try (exfalso; (try simp only [beq_iff_eq, beq_eq_false_iff_ne, bne_iff_ne, bne_eq_false_iff_eq, ne_eq] at h); omega))
        | (refine keeps_sub (Mem.sub_set (by simp [Mem.set_at, nomem, *])) ?_)
      refine call_F (F17 (loseD d p) false false hok'.some hok'.most) (.one (hat'.seen hsub' 0)) ?_
      rw [hlaid']
      repeat' first
        | simp -dsimp (disch := omega) only [↓rulesA, rulesB, rulesC, Int.reduceLT, nth, upd, put, storeN, AV.one, Nat.reduceBEq, Nat.reduceBNe, Int.reduceBEq, Int.reduceBNe, Int.reduceLE, Int.reduceEq, Int.reduceMod, Int.reduceNeg, boolBin, strBin, intBin, unA, fillA, ne_eq, reduceCtorEq, Nat.reduceAdd, Nat.reduceSub, Nat.reduceLeDiff, Nat.reduceLT, Nat.reduceEqDiff, Int.reduceToNat, eq_self, rulesT, bne_self_eq_false, mm_min, mm_max, buOf_some, nilCheck_vp, nilCheck_ptr, nilCheck_yld, nilCheck_func, *]
        | (refine allK_intro fun n hn => ?_; try simp only [fresh_set] at hn)
        | (refine ifK_intro (fun h => ?_) (fun h => ?_) <;> (try simp only [decide_eq_true_eq, decide_eq_false_iff_not, Bool.not_eq_true', Bool.not_eq_false'] at h) <;> try (exfalso; (try simp only [beq_iff_eq, beq_eq_false_iff_ne, bne_iff_ne, bne_eq_false_iff_eq, ne_eq] at h); omega))
        | (refine keeps_sub (Mem.sub_set (by simp [Mem.set_at, nomem, *])) ?_)
      refine call_F (F12 (loseD d p) false false hok'.some) (.one (hat'.seen hsub' 0)) ?_
      rw [hdead']
      repeat' first
        | simp -dsimp (disch := omega) only [↓rulesA, rulesB, rulesC, Int.reduceLT, nth, upd, put, storeN, AV.one, Nat.reduceBEq, Nat.reduceBNe, Int.reduceBEq, Int.reduceBNe, Int.reduceLE, Int.reduceEq, Int.reduceMod, Int.reduceNeg, boolBin, strBin, intBin, unA, fillA, ne_eq, reduceCtorEq, Nat.reduceAdd, Nat.reduceSub, Nat.reduceLeDiff, Nat.reduceLT, Nat.reduceEqDiff, Int.reduceToNat, eq_self, rulesT, bne_self_eq_false, mm_min, mm_max, buOf_some, nilCheck_vp, nilCheck_ptr, nilCheck_yld, nilCheck_func, *]
        | (refine allK_intro fun n hn => ?_; try simp only [fresh_set] at hn)
        | (refine ifK_intro (fun h => ?_) (fun h => ?_) <;> (try simp only [decide_eq_true_eq, decide_eq_false_iff_not, Bool.not_eq_true', Bool.not_eq_false'] at h) <;> try (exfalso; (try simp only [beq_iff_eq, beq_eq_false_iff_ne, bne_iff_ne, bne_eq_false_iff_eq, ne_eq] at h); omega))
        | (refine keeps_sub (Mem.sub_set (by simp [Mem.set_at, nomem, *])) ?_)
      refine loop_intro (fun j env m => ∃ i : Nat, i ≤ sz ∧ j = sz - i ∧ m = M3 ∧ env.length = 176 ∧ nth env 3 = .val (.int .u64 p) ∧ nth env 9 = .ptr N 0 ∧ nth env 13 = .vs ((imgL d1.laid).map byteC) false ∧ nth env 14 = .sl nS 0 sz sz ∧ nth env 17 = .vs ((dirtyOf d.list).map natC) false ∧ nth env 18 = .vs ((imgL L2).map byteC) false ∧
        nth env 100 = .val (.int .i64 sz) ∧ nth env 101 = .val (.int .i64 i)) sz _ (Mem.sub.refl _) ⟨0, by omega, by omega, rfl, ?_, ?_, ?_, ?_, ?_, ?_, ?_, ?_, ?_⟩ ?_
      all_goals try (simp (disch := omega) only [nth_upd, pickB_true, pickB_false, inB_lt, upd_len, Nat.reduceBEq, beq_self_eq_true, Int.cast_ofNat_Int, hlen, e3, e9, e13, e14]; done)
      clear hlen e3 e9 e10 e13 e14 e57 e58 e59 e7 hi hw hfl
      rintro j env m ⟨i, hi, rfl, rfl, hlen, e3, e9, e13, e14, e17, e18, e100, e101⟩
      have k1 : (i : Int) * 64 = ((i * 64 : Nat) : Int) := by omega
      have k2 : ((i : Int) + 1) * 64 = ((i * 64 + 64 : Nat) : Int) := by omega
      have k3 : i * 64 + 64 - i * 64 = 64 := by omega
      repeat' first
        | simp -dsimp (disch := omega) only [↓rulesA, rulesB, rulesC, Int.reduceLT, nth, upd, put, storeN, AV.one, Nat.reduceBEq, Nat.reduceBNe, Int.reduceBEq, Int.reduceBNe, Int.reduceLE, Int.reduceEq, Int.reduceMod, Int.reduceNeg, boolBin, strBin, intBin, unA, fillA, ne_eq, reduceCtorEq, Nat.reduceAdd, Nat.reduceSub, Nat.reduceLeDiff, Nat.reduceLT, Nat.reduceEqDiff, Int.reduceToNat, eq_self, rulesT, bne_self_eq_false, mm_min, mm_max, buOf_some, nilCheck_vp, nilCheck_ptr, nilCheck_yld, nilCheck_func, rlohi_27, *]
        | (refine allK_intro fun n hn => ?_; try simp only [fresh_set] at hn)
        | (refine ifK_intro (fun h => ?_) (fun h => ?_) <;> (try simp only [decide_eq_true_eq, decide_eq_false_iff_not, Bool.not_eq_true', Bool.not_eq_false'] at h) <;> try (exfalso; (try simp only [beq_iff_eq, beq_eq_false_iff_ne, bne_iff_ne, bne_eq_false_iff_eq, ne_eq] at h); omega))
        | (refine keeps_sub (Mem.sub_set (by simp [Mem.set_at, nomem, *])) ?_)
      · have his' : i < sz := by omega
        have hx : (⟨(L2.getD i default).l.toArray⟩ : ByteArray) = last.getD i default := by
          rcases (hor : ∀ k, _ → _) i his' with e | e
          · exfalso
            rw [img_part L2 i (by omega), img_part d1.laid i (by omega), e] at h
            simp at h
          · exact e
        have hp : List.take 64 (List.drop (i * 64) (imgL L2)) = (L2.getD i default).l := img_part L2 i (by omega)
        repeat' first
          | simp -dsimp (disch := omega) only [↓rulesA, rulesB, rulesC, Int.reduceLT, nth, upd, put, storeN, AV.one, Nat.reduceBEq, Nat.reduceBNe, Int.reduceBEq, Int.reduceBNe, Int.reduceLE, Int.reduceEq, Int.reduceMod, Int.reduceNeg, boolBin, strBin, intBin, unA, fillA, ne_eq, reduceCtorEq, Nat.reduceAdd, Nat.reduceSub, Nat.reduceLeDiff, Nat.reduceLT, Nat.reduceEqDiff, Int.reduceToNat, eq_self, rulesT, bne_self_eq_false, mm_min, mm_max, buOf_some, nilCheck_vp, nilCheck_ptr, nilCheck_yld, nilCheck_func, str_at, Nat.mul_one, hp, hx, *]
          | (refine allK_intro fun n hn => ?_; try simp only [fresh_set] at hn)
          | (refine ifK_intro (fun h => ?_) (fun h => ?_) <;> (try simp only [decide_eq_true_eq, decide_eq_false_iff_not, Bool.not_eq_true', Bool.not_eq_false'] at h) <;> try (exfalso; (try simp only [beq_iff_eq, beq_eq_false_iff_ne, bne_iff_ne, bne_eq_false_iff_eq, ne_eq] at h); omega))
          | (refine keeps_sub (Mem.sub_set (by simp [Mem.set_at, nomem, *])) ?_)
        refine again_intro (sz - (i + 1)) (by omega) _ (Mem.sub.refl _) ⟨i + 1, by omega, rfl, rfl, ?_, ?_, ?_, ?_, ?_, ?_, ?_, ?_, ?_⟩
        all_goals try (simp (disch := omega) only [nth_upd, pickB_true, pickB_false, inB_lt, upd_len, cast_succ, Nat.reduceBEq, beq_self_eq_true, reduceCtorEq, *]; done)
      · refine again_intro (sz - (i + 1)) (by omega) _ (Mem.sub.refl _) ⟨i + 1, by omega, rfl, rfl, ?_, ?_, ?_, ?_, ?_, ?_, ?_, ?_, ?_⟩
        all_goals try (simp (disch := omega) only [nth_upd, pickB_true, pickB_false, inB_lt, upd_len, cast_succ, Nat.reduceBEq, beq_self_eq_true, reduceCtorEq, *]; done)
      · have hisz : i = sz := by omega
        refine loop_intro (fun j env m' => ∃ i : Nat, i ≤ d.list.length ∧ j = d.list.length - i ∧ m' = m ∧ env.length = 176 ∧ nth env 3 = .val (.int .u64 p) ∧ nth env 9 = .ptr N 0 ∧ nth env 14 = .sl nS 0 sz sz ∧ nth env 18 = .vs ((imgL L2).map byteC) false ∧ nth env 131 = .vs ((dirtyOf d.list).map natC) false ∧
          nth env 132 = .val (.int .i64 d.list.length) ∧ nth env 133 = .val (.int .i64 i)) d.list.length _ (Mem.sub.refl _) ⟨0, by omega, by omega, rfl, ?_, ?_, ?_, ?_, ?_, ?_, ?_, ?_⟩ ?_
        all_goals try (simp (disch := omega) only [nth_upd, pickB_true, pickB_false, inB_lt, upd_len, Nat.reduceBEq, beq_self_eq_true, Int.cast_ofNat_Int, hlen, e3, e9, e14, e18]; done)
        clear hlen e3 e9 e13 e14 e17 e18 e100 e101 k1 k2 k3 hisz hi
        rintro j env m' ⟨i, hi, rfl, rfl, hlen, e3, e9, e14, e18, e131, e132, e133⟩
        by_cases hil : i < d.list.length
        · obtain ⟨k, hk⟩ : ∃ k, k = (d.list.getD i default).at_ := ⟨_, rfl⟩
          have hki : (dirtyOf d.list).getD i default = k := by rw [hk]; unfold dirtyOf; rw [getD_map _ _ _ hil]
          have hkn : k < sz := by rw [hk]; exact (hdl : ∀ j, _ → _) i hil
          have hb : Kept (bitAt p i = true → (⟨(L2.getD k default).l.toArray⟩ : ByteArray) = last.getD k default) := fun h => by rw [hk]; exact ((his : ∀ j, _ → _ → _) i hil h).2
          have k1 : (k : Int) * 64 = ((k * 64 : Nat) : Int) := by omega
          have k2 : ((k : Int) + 1) * 64 = ((k * 64 + 64 : Nat) : Int) := by omega
          have k3 : k * 64 + 64 - k * 64 = 64 := by omega
          have hp : List.take 64 (List.drop (k * 64) (imgL L2)) = (L2.getD k default).l := img_part L2 k (by omega)
          clear hk
          repeat' first
            | simp -dsimp (disch := omega) only [↓rulesA, rulesB, rulesC, Int.reduceLT, nth, upd, put, storeN, AV.one, Nat.reduceBEq, Nat.reduceBNe, Int.reduceBEq, Int.reduceBNe, Int.reduceLE, Int.reduceEq, Int.reduceMod, Int.reduceNeg, boolBin, strBin, intBin, unA, fillA, ne_eq, reduceCtorEq, Nat.reduceAdd, Nat.reduceSub, Nat.reduceLeDiff, Nat.reduceLT, Nat.reduceEqDiff, Int.reduceToNat, eq_self, rulesT, bne_self_eq_false, mm_min, mm_max, buOf_some, nilCheck_vp, nilCheck_ptr, nilCheck_yld, nilCheck_func, rlohi_27, ix_39, nat_g0, tmod64, natNeg, *]
            | (refine allK_intro fun n hn => ?_; try simp only [fresh_set] at hn)
            | (refine ifK_intro (fun h => ?_) (fun h => ?_) <;> (try simp only [decide_eq_true_eq, decide_eq_false_iff_not, Bool.not_eq_true', Bool.not_eq_false'] at h) <;> try (exfalso; (try simp only [beq_iff_eq, beq_eq_false_iff_ne, bne_iff_ne, bne_eq_false_iff_eq, ne_eq] at h); omega))
            | (refine keeps_sub (Mem.sub_set (by simp [Mem.set_at, nomem, *])) ?_)
          · have hx : (⟨(L2.getD k default).l.toArray⟩ : ByteArray) = last.getD k default := (hb : _ → _) h
            repeat' first
              | simp -dsimp (disch := omega) only [↓rulesA, rulesB, rulesC, Int.reduceLT, nth, upd, put, storeN, AV.one, Nat.reduceBEq, Nat.reduceBNe, Int.reduceBEq, Int.reduceBNe, Int.reduceLE, Int.reduceEq, Int.reduceMod, Int.reduceNeg, boolBin, strBin, intBin, unA, fillA, ne_eq, reduceCtorEq, Nat.reduceAdd, Nat.reduceSub, Nat.reduceLeDiff, Nat.reduceLT, Nat.reduceEqDiff, Int.reduceToNat, eq_self, rulesT, bne_self_eq_false, mm_min, mm_max, buOf_some, nilCheck_vp, nilCheck_ptr, nilCheck_yld, nilCheck_func, str_at, Nat.mul_one, hp, hx, *]
              | (refine allK_intro fun n hn => ?_; try simp only [fresh_set] at hn)
              | (refine ifK_intro (fun h => ?_) (fun h => ?_) <;> (try simp only [decide_eq_true_eq, decide_eq_false_iff_not, Bool.not_eq_true', Bool.not_eq_false'] at h) <;> try (exfalso; (try simp only [beq_iff_eq, beq_eq_false_iff_ne, bne_iff_ne, bne_eq_false_iff_eq, ne_eq] at h); omega))
              | (refine keeps_sub (Mem.sub_set (by simp [Mem.set_at, nomem, *])) ?_)
            refine again_intro (d.list.length - (i + 1)) (by omega) _ (Mem.sub.refl _) ⟨i + 1, by omega, rfl, rfl, ?_, ?_, ?_, ?_, ?_, ?_, ?_, ?_⟩
            all_goals try (simp (disch := omega) only [nth_upd, pickB_true, pickB_false, inB_lt, upd_len, cast_succ, Nat.reduceBEq, beq_self_eq_true, reduceCtorEq, *]; done)
          · refine again_intro (d.list.length - (i + 1)) (by omega) _ (Mem.sub.refl _) ⟨i + 1, by omega, rfl, rfl, ?_, ?_, ?_, ?_, ?_, ?_, ?_, ?_⟩
            all_goals try (simp (disch := omega) only [nth_upd, pickB_true, pickB_false, inB_lt, upd_len, cast_succ, Nat.reduceBEq, beq_self_eq_true, reduceCtorEq, *]; done)
        · repeat' first
            | simp -dsimp (disch := omega) only [↓rulesA, rulesB, rulesC, Int.reduceLT, nth, upd, put, storeN, AV.one, Nat.reduceBEq, Nat.reduceBNe, Int.reduceBEq, Int.reduceBNe, Int.reduceLE, Int.reduceEq, Int.reduceMod, Int.reduceNeg, boolBin, strBin, intBin, unA, fillA, ne_eq, reduceCtorEq, Nat.reduceAdd, Nat.reduceSub, Nat.reduceLeDiff, Nat.reduceLT, Nat.reduceEqDiff, Int.reduceToNat, eq_self, rulesT, bne_self_eq_false, mm_min, mm_max, buOf_some, nilCheck_vp, nilCheck_ptr, nilCheck_yld, nilCheck_func, *]
            | (refine allK_intro fun n hn => ?_; try simp only [fresh_set] at hn)
            | (refine ifK_intro (fun h => ?_) (fun h => ?_) <;> (try simp only [decide_eq_true_eq, decide_eq_false_iff_not, Bool.not_eq_true', Bool.not_eq_false'] at h) <;> try (exfalso; (try simp only [beq_iff_eq, beq_eq_false_iff_ne, bne_iff_ne, bne_eq_false_iff_eq, ne_eq] at h); omega))
            | (refine keeps_sub (Mem.sub_set (by simp [Mem.set_at, nomem, *])) ?_)
          · refine call_at (C20 (loseD d p) hok'.some hat') hsub' fun r m4 M4 ⟨hr, hat''⟩ hsub'' _ => ?_
            subst hr
            have hok'' := Ok.on hok'
            repeat' first
              | simp -dsimp (disch := omega) only [↓rulesA, rulesB, rulesC, Int.reduceLT, nth, upd, put, storeN, AV.one, Nat.reduceBEq, Nat.reduceBNe, Int.reduceBEq, Int.reduceBNe, Int.reduceLE, Int.reduceEq, Int.reduceMod, Int.reduceNeg, boolBin, strBin, intBin, unA, fillA, ne_eq, reduceCtorEq, Nat.reduceAdd, Nat.reduceSub, Nat.reduceLeDiff, Nat.reduceLT, Nat.reduceEqDiff, Int.reduceToNat, eq_self, rulesT, bne_self_eq_false, mm_min, mm_max, buOf_some, nilCheck_vp, nilCheck_ptr, nilCheck_yld, nilCheck_func, *]
              | (refine allK_intro fun n hn => ?_; try simp only [fresh_set] at hn)
              | (refine ifK_intro (fun h => ?_) (fun h => ?_) <;> (try simp only [decide_eq_true_eq, decide_eq_false_iff_not, Bool.not_eq_true', Bool.not_eq_false'] at h) <;> try (exfalso; (try simp only [beq_iff_eq, beq_eq_false_iff_ne, bne_iff_ne, bne_eq_false_iff_eq, ne_eq] at h); omega))
              | (refine keeps_sub (Mem.sub_set (by simp [Mem.set_at, nomem, *])) ?_)
            refine call_F (F12 (onD (loseD d p)) false false hok''.some) (.one (hat''.seen hsub'' 0)) ?_
            have e1 : (onD (loseD d p)).dead = false := rfl
            rw [e1]
            repeat' first
              | simp -dsimp (disch := omega) only [↓rulesA, rulesB, rulesC, Int.reduceLT, nth, upd, put, storeN, AV.one, Nat.reduceBEq, Nat.reduceBNe, Int.reduceBEq, Int.reduceBNe, Int.reduceLE, Int.reduceEq, Int.reduceMod, Int.reduceNeg, boolBin, strBin, intBin, unA, fillA, ne_eq, reduceCtorEq, Nat.reduceAdd, Nat.reduceSub, Nat.reduceLeDiff, Nat.reduceLT, Nat.reduceEqDiff, Int.reduceToNat, eq_self, rulesT, bne_self_eq_false, mm_min, mm_max, buOf_some, nilCheck_vp, nilCheck_ptr, nilCheck_yld, nilCheck_func, *]
              | (refine allK_intro fun n hn => ?_; try simp only [fresh_set] at hn)
              | (refine ifK_intro (fun h => ?_) (fun h => ?_) <;> (try simp only [decide_eq_true_eq, decide_eq_false_iff_not, Bool.not_eq_true', Bool.not_eq_false'] at h) <;> try (exfalso; (try simp only [beq_iff_eq, beq_eq_false_iff_ne, bne_iff_ne, bne_eq_false_iff_eq, ne_eq] at h); omega))
              | (refine keeps_sub (Mem.sub_set (by simp [Mem.set_at, nomem, *])) ?_)
            refine call_F (F18 (onD (loseD d p)) false false hok''.some hok''.list) (.one (hat''.seen hsub'' 0)) ?_
            have e2 : (dirtyOf (onD (loseD d p)).list).length = 0 := by
              have : (onD (loseD d p)).list = [] := hlist'
              rw [this]; rfl
            repeat' first
              | simp -dsimp (disch := omega) only [↓rulesA, rulesB, rulesC, Int.reduceLT, nth, upd, put, storeN, AV.one, Nat.reduceBEq, Nat.reduceBNe, Int.reduceBEq, Int.reduceBNe, Int.reduceLE, Int.reduceEq, Int.reduceMod, Int.reduceNeg, boolBin, strBin, intBin, unA, fillA, ne_eq, reduceCtorEq, Nat.reduceAdd, Nat.reduceSub, Nat.reduceLeDiff, Nat.reduceLT, Nat.reduceEqDiff, Int.reduceToNat, eq_self, rulesT, bne_self_eq_false, mm_min, mm_max, buOf_some, nilCheck_vp, nilCheck_ptr, nilCheck_yld, nilCheck_func, *]
              | (refine allK_intro fun n hn => ?_; try simp only [fresh_set] at hn)
              | (refine ifK_intro (fun h => ?_) (fun h => ?_) <;> (try simp only [decide_eq_true_eq, decide_eq_false_iff_not, Bool.not_eq_true', Bool.not_eq_false'] at h) <;> try (exfalso; (try simp only [beq_iff_eq, beq_eq_false_iff_ne, bne_iff_ne, bne_eq_false_iff_eq, ne_eq] at h); omega))
              | (refine keeps_sub (Mem.sub_set (by simp [Mem.set_at, nomem, *])) ?_)
              | (refine call_F (F14) (Seens.refl _ _) ?_)
              | (refine pure_F (F14) (Seens.refl _ _) ?_)
            exact .val
theorem wall_law : ∀ args, ShapedAll Try.prog Try.f4.params.toList args → F Try.prog 4 args (.val (.bool true)) := by
  intro args h
  have hp : Try.f4.params.toList = [3, 22, 22, 23] := by kernel_rfl
  rw [hp] at h
  match args, h with
  | [a, b, c, d], ⟨h0, h1, h2, h3, _⟩ =>
    obtain ⟨x, rfl, _⟩ := (h0.one ti_3 rfl).i64 ti_3 rfl
    obtain ⟨l, rfl, l1, l2⟩ := dup_of h1
    obtain ⟨l', rfl, l1', l2'⟩ := dup_of h2
    obtain ⟨p, rfl, _⟩ := (h3.one ti_23 rfl).u64 ti_23 rfl
    exact F4 x l l' p l1 l1'
end Go.Proofs.Ytkfjjjjejdogbaa

