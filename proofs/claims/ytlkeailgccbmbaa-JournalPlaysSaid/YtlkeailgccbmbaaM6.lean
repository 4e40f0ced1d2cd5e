/- The texts E27 E28 E29 E30 E31: what is proved on the way to the law. No conditions but those each theorem states. -/
import Derived.Test.YtlkeailgccbmbaaM5
set_option maxRecDepth 100000
set_option maxHeartbeats 1000000
set_option linter.unusedSimpArgs false
set_option linter.unusedVariables false
namespace Go.Proofs.Ytlkeailgccbmbaa
open Go.Abs
attribute [local irreducible] C X CC Y CV CW binK litK AppK PureC PureCV againK loopV rangeV allK ifK got onB condK V stepsK planK opK firstK seeE keepsK
theorem C20_no (d : Dev) (hd1 : 1 ≤ d.laid.length) (hm : d.laid.length ≤ 4096) {Nd : Nat} {m : Mem} (hat : d.RAt Nd m) (fr cnt first : Int) (hno : ¬ OpenOk d fr cnt first) : C Try.prog 20 [.ptr Nd 0, .val (.int .i64 fr), .val (.int .i64 cnt), .val (.int .i64 first)] m (fun r m' => r = .tup [.val (.pointer none), .val (.slice none 0 0), .val (.int .i64 20)] ∧ m' = m) := by
  obtain ⟨pk', hs, -⟩ := hat.seen (Mem.sub.refl m) 0
  have f42 := F42 d pk' false false hm
  obtain ⟨nC, nD, pk, h1, h2, h3, h4, hm0⟩ := hat
  have a1 : m Nd = some (.cells false 80 (d.ro nD (d.rrow nC) pk)) := by rw [hm0]; exact Mem.set_same _ _ _
  clear hm0 h4
  replace hno : Kept _ := hno
  refine C20_of ?_
  unfold k20
  repeat' first
    | simp -dsimp (disch := omega) only [↓rulesA, rulesB, rulesC, Int.reduceLT, nth, upd, put, storeN, AV.one, Nat.reduceBEq, Nat.reduceBNe, Int.reduceBEq, Int.reduceBNe, Int.reduceLE, Int.reduceEq, Int.reduceMod, Int.reduceNeg, boolBin, strBin, intBin, unA, fillA, ne_eq, reduceCtorEq, Nat.reduceAdd, Nat.reduceSub, Nat.reduceLeDiff, Nat.reduceLT, Nat.reduceEqDiff, Int.reduceToNat, eq_self, rulesT, rulesD, Dev.rrow, Dev.ro, Dev.t4, Dev.p0, Dev.p1, Dev.p2, Dev.p3, Dev.p4, Dev.p5, Dev.p6, Dev.p7, Dev.plen, Dev.t2, Dev.t3, Dev.t5, Dev.t6, Dev.t7, resL_three, three_some, *]
    | (refine allK_intro fun n hn => ?_; try simp only [fresh_set] at hn)
    | (refine ifK_intro (fun h => ?_) (fun h => ?_) <;> (try simp only [rulesE] at h) <;> try (exfalso; (try simp only [rulesF] at h); omega))
    | (refine keeps_sub (Mem.sub_set ?_) ?_; focus (simp [Mem.set_at, nomem, *]; done))
    | (refine call_F (f42) (.one hs) ?_)
    | (refine pure_F (f42) (.one hs) ?_)
  all_goals first | exact ⟨rfl, rfl⟩ | exact absurd (show OpenOk d fr cnt first from ⟨by omega, by omega, by omega, by omega, by omega, by omega⟩) hno
theorem C20_dead (d : Dev) (hd1 : 1 ≤ d.laid.length) (hm : d.laid.length ≤ 4096) {Nd : Nat} {m : Mem} (hat : d.RAt Nd m) (fr cnt first : Int) (hok : OpenOk d fr cnt first) (hdead : d.dead = true) : C Try.prog 20 [.ptr Nd 0, .val (.int .i64 fr), .val (.int .i64 cnt), .val (.int .i64 first)] m (fun r m' => r = .tup [.val (.pointer none), .val (.slice none 0 0), .val (.int .i64 22)] ∧ m' = m) := by
  obtain ⟨o1, o2, o3, o4, o5, o6⟩ := hok
  obtain ⟨pk', hs, -⟩ := hat.seen (Mem.sub.refl m) 0
  have f42 := F42 d pk' false false hm
  obtain ⟨nC, nD, pk, h1, h2, h3, h4, hm0⟩ := hat
  have a1 : m Nd = some (.cells false 80 (d.ro nD (d.rrow nC) pk)) := by rw [hm0]; exact Mem.set_same _ _ _
  clear hm0 h4
  refine C20_of ?_
  unfold k20
  repeat' first
    | simp -dsimp (disch := omega) only [↓rulesA, rulesB, rulesC, Int.reduceLT, nth, upd, put, storeN, AV.one, Nat.reduceBEq, Nat.reduceBNe, Int.reduceBEq, Int.reduceBNe, Int.reduceLE, Int.reduceEq, Int.reduceMod, Int.reduceNeg, boolBin, strBin, intBin, unA, fillA, ne_eq, reduceCtorEq, Nat.reduceAdd, Nat.reduceSub, Nat.reduceLeDiff, Nat.reduceLT, Nat.reduceEqDiff, Int.reduceToNat, eq_self, rulesT, rulesD, Dev.rrow, Dev.ro, Dev.t4, Dev.p0, Dev.p1, Dev.p2, Dev.p3, Dev.p4, Dev.p5, Dev.p6, Dev.p7, Dev.plen, Dev.t2, Dev.t3, Dev.t5, Dev.t6, Dev.t7, resL_three, three_some, *]
    | (refine allK_intro fun n hn => ?_; try simp only [fresh_set] at hn)
    | (refine ifK_intro (fun h => ?_) (fun h => ?_) <;> (try simp only [rulesE] at h) <;> try (exfalso; (try simp only [rulesF] at h); omega))
    | (refine keeps_sub (Mem.sub_set ?_) ?_; focus (simp [Mem.set_at, nomem, *]; done))
    | (refine call_F (f42) (.one hs) ?_)
    | (refine pure_F (f42) (.one hs) ?_)
  all_goals first | exact ⟨rfl, rfl⟩ | (exfalso; omega)
def LRow (T : List ByteArray) (v : AV) (M X : Mem) : Prop := (T = [] ∧ v = .val (.slice none 0 0) ∧ M = X) ∨ ∃ q, X q = none ∧ v = .sl q 0 T.length T.length ∧ M = X.set q (.cells true 9 (T.map txC).flatten)
theorem rjseen {r : RJ} {d : Dev} {pk : Int} {N Nd : Nat} {md M : Mem} (hd : Seen md (.ptr Nd 0) (.vp (d.rr pk false false) 0)) (hs : md.sub M) (hN : M N = some (.cells false 82 (r.own Nd))) : Seen M (.ptr N 0) (.vp (r.rc d pk false false) 0) :=
  Seen.ptrOf (cs := r.own Nd) hN (Nat.zero_lt_succ _) (.cons (hd.mono hs) (Seens.refl _ _))
def openR (d : Dev) (fr cnt first : Nat) : RJ := ⟨fr, cnt, atTo (stand (fr + cnt) d (fr + cnt) fr first) fr (stand (fr + cnt) d (fr + cnt) fr first).length - fr, nextTo d fr first cnt, false⟩
theorem atTo_snoc (D : List (List UInt8 × Nat)) (p : List UInt8 × Nat) (fr : Nat) : atTo (D ++ [p]) fr (D ++ [p]).length = p.2 := by
  rw [List.length_append, List.length_singleton]
  show ((D ++ [p]).getD D.length default).2 = p.2
  rw [List.getD_eq_getElem?_getD, List.getElem?_append_right (Nat.le_refl _), Nat.sub_self]; rfl
theorem LRow.sub {T : List ByteArray} {v : AV} {M X : Mem} (h : LRow T v M X) : X.sub M := by
  rcases h with ⟨_, _, rfl⟩ | ⟨q, hq, _, rfl⟩
  · exact Mem.sub.refl _
  · exact Mem.sub_set hq
theorem LRow.set {T : List ByteArray} {v : AV} {M X : Mem} (h : LRow T v M X) {N : Nat} {b0 : Blk} (hN : X N = some b0) (b : Blk) : LRow T v (M.set N b) (X.set N b) := by
  rcases h with ⟨h1, h2, rfl⟩ | ⟨q, hq, h2, rfl⟩
  · exact .inl ⟨h1, h2, rfl⟩
  · have hne : q ≠ N := fun e => by rw [e, hN] at hq; cases hq
    exact .inr ⟨q, by rw [Mem.set_ne _ _ hne]; exact hq, h2, by rw [set_comm _ hne]⟩
theorem LRow.app {T : List ByteArray} {v : AV} {M X : Mem} (h : LRow T v M X) (t : ByteArray) (hT : T.length ≤ 6000) {y : AV} (hy : srcA Try.prog M 22 1 y = some (1, txC t)) {K' : AV → Mem → Prop} {x : Hid K'} (hk : ∀ r m', LRow (T ++ [t]) r m' X → K' r m') : AppK Try.prog 22 22 v y M (hid K' x) := by
  rcases h with ⟨rfl, rfl, rfl⟩ | ⟨q, hq, rfl, rfl⟩
  · refine append_nil app_22 hy (by decide) fun N hN => hk _ _ (.inr ⟨N, hN, rfl, rfl⟩)
  · refine append_open app_22 hy (Mem.set_same _ _ _) cs_9 (by rw [tx_len, Nat.mul_one, Nat.zero_add]) (by simp; omega) fun N hN => hk _ _ (.inr ⟨N, ?_, ?_, ?_⟩)
    · simp only [fresh_set] at hN; exact hN.2.2
    · rw [List.length_append]; rfl
    · rw [List.drop_zero, Mem.del_set_eq, Mem.del_none hq, List.map_append, List.flatten_append]; rfl
theorem txts_snoc (D : List (List UInt8 × Nat)) (p : List UInt8 × Nat) : txts (D ++ [p]) = txts D ++ [⟨p.1.toArray⟩] := by simp [txts]
theorem C20_ok (d : Dev) (hd1 : 1 ≤ d.laid.length) (hm : d.laid.length ≤ 4096) (hl : d.list.length ≤ 4096) {Nd : Nat} {m : Mem} (hat : d.RAt Nd m) (fr cnt first : Nat) (h1 : 1 ≤ cnt) (h2 : fr + cnt ≤ d.laid.length) (h3 : 1 ≤ first) (h4 : first ≤ 4611686018427387904) (hdead : d.dead = false) : C Try.prog 20 [.ptr Nd 0, .val (.int .i64 fr), .val (.int .i64 cnt), .val (.int .i64 first)] m (fun r m' => ∃ N q, m N = none ∧ m q = none ∧ N ≠ q ∧ r = .tup [.ptr N 0, .sl q 0 (openT d fr cnt first).length (openT d fr cnt first).length, .val (.int .i64 0)] ∧ m' = (m.set N (.cells false 82 ((openR d fr cnt first).own Nd))).set q (.cells true 9 ((openT d fr cnt first).map txC).flatten)) := by
  obtain ⟨pk', hs, -⟩ := hat.seen (Mem.sub.refl m) 0
  have f42 := F42 d pk' false false hm
  obtain ⟨nC, nD, pk, g1, g2, g3, g4, hm0⟩ := hat
  have a1 : m Nd = some (.cells false 80 (d.ro nD (d.rrow nC) pk)) := by rw [hm0]; exact Mem.set_same _ _ _
  clear hm0 g4 g1 g2 g3
  have f43 := fun (r : RJ) (hf : r.f = fr) (hc : r.c = cnt) (k : Nat) (hk : k ≤ 4096) => F43 r d pk' false false hm hl (by omega) (by omega) k hk
  have f44 := fun (r : RJ) (hf : r.f = fr) (k : Nat) (hk : k ≤ 8192) => F44 r d pk' false false hm hl (by omega) k hk
  refine C.turn (C20_of ?_)
  unfold k20
  repeat' first
    | simp -dsimp (disch := omega) only [↓rulesA, rulesB, rulesC, Int.reduceLT, nth, upd, put, storeN, AV.one, Nat.reduceBEq, Nat.reduceBNe, Int.reduceBEq, Int.reduceBNe, Int.reduceLE, Int.reduceEq, Int.reduceMod, Int.reduceNeg, boolBin, strBin, intBin, unA, fillA, ne_eq, reduceCtorEq, Nat.reduceAdd, Nat.reduceSub, Nat.reduceLeDiff, Nat.reduceLT, Nat.reduceEqDiff, Int.reduceToNat, eq_self, rulesT, rulesD, Dev.rrow, Dev.ro, Dev.t4, Dev.p0, Dev.p1, Dev.p2, Dev.p3, Dev.p4, Dev.p5, Dev.p6, Dev.p7, Dev.plen, Dev.t2, Dev.t3, Dev.t5, Dev.t6, Dev.t7, resL_three, three_some, *]
    | (refine allK_intro fun n hn => ?_; try simp only [fresh_set] at hn)
    | (refine ifK_intro (fun h => ?_) (fun h => ?_) <;> (try simp only [rulesE] at h) <;> try (exfalso; (try simp only [rulesF] at h); omega))
    | (refine keeps_sub (Mem.sub_set ?_) ?_; focus (simp [Mem.set_at, nomem, *]; done))
    | (refine call_F (f42) (.one hs) ?_)
    | (refine pure_F (f42) (.one hs) ?_)
  obtain ⟨L, eL⟩ : ∃ L, L = stand (fr + cnt) d (fr + cnt) fr first := ⟨_, rfl⟩
  have hLle : L.length ≤ 4096 := by rw [eL]; have := stand_len (fr + cnt) d (fr + cnt) fr first; omega
  revert n
  intro N hN
  refine loop_intro (fun jj env m' => ∃ (a w : Nat) (ok : Bool) (D R : List (List UInt8 × Nat)), a ≤ cnt ∧ jj = (cnt - a) + (if ok = true then 1 else 0) ∧ L = D ++ R ∧ fr + a = atTo D fr D.length ∧ (ok = true → R = stand (fr + cnt) d (fr + cnt) (fr + a) (w + 1)) ∧ (ok = false → R = []) ∧ w ≤ 4611686018427387904 ∧ LRow (txts D) (nth env 12) m' (m.set N (.cells false 82 ((⟨fr, cnt, a, first, false⟩ : RJ).own Nd))) ∧ env.length = 137 ∧ nth env 2 = .val (.int .i64 cnt) ∧ nth env 11 = .ptr N 0 ∧ nth env 13 = .val (.int .i64 w) ∧ nth env 14 = .val (.bool ok)) (cnt + 1) _ (Mem.sub.refl _) ⟨0, first - 1, true, [], L, by omega, rfl, rfl, rfl, fun _ => by rw [eL, Nat.add_zero, Nat.sub_add_cancel h3], fun h => (by cases h), by omega, .inl ⟨rfl, rfl, rfl⟩, rfl, rfl, rfl, ?_, rfl⟩ ?_
  · have e : ((first - 1 : Nat) : Int) = (first : Int) - 1 := by omega
    rw [e]; rfl
  rintro jj env M ⟨a, w, ok, D, R, ha, rfl, hL, hpos, hok, hno, hw, hrow, hlen, e2, e11, e13, e14⟩
  generalize e12 : nth env 12 = v12 at hrow
  have hXN : (m.set N (.cells false 82 ((⟨fr, cnt, a, first, false⟩ : RJ).own Nd))) N = some (.cells false 82 ((⟨fr, cnt, a, first, false⟩ : RJ).own Nd)) := Mem.set_same _ _ _
  have hMN := hrow.sub _ _ hXN
  have hsub : m.sub M := (Mem.sub_set hN).trans hrow.sub
  have hjs := rjseen hs hsub hMN
  have hDl : D.length ≤ 4096 := by rw [hL, List.length_append] at hLle; omega
  have htl : (txts D).length = D.length := List.length_map _
  by_cases hgo : ok = true ∧ a < cnt
  · obtain ⟨rfl, hac⟩ := hgo
    have hR := hok rfl
    have hst := stand_ref (e := fr + cnt) (d := d) (a := fr + a) (w := w) (by omega)
    rw [← hR] at hst
    have hF := f43 ⟨fr, cnt, a, first, false⟩ rfl rfl a (by omega)
    have hF4 := f44 ⟨fr, cnt, a, first, false⟩ rfl a (by omega)
    dsimp only at hF hF4
    have hna := numAt_le d (fr + a)
    generalize readK (fr + cnt) d (fr + a) = p at hst hF
    obtain ⟨rec, is⟩ := p
    unfold readKC at hF
    dsimp only at hst hF
    generalize numAt d (fr + a) = nu at hst hF4 hna
    clear f43 hok hno hR
    replace hpos : Kept _ := hpos
    replace hL : Kept _ := hL
    replace eL : Kept _ := eL
    rcases hst with ⟨⟨rfl, hwn⟩, k3, k4, k5⟩ | ⟨k1, k2⟩
    · have h30 := F30 rec.length (by omega)
      have hn1 := needN_pos rec.length
      replace k5 : Kept _ := k5
      have hgt : ((nu : Int) > (w : Int)) := by omega
      repeat' first
        | simp -dsimp (disch := omega) only [↓rulesA, rulesB, rulesC, Int.reduceLT, nth, upd, put, storeN, AV.one, Nat.reduceBEq, Nat.reduceBNe, Int.reduceBEq, Int.reduceBNe, Int.reduceLE, Int.reduceEq, Int.reduceMod, Int.reduceNeg, boolBin, strBin, intBin, unA, fillA, ne_eq, reduceCtorEq, Nat.reduceAdd, Nat.reduceSub, Nat.reduceLeDiff, Nat.reduceLT, Nat.reduceEqDiff, Int.reduceToNat, eq_self, rulesT, rulesD, RJ.o3, text_size, *]
        | (refine allK_intro fun n hn => ?_; try simp only [fresh_set] at hn)
        | (refine ifK_intro (fun h => ?_) (fun h => ?_) <;> (try simp only [rulesE] at h) <;> try (exfalso; (try simp only [rulesF] at h); omega))
        | (refine keeps_sub (Mem.sub_set ?_) ?_; focus (simp [Mem.set_at, nomem, *]; done))
        | (refine call_F (hF) (.two hjs .same) ?_)
        | (refine pure_F (hF) (.two hjs .same) ?_)
        | (refine call_F (hF4) (.two hjs .same) ?_)
        | (refine pure_F (hF4) (.two hjs .same) ?_)
      refine lit_vs (lit1_22 _) rfl ?_
      repeat' first
        | simp -dsimp (disch := omega) only [↓rulesA, rulesB, rulesC, Int.reduceLT, nth, upd, put, storeN, AV.one, Nat.reduceBEq, Nat.reduceBNe, Int.reduceBEq, Int.reduceBNe, Int.reduceLE, Int.reduceEq, Int.reduceMod, Int.reduceNeg, boolBin, strBin, intBin, unA, fillA, ne_eq, reduceCtorEq, Nat.reduceAdd, Nat.reduceSub, Nat.reduceLeDiff, Nat.reduceLT, Nat.reduceEqDiff, Int.reduceToNat, eq_self, rulesT, rulesD, *]
        | (refine allK_intro fun n hn => ?_; try simp only [fresh_set] at hn)
        | (refine ifK_intro (fun h => ?_) (fun h => ?_) <;> (try simp only [rulesE] at h) <;> try (exfalso; (try simp only [rulesF] at h); omega))
        | (refine keeps_sub (Mem.sub_set ?_) ?_; focus (simp [Mem.set_at, nomem, *]; done))
      refine hrow.app ⟨rec.toArray⟩ (by rw [htl]; omega) (src_22 _ [⟨rec.toArray⟩] true) fun r' M' hrow' => ?_
      have hMN' := hrow'.sub _ _ hXN
      have hjs' := rjseen hs ((Mem.sub_set hN).trans hrow'.sub) hMN'
      have e : Kept (∀ v, v = r' → LRow (txts (D ++ [(rec, fr + a + needN rec.length)])) v (M'.set N (.cells false 82 ((⟨fr, cnt, a + needN rec.length, first, false⟩ : RJ).own Nd))) (m.set N (.cells false 82 ((⟨fr, cnt, a + needN rec.length, first, false⟩ : RJ).own Nd)))) := fun v hv => by
        have := hrow'.set hXN (.cells false 82 ((⟨fr, cnt, a + needN rec.length, first, false⟩ : RJ).own Nd))
        rw [Mem.set_set] at this
        rw [hv, txts_snoc]; exact this
      have s3' : setRange ((⟨fr, cnt, a, first, false⟩ : RJ).own Nd) 3 [.val (.int .i64 ((a : Int) + (needN rec.length : Int)))] = (⟨fr, cnt, a + needN rec.length, first, false⟩ : RJ).own Nd := rfl
      have hna1 : needN rec.length ≤ 4096 := by omega
      clear hrow' hrow hMN hjs hsub hXN
      repeat' first
        | simp -dsimp (disch := omega) only [↓rulesA, rulesB, rulesC, Int.reduceLT, nth, upd, put, storeN, AV.one, Nat.reduceBEq, Nat.reduceBNe, Int.reduceBEq, Int.reduceBNe, Int.reduceLE, Int.reduceEq, Int.reduceMod, Int.reduceNeg, boolBin, strBin, intBin, unA, fillA, ne_eq, reduceCtorEq, Nat.reduceAdd, Nat.reduceSub, Nat.reduceLeDiff, Nat.reduceLT, Nat.reduceEqDiff, Int.reduceToNat, eq_self, rulesT, rulesD, RJ.o3, RJ.olen, text_size, s3', *]
        | (refine allK_intro fun n hn => ?_; try simp only [fresh_set] at hn)
        | (refine ifK_intro (fun h => ?_) (fun h => ?_) <;> (try simp only [rulesE] at h) <;> try (exfalso; (try simp only [rulesF] at h); omega))
        | (refine keeps_sub (Mem.sub_set ?_) ?_; focus (simp [Mem.set_at, nomem, *]; done))
        | (refine call_F (hF4) (.two hjs' .same) ?_)
        | (refine pure_F (hF4) (.two hjs' .same) ?_)
        | (refine call_F (h30) (Seens.refl _ _) ?_)
        | (refine pure_F (h30) (Seens.refl _ _) ?_)
      refine again_intro ((cnt - (a + needN rec.length)) + 1) (by omega) _ (Mem.sub.refl _) ⟨a + needN rec.length, nu, true, D ++ [(rec, fr + a + needN rec.length)], stand (fr + cnt) d (fr + cnt) (fr + a + needN rec.length) (nu + 1), by omega, rfl, ?_, ?_, fun _ => by rw [Nat.add_assoc], fun h => (by cases h), by omega, (e : ∀ _, _) _ ?_, ?_, ?_, ?_, ?_, ?_⟩
      · rw [(hL : _ = _), (k5 : _ = _), List.append_assoc]; rfl
      · rw [atTo_snoc, Nat.add_assoc]
      all_goals try (simp (disch := omega) only [nth_upd, pickB_true, pickB_false, inB_lt, upd_len, cast_succ, Int.cast_ofNat_Int, Nat.reduceBEq, beq_self_eq_true, reduceCtorEq, *]; done)
    · have k2' : Kept (R = []) := k2
      clear k2
      have kf : is = false ∨ is = true ∧ ¬ (nu : Int) > (w : Int) := by
        cases is with
        | false => exact .inl rfl
        | true => exact .inr ⟨rfl, fun h => k1 ⟨rfl, by omega⟩⟩
      clear k1
      have e : Kept (∀ v, v = v12 → LRow (txts D) v M (m.set N (.cells false 82 ((⟨fr, cnt, a, first, false⟩ : RJ).own Nd)))) := fun v hv => by rw [hv]; exact hrow
      clear hrow
      rcases kf with rfl | ⟨rfl, kf⟩
      · repeat' first
          | simp -dsimp (disch := omega) only [↓rulesA, rulesB, rulesC, Int.reduceLT, nth, upd, put, storeN, AV.one, Nat.reduceBEq, Nat.reduceBNe, Int.reduceBEq, Int.reduceBNe, Int.reduceLE, Int.reduceEq, Int.reduceMod, Int.reduceNeg, boolBin, strBin, intBin, unA, fillA, ne_eq, reduceCtorEq, Nat.reduceAdd, Nat.reduceSub, Nat.reduceLeDiff, Nat.reduceLT, Nat.reduceEqDiff, Int.reduceToNat, eq_self, rulesT, rulesD, RJ.o3, text_size, *]
          | (refine allK_intro fun n hn => ?_; try simp only [fresh_set] at hn)
          | (refine ifK_intro (fun h => ?_) (fun h => ?_) <;> (try simp only [rulesE] at h) <;> try (exfalso; (try simp only [rulesF] at h); omega))
          | (refine keeps_sub (Mem.sub_set ?_) ?_; focus (simp [Mem.set_at, nomem, *]; done))
          | (refine call_F (hF) (.two hjs .same) ?_)
          | (refine pure_F (hF) (.two hjs .same) ?_)
          | (refine call_F (hF4) (.two hjs .same) ?_)
          | (refine pure_F (hF4) (.two hjs .same) ?_)
        refine again_intro (cnt - a) (by omega) _ (Mem.sub.refl _) ⟨a, w, false, D, R, by omega, rfl, hL, hpos, fun h => (by cases h), fun _ => k2', by omega, (e : ∀ _, _) _ ?_, ?_, ?_, ?_, ?_, ?_⟩
        all_goals try (simp (disch := omega) only [nth_upd, pickB_true, pickB_false, inB_lt, upd_len, cast_succ, Int.cast_ofNat_Int, Nat.reduceBEq, beq_self_eq_true, reduceCtorEq, *]; done)
      · repeat' first
          | simp -dsimp (disch := omega) only [↓rulesA, rulesB, rulesC, Int.reduceLT, nth, upd, put, storeN, AV.one, Nat.reduceBEq, Nat.reduceBNe, Int.reduceBEq, Int.reduceBNe, Int.reduceLE, Int.reduceEq, Int.reduceMod, Int.reduceNeg, boolBin, strBin, intBin, unA, fillA, ne_eq, reduceCtorEq, Nat.reduceAdd, Nat.reduceSub, Nat.reduceLeDiff, Nat.reduceLT, Nat.reduceEqDiff, Int.reduceToNat, eq_self, rulesT, rulesD, RJ.o3, text_size, *]
          | (refine allK_intro fun n hn => ?_; try simp only [fresh_set] at hn)
          | (refine ifK_intro (fun h => ?_) (fun h => ?_) <;> (try simp only [rulesE] at h) <;> try (exfalso; (try simp only [rulesF] at h); omega))
          | (refine keeps_sub (Mem.sub_set ?_) ?_; focus (simp [Mem.set_at, nomem, *]; done))
          | (refine call_F (hF) (.two hjs .same) ?_)
          | (refine pure_F (hF) (.two hjs .same) ?_)
          | (refine call_F (hF4) (.two hjs .same) ?_)
          | (refine pure_F (hF4) (.two hjs .same) ?_)
        refine again_intro (cnt - a) (by omega) _ (Mem.sub.refl _) ⟨a, w, false, D, R, by omega, rfl, hL, hpos, fun h => (by cases h), fun _ => k2', by omega, (e : ∀ _, _) _ ?_, ?_, ?_, ?_, ?_, ?_⟩
        all_goals try (simp (disch := omega) only [nth_upd, pickB_true, pickB_false, inB_lt, upd_len, cast_succ, Int.cast_ofNat_Int, Nat.reduceBEq, beq_self_eq_true, reduceCtorEq, *]; done)
  · have hLD : L = D := by
      cases ok with
      | false => rw [hL, hno rfl, List.append_nil]
      | true =>
        have hac : ¬ fr + a < fr + cnt := fun h => hgo ⟨rfl, by omega⟩
        rw [hL, hok rfl, stand_none hac, List.append_nil]
    have hgo' : ok = false ∨ ok = true ∧ ¬ (a : Int) < (cnt : Int) := by
      cases ok with
      | false => exact .inl rfl
      | true => exact .inr ⟨rfl, fun h => hgo ⟨rfl, by omega⟩⟩
    clear hgo hok hno hL
    replace eL : Kept _ := eL
    replace hpos : Kept _ := hpos
    replace hLD : Kept _ := hLD
    rcases hgo' with rfl | ⟨rfl, hac⟩
    all_goals
      repeat' first
        | simp -dsimp (disch := omega) only [↓rulesA, rulesB, rulesC, Int.reduceLT, nth, upd, put, storeN, AV.one, Nat.reduceBEq, Nat.reduceBNe, Int.reduceBEq, Int.reduceBNe, Int.reduceLE, Int.reduceEq, Int.reduceMod, Int.reduceNeg, boolBin, strBin, intBin, unA, fillA, ne_eq, reduceCtorEq, Nat.reduceAdd, Nat.reduceSub, Nat.reduceLeDiff, Nat.reduceLT, Nat.reduceEqDiff, Int.reduceToNat, eq_self, rulesT, rulesD, RJ.o3, text_size, *]
        | (refine allK_intro fun n hn => ?_; try simp only [fresh_set] at hn)
        | (refine ifK_intro (fun h => ?_) (fun h => ?_) <;> (try simp only [rulesE] at h) <;> try (exfalso; (try simp only [rulesF] at h); omega))
        | (refine keeps_sub (Mem.sub_set ?_) ?_; focus (simp [Mem.set_at, nomem, *]; done))
      clear hjs hsub hMN hXN f43 f42
      refine loop_intro (fun jj env m' => ∃ i : Nat, i ≤ cnt ∧ jj = cnt - i ∧ LRow (txts D) v12 m' (m.set N (.cells false 82 ((⟨fr, cnt, a, nextTo d fr first i, false⟩ : RJ).own Nd))) ∧ env.length = 137 ∧ nth env 2 = .val (.int .i64 cnt) ∧ nth env 11 = .ptr N 0 ∧ nth env 12 = v12 ∧ nth env 17 = .val (.int .i64 i)) cnt _ (Mem.sub.refl _) ⟨0, by omega, rfl, hrow, ?_, ?_, ?_, ?_, ?_⟩ ?_
      rotate_left 5
      · clear hrow e2 e11 e12 e13 e14 hlen env M
        rintro jj env M ⟨i, hi, rfl, hrow, hlen, e2, e11, e12, e17⟩
        have hXN : (m.set N (.cells false 82 ((⟨fr, cnt, a, nextTo d fr first i, false⟩ : RJ).own Nd))) N = some (.cells false 82 ((⟨fr, cnt, a, nextTo d fr first i, false⟩ : RJ).own Nd)) := Mem.set_same _ _ _
        have hMN := hrow.sub _ _ hXN
        have hjs := rjseen hs ((Mem.sub_set hN).trans hrow.sub) hMN
        have hna := numAt_le d (fr + i)
        have hnl := nextTo_le d (fr := fr) (first := first) (by omega) i
        by_cases hic : i < cnt
        · have hF4 := f44 ⟨fr, cnt, a, nextTo d fr first i, false⟩ rfl i (by omega)
          dsimp only at hF4
          have en : (if (nextTo d fr first i : Int) < numAt d (fr + i) + 1 then (numAt d (fr + i) + 1 : Int) else nextTo d fr first i) = (nextTo d fr first (i + 1) : Nat) := by
            rw [nextTo]; split <;> omega
          have e := hrow.set hXN (.cells false 82 ((⟨fr, cnt, a, nextTo d fr first (i + 1), false⟩ : RJ).own Nd))
          rw [Mem.set_set] at e
          replace e : Kept _ := e
          generalize numAt d (fr + i) = nu at *
          clear hrow hXN
          repeat' first
            | simp -dsimp (disch := omega) only [↓rulesA, rulesB, rulesC, Int.reduceLT, nth, upd, put, storeN, AV.one, Nat.reduceBEq, Nat.reduceBNe, Int.reduceBEq, Int.reduceBNe, Int.reduceLE, Int.reduceEq, Int.reduceMod, Int.reduceNeg, boolBin, strBin, intBin, unA, fillA, ne_eq, reduceCtorEq, Nat.reduceAdd, Nat.reduceSub, Nat.reduceLeDiff, Nat.reduceLT, Nat.reduceEqDiff, Int.reduceToNat, eq_self, rulesT, rulesD, RJ.o4, RJ.olen, RJ.s4, *]
            | (refine allK_intro fun n hn => ?_; try simp only [fresh_set] at hn)
            | (refine ifK_intro (fun h => ?_) (fun h => ?_) <;> (try simp only [rulesE] at h) <;> try (exfalso; (try simp only [rulesF] at h); omega))
            | (refine keeps_sub (Mem.sub_set ?_) ?_; focus (simp [Mem.set_at, nomem, *]; done))
            | (refine call_F (hF4) (.two hjs .same) ?_)
            | (refine pure_F (hF4) (.two hjs .same) ?_)
          refine again_intro (cnt - (i + 1)) (by omega) _ (Mem.sub.refl _) ⟨i + 1, by omega, rfl, e, ?_, ?_, ?_, ?_, ?_⟩
          clear en hjs hMN
          all_goals try (simp (disch := omega) only [nth_upd, pickB_true, pickB_false, inB_lt, upd_len, cast_succ, Int.cast_ofNat_Int, Nat.reduceBEq, beq_self_eq_true, reduceCtorEq, *]; done)
        · have hi' : i = cnt := by omega
          subst hi'
          clear hjs
          repeat' first
            | simp -dsimp (disch := omega) only [↓rulesA, rulesB, rulesC, Int.reduceLT, nth, upd, put, storeN, AV.one, Nat.reduceBEq, Nat.reduceBNe, Int.reduceBEq, Int.reduceBNe, Int.reduceLE, Int.reduceEq, Int.reduceMod, Int.reduceNeg, boolBin, strBin, intBin, unA, fillA, ne_eq, reduceCtorEq, Nat.reduceAdd, Nat.reduceSub, Nat.reduceLeDiff, Nat.reduceLT, Nat.reduceEqDiff, Int.reduceToNat, eq_self, rulesT, rulesD, resL_three, three_some, *]
            | (refine allK_intro fun n hn => ?_; try simp only [fresh_set] at hn)
            | (refine ifK_intro (fun h => ?_) (fun h => ?_) <;> (try simp only [rulesE] at h) <;> try (exfalso; (try simp only [rulesF] at h); omega))
            | (refine keeps_sub (Mem.sub_set ?_) ?_; focus (simp [Mem.set_at, nomem, *]; done))
          have eL' : L = _ := eL
          have eD' : L = D := hLD
          have hp' : fr + a = atTo D fr D.length := hpos
          have eo : openT d fr i first = txts D := by unfold openT; rw [← eL', eD']
          have ej : openR d fr i first = ⟨fr, i, a, nextTo d fr first i, false⟩ := by
            unfold openR; rw [← eL', eD', ← hp', Nat.add_sub_cancel_left]
          rw [eo, ej]
          rcases hrow with ⟨hT, hv, hM⟩ | ⟨q, hq, hv, hM⟩
          · rw [hT, hv, hM]
            refine Turns.nil1 9 fun q hq => ?_
            simp only [fresh_set] at hq
            exact ⟨N, q, hN, hq.2.2, hq.2.1, rfl, rfl⟩
          · simp only [fresh_set] at hq
            exact Turns.id ⟨N, q, hN, hq.2.2, hq.2.1, by rw [hv], hM⟩
      clear hrow
      all_goals try (simp (disch := omega) only [nth_upd, pickB_true, pickB_false, inB_lt, upd_len, cast_succ, Int.cast_ofNat_Int, Nat.reduceBEq, beq_self_eq_true, reduceCtorEq, *]; done)
end Go.Proofs.Ytlkeailgccbmbaa

set_option maxRecDepth 100000
set_option maxHeartbeats 1000000
set_option linter.unusedSimpArgs false
set_option linter.unusedVariables false
namespace Go.Proofs.Ytlkeailgccbmbaa
open Go.Abs
attribute [local irreducible] C X CC Y CV CW binK litK AppK PureC PureCV againK loopV rangeV allK ifK got onB condK V stepsK planK opK firstK seeE keepsK
theorem wrap8_k (k : IntKind) (x i : Nat) (h : 8 * i ≤ k.bits) : IntKind.u8.wrap ((x : Int).fdiv (2 ^ min (8 * i) k.bits)) = (((byteAt x i).toNat : Nat) : Int) := by
  rw [shr_nat k _ _ h, IntKind.wrap_u8']
  unfold byteAt
  rw [UInt8.toNat_ofNat']
  omega
theorem LRow.put {T : List ByteArray} {v : AV} {M X : Mem} (h : LRow T v M X) {N : Nat} (hN : M N = none) (b : Blk) : LRow T v (M.set N b) (X.set N b) := by
  rcases h with ⟨h1, h2, rfl⟩ | ⟨q, hq, h2, rfl⟩
  · exact .inl ⟨h1, h2, rfl⟩
  · have hne : q ≠ N := fun e => by rw [e, Mem.set_same] at hN; cases hN
    exact .inr ⟨q, by rw [Mem.set_ne _ _ hne]; exact hq, h2, by rw [set_comm _ hne]⟩
theorem LRow.less {T : List ByteArray} {v : AV} {M X : Mem} {N : Nat} {b : Blk} (h : LRow T v M (X.set N b)) (hN : X N = none) : ∃ M', LRow T v M' X ∧ M'.sub M := by
  rcases h with ⟨h1, h2, rfl⟩ | ⟨q, hq, h2, rfl⟩
  · exact ⟨X, .inl ⟨h1, h2, rfl⟩, Mem.sub_set hN⟩
  · simp only [fresh_set] at hq
    exact ⟨_, .inr ⟨q, hq.2.2, h2, rfl⟩, Mem.set_mono (Mem.sub_set hN)⟩
theorem app_own2 {l s l' : List UInt8} {X : Mem} {n k : Nat} (hk : l.length = k) {t : TypeId} {y : AV} (hX : X n = none) (ht : AppT Try.prog 44 t 5 ⟨(Go.TypeDesc.int Go.IntKind.u8), 1, 1, (some (Go.Value.int Go.IntKind.u8 0))⟩ [.val (Go.Value.int Go.IntKind.u8 0)]) (hlen : l.length + s.length ≤ 140737488355328)
    (hy : srcB Try.prog (X.set n (.cells true 5 (l.map byteC).flatten)) t ⟨(Go.TypeDesc.int Go.IntKind.u8), 1, 1, (some (Go.Value.int Go.IntKind.u8 0))⟩ [.val (Go.Value.int Go.IntKind.u8 0)] y = some (s.length, (s.map byteC).flatten)) {K' : AV → Mem → Prop} {x : Hid K'} (el : l ++ s = l')
    (h : ∀ n', X n' = none → K' (.sl n' 0 l'.length l'.length) (X.set n' (.cells true 5 (l'.map byteC).flatten))) : AppK Try.prog 44 t (.sl n 0 k k) y (X.set n (.cells true 5 (l.map byteC).flatten)) (hid K' x) := by
  subst hk
  exact app_own hX ht hlen hy el h
theorem app_nil2 {l : List UInt8} {k : Nat} (hk : l.length = k) (hl : l.length ≤ 1000000) {M : Mem} {n : Nat} (hm : M n = some (.cells true 5 (l.map byteC).flatten)) {K' : AV → Mem → Prop} {x : Hid K'}
    (h : ∀ n', M n' = none → K' (.sl n' 0 k k) (M.set n' (.cells true 5 (l.map byteC).flatten))) : AppK Try.prog 44 44 (.val (.slice none 0 0)) (.sl n 0 k k) M (hid K' x) := by
  subst hk
  have := byte_srcN (cap := l.length) l hm (Nat.le_refl _)
  rw [List.take_length] at this
  exact append_nil app_44 this (by show l.length * 1 ≤ _; omega) h
theorem app_vs2 {l G l' : List UInt8} {q cap : Nat} {M : Mem} {n : Nat} (hm : M n = some (.cells true 5 (G.map byteC).flatten)) (h0 : 0 < q) (hq : q ≤ G.length) (hlen : l.length + q ≤ 1000000) (el : l ++ G.take q = l') {K' : AV → Mem → Prop} {x : Hid K'}
    (h : ∀ n', M n' = none → K' (.sl n' 0 l'.length l'.length) (M.set n' (.cells true 5 (l'.map byteC).flatten))) : AppK Try.prog 44 44 (.vs (l.map byteC) true) (.sl n 0 q cap) M (hid K' x) := by
  have hy := byte_srcN (cap := cap) G hm hq
  have hql : (G.take q).length = q := by rw [List.length_take]; omega
  refine append_vs app_44 hy (by omega) (fun e he => by obtain ⟨b, _, rfl⟩ := List.mem_map.1 he; rfl) (by show ((l.map byteC).length + (G.take q).length) * 1 ≤ _; rw [List.length_map]; omega) fun N hN => ?_
  rw [row_app, List.length_map, ← List.length_append, el]
  exact h N hN
theorem take_more (R : List UInt8) (q : Nat) (h : q < R.length) : R.take q ++ [R.getD q default] = R.take (q + 1) := take_snoc R q h
theorem needN_small {n : Nat} (h : n ≤ 300000) : needN n ≤ 5457 := by unfold needN; split <;> omega
def pieceT (n : Nat) (rec : List UInt8) (k : Nat) : List ByteArray := (List.range k).map fun i => ⟨(secB n rec i).toArray⟩
theorem pieceT_len (n : Nat) (rec : List UInt8) (k : Nat) : (pieceT n rec k).length = k := by simp [pieceT]
theorem pieceT_succ (n : Nat) (rec : List UInt8) (k : Nat) : pieceT n rec (k + 1) = pieceT n rec k ++ [⟨(secB n rec k).toArray⟩] := by simp [pieceT, List.range_succ]
theorem F45 (n : Nat) (hn : n ≤ 4611686018427387904) (rec : List UInt8) (hrec : rec.length ≤ 300000) : F Try.prog 45 [.val (.int .i64 n), .val (.string ⟨rec.toArray⟩)] (.vs ((pieceT n rec (needN rec.length)).map txC) false) := by
  refine F45_of ?_
  unfold k45
  repeat' first
    | simp -dsimp (disch := omega) only [↓rulesA, rulesB, rulesC, Int.reduceLT, nth, upd, put, storeN, AV.one, Nat.reduceBEq, Nat.reduceBNe, Int.reduceBEq, Int.reduceBNe, Int.reduceLE, Int.reduceEq, Int.reduceMod, Int.reduceNeg, boolBin, strBin, intBin, unA, fillA, ne_eq, reduceCtorEq, Nat.reduceAdd, Nat.reduceSub, Nat.reduceLeDiff, Nat.reduceLT, Nat.reduceEqDiff, Int.reduceToNat, eq_self, rulesT, rulesD, *]
    | (refine allK_intro fun n hn => ?_; try simp only [fresh_set] at hn)
    | (refine ifK_intro (fun h => ?_) (fun h => ?_) <;> (try simp only [rulesE] at h) <;> try (exfalso; (try simp only [rulesF] at h); omega))
    | (refine keeps_sub (Mem.sub_set ?_) ?_; focus (simp [Mem.set_at, nomem, *]; done))
  refine loop_intro (fun j env m => ∃ (i : Nat), i ≤ 8 ∧ j = 8 - i ∧ Row (numB n i) (nth env 5) m ∧ (0 < i → Own (numB n i) (nth env 5) m) ∧ env.length = 108 ∧ nth env 0 = .val (.int .i64 n) ∧ nth env 1 = .val (.string ⟨rec.toArray⟩) ∧ nth env 6 = .val (.int .i64 i)) 8 _ (Mem.sub.refl _) ⟨0, by omega, by omega, .inl ⟨rfl, rfl, rfl⟩, fun h => absurd h (by omega), rfl, rfl, rfl, rfl⟩ ?_
  rintro j env m ⟨i, hi, rfl, hR, hO, hlen, e0, e1, e6⟩
  generalize e5 : nth env 5 = v5 at hR hO
  by_cases hi8 : i < 8
  · have h8 : (8 : Int) * (i : Int) = ((8 * i : Nat) : Int) := by omega
    have hw := wrap8_k .i64 n i (by show 8 * i ≤ 64; omega)
    have c1 := conv64 (8 * i) (by omega)
    repeat' first
      | simp -dsimp (disch := omega) only [↓rulesA, rulesB, rulesC, Int.reduceLT, nth, upd, put, storeN, AV.one, Nat.reduceBEq, Nat.reduceBNe, Int.reduceBEq, Int.reduceBNe, Int.reduceLE, Int.reduceEq, Int.reduceMod, Int.reduceNeg, boolBin, strBin, intBin, unA, fillA, ne_eq, reduceCtorEq, Nat.reduceAdd, Nat.reduceSub, Nat.reduceLeDiff, Nat.reduceLT, Nat.reduceEqDiff, Int.reduceToNat, eq_self, rulesT, rulesD, natNeg', *]
      | (refine allK_intro fun n hn => ?_; try simp only [fresh_set] at hn)
      | (refine ifK_intro (fun h => ?_) (fun h => ?_) <;> (try simp only [rulesE] at h) <;> try (exfalso; (try simp only [rulesF] at h); omega))
      | (refine keeps_sub (Mem.sub_set ?_) ?_; focus (simp [Mem.set_at, nomem, *]; done))
    refine lit_vs (lit1_44 _) rfl ?_
    rw [chunk_one]
    repeat' first
      | simp -dsimp (disch := omega) only [↓rulesA, rulesB, rulesC, Int.reduceLT, nth, upd, put, storeN, AV.one, Nat.reduceBEq, Nat.reduceBNe, Int.reduceBEq, Int.reduceBNe, Int.reduceLE, Int.reduceEq, Int.reduceMod, Int.reduceNeg, boolBin, strBin, intBin, unA, fillA, ne_eq, reduceCtorEq, Nat.reduceAdd, Nat.reduceSub, Nat.reduceLeDiff, Nat.reduceLT, Nat.reduceEqDiff, Int.reduceToNat, eq_self, rulesT, rulesD, *]
      | (refine allK_intro fun n hn => ?_; try simp only [fresh_set] at hn)
      | (refine ifK_intro (fun h => ?_) (fun h => ?_) <;> (try simp only [rulesE] at h) <;> try (exfalso; (try simp only [rulesF] at h); omega))
      | (refine keeps_sub (Mem.sub_set ?_) ?_; focus (simp [Mem.set_at, nomem, *]; done))
    have hnl := numB_len n i
    refine hR.app [byteAt n i] Nat.zero_lt_one (by show _ + 1 ≤ _; omega) (src_44' _ [byteAt n i] true) fun r m' hR' => ?_
    have e : ∀ w, w = r → Row (numB n (i + 1)) w m' := fun w hw => by rw [hw]; exact hR'.row
    have e2 : ∀ w, w = r → 0 < i + 1 → Own (numB n (i + 1)) w m' := fun w hw _ => by rw [hw]; exact hR'
    clear hR hnl hR' hO
    replace e : Kept _ := e
    replace e2 : Kept _ := e2
    repeat' first
      | simp -dsimp (disch := omega) only [↓rulesA, rulesB, rulesC, Int.reduceLT, nth, upd, put, storeN, AV.one, Nat.reduceBEq, Nat.reduceBNe, Int.reduceBEq, Int.reduceBNe, Int.reduceLE, Int.reduceEq, Int.reduceMod, Int.reduceNeg, boolBin, strBin, intBin, unA, fillA, ne_eq, reduceCtorEq, Nat.reduceAdd, Nat.reduceSub, Nat.reduceLeDiff, Nat.reduceLT, Nat.reduceEqDiff, Int.reduceToNat, eq_self, rulesT, rulesD, *]
      | (refine allK_intro fun n hn => ?_; try simp only [fresh_set] at hn)
      | (refine ifK_intro (fun h => ?_) (fun h => ?_) <;> (try simp only [rulesE] at h) <;> try (exfalso; (try simp only [rulesF] at h); omega))
      | (refine keeps_sub (Mem.sub_set ?_) ?_; focus (simp [Mem.set_at, nomem, *]; done))
    refine again_intro (8 - (i + 1)) (by omega) _ (Mem.sub.refl _) ⟨i + 1, by omega, rfl, (e : ∀ _, _) _ ?_, (e2 : ∀ _, _) _ ?_, ?_, ?_, ?_, ?_⟩
    all_goals try (simp (disch := omega) only [nth_upd, pickB_true, pickB_false, inB_lt, upd_len, cast_succ, Int.cast_ofNat_Int, Nat.reduceBEq, beq_self_eq_true, reduceCtorEq, *]; done)
  have hi' : i = 8 := by omega
  subst hi'
  replace hO := hO (by decide)
  clear hR
  repeat' first
    | simp -dsimp (disch := omega) only [↓rulesA, rulesB, rulesC, Int.reduceLT, nth, upd, put, storeN, AV.one, Nat.reduceBEq, Nat.reduceBNe, Int.reduceBEq, Int.reduceBNe, Int.reduceLE, Int.reduceEq, Int.reduceMod, Int.reduceNeg, boolBin, strBin, intBin, unA, fillA, ne_eq, reduceCtorEq, Nat.reduceAdd, Nat.reduceSub, Nat.reduceLeDiff, Nat.reduceLT, Nat.reduceEqDiff, Int.reduceToNat, eq_self, rulesT, rulesD, *]
    | (refine allK_intro fun n hn => ?_; try simp only [fresh_set] at hn)
    | (refine ifK_intro (fun h => ?_) (fun h => ?_) <;> (try simp only [rulesE] at h) <;> try (exfalso; (try simp only [rulesF] at h); omega))
    | (refine keeps_sub (Mem.sub_set ?_) ?_; focus (simp [Mem.set_at, nomem, *]; done))
  refine loop_intro (fun j env m => ∃ (i : Nat), i ≤ 4 ∧ j = 4 - i ∧ Own (numB n 8 ++ numB rec.length i) (nth env 5) m ∧ env.length = 108 ∧ nth env 1 = .val (.string ⟨rec.toArray⟩) ∧ nth env 7 = .val (.int .i64 i)) 4 _ (Mem.sub.refl _) ⟨0, by omega, by omega, ?_, ?_, ?_, ?_⟩ ?_
  · have e : numB n 8 ++ numB rec.length 0 = numB n 8 := List.append_nil _
    rw [e]
    have e5' : ∀ w, w = v5 → Own (numB n 8) w m := fun w hw => by rw [hw]; exact hO
    refine e5' _ ?_
    clear e5' hO
    all_goals try (simp (disch := omega) only [nth_upd, pickB_true, pickB_false, inB_lt, upd_len, cast_succ, Int.cast_ofNat_Int, Nat.reduceBEq, beq_self_eq_true, reduceCtorEq, *]; done)
  rotate_left 3
  · clear hO hlen e0 e1 e6 e5 env m hi8 hi
    rintro j env m ⟨i, hi, rfl, hO, hlen, e1, e7⟩
    generalize e5 : nth env 5 = v5 at hO
    by_cases hi4 : i < 4
    · have h8 : (8 : Int) * (i : Int) = ((8 * i : Nat) : Int) := by omega
      have hw := wrap8_k .i64 rec.length i (by show 8 * i ≤ 64; omega)
      have c1 := conv64 (8 * i) (by omega)
      repeat' first
        | simp -dsimp (disch := omega) only [↓rulesA, rulesB, rulesC, Int.reduceLT, nth, upd, put, storeN, AV.one, Nat.reduceBEq, Nat.reduceBNe, Int.reduceBEq, Int.reduceBNe, Int.reduceLE, Int.reduceEq, Int.reduceMod, Int.reduceNeg, boolBin, strBin, intBin, unA, fillA, ne_eq, reduceCtorEq, Nat.reduceAdd, Nat.reduceSub, Nat.reduceLeDiff, Nat.reduceLT, Nat.reduceEqDiff, Int.reduceToNat, eq_self, rulesT, rulesD, natNeg', text_size, *]
        | (refine allK_intro fun n hn => ?_; try simp only [fresh_set] at hn)
        | (refine ifK_intro (fun h => ?_) (fun h => ?_) <;> (try simp only [rulesE] at h) <;> try (exfalso; (try simp only [rulesF] at h); omega))
        | (refine keeps_sub (Mem.sub_set ?_) ?_; focus (simp [Mem.set_at, nomem, *]; done))
      refine lit_vs (lit1_44 _) rfl ?_
      rw [chunk_one]
      repeat' first
        | simp -dsimp (disch := omega) only [↓rulesA, rulesB, rulesC, Int.reduceLT, nth, upd, put, storeN, AV.one, Nat.reduceBEq, Nat.reduceBNe, Int.reduceBEq, Int.reduceBNe, Int.reduceLE, Int.reduceEq, Int.reduceMod, Int.reduceNeg, boolBin, strBin, intBin, unA, fillA, ne_eq, reduceCtorEq, Nat.reduceAdd, Nat.reduceSub, Nat.reduceLeDiff, Nat.reduceLT, Nat.reduceEqDiff, Int.reduceToNat, eq_self, rulesT, rulesD, *]
        | (refine allK_intro fun n hn => ?_; try simp only [fresh_set] at hn)
        | (refine ifK_intro (fun h => ?_) (fun h => ?_) <;> (try simp only [rulesE] at h) <;> try (exfalso; (try simp only [rulesF] at h); omega))
        | (refine keeps_sub (Mem.sub_set ?_) ?_; focus (simp [Mem.set_at, nomem, *]; done))
      have hnl := numB_len n 8
      have hnl2 := numB_len rec.length i
      refine hO.app [byteAt rec.length i] (by rw [List.length_append]; show _ + 1 ≤ _; omega) app_44 (src_44' _ [byteAt rec.length i] true) fun r m' hR' => ?_
      rw [List.append_assoc] at hR'
      have e : ∀ w, w = r → Own (numB n 8 ++ numB rec.length (i + 1)) w m' := fun w hw => by rw [hw]; exact hR'
      clear hnl hnl2 hR' hO
      replace e : Kept _ := e
      repeat' first
        | simp -dsimp (disch := omega) only [↓rulesA, rulesB, rulesC, Int.reduceLT, nth, upd, put, storeN, AV.one, Nat.reduceBEq, Nat.reduceBNe, Int.reduceBEq, Int.reduceBNe, Int.reduceLE, Int.reduceEq, Int.reduceMod, Int.reduceNeg, boolBin, strBin, intBin, unA, fillA, ne_eq, reduceCtorEq, Nat.reduceAdd, Nat.reduceSub, Nat.reduceLeDiff, Nat.reduceLT, Nat.reduceEqDiff, Int.reduceToNat, eq_self, rulesT, rulesD, *]
        | (refine allK_intro fun n hn => ?_; try simp only [fresh_set] at hn)
        | (refine ifK_intro (fun h => ?_) (fun h => ?_) <;> (try simp only [rulesE] at h) <;> try (exfalso; (try simp only [rulesF] at h); omega))
        | (refine keeps_sub (Mem.sub_set ?_) ?_; focus (simp [Mem.set_at, nomem, *]; done))
      refine again_intro (4 - (i + 1)) (by omega) _ (Mem.sub.refl _) ⟨i + 1, by omega, rfl, (e : ∀ _, _) _ ?_, ?_, ?_, ?_⟩
      all_goals try (simp (disch := omega) only [nth_upd, pickB_true, pickB_false, inB_lt, upd_len, cast_succ, Int.cast_ofNat_Int, Nat.reduceBEq, beq_self_eq_true, reduceCtorEq, *]; done)
    have hi' : i = 4 := by omega
    subst hi'
    obtain ⟨N, rfl, hv⟩ := hO
    subst hv
    have hlH : (numB n 8 ++ numB rec.length 4).length = 12 := by rw [List.length_append, numB_len, numB_len]
    obtain ⟨H, eH⟩ : ∃ H, H = numB n 8 ++ numB rec.length 4 := ⟨_, rfl⟩
    rw [← eH] at hlH e5 ⊢
    replace eH : Kept _ := eH
    repeat' first
      | simp -dsimp (disch := omega) only [↓rulesA, rulesB, rulesC, Int.reduceLT, nth, upd, put, storeN, AV.one, Nat.reduceBEq, Nat.reduceBNe, Int.reduceBEq, Int.reduceBNe, Int.reduceLE, Int.reduceEq, Int.reduceMod, Int.reduceNeg, boolBin, strBin, intBin, unA, fillA, ne_eq, reduceCtorEq, Nat.reduceAdd, Nat.reduceSub, Nat.reduceLeDiff, Nat.reduceLT, Nat.reduceEqDiff, Int.reduceToNat, eq_self, rulesT, rulesD, *]
      | (refine allK_intro fun n hn => ?_; try simp only [fresh_set] at hn)
      | (refine ifK_intro (fun h => ?_) (fun h => ?_) <;> (try simp only [rulesE] at h) <;> try (exfalso; (try simp only [rulesF] at h); omega))
      | (refine keeps_sub (Mem.sub_set ?_) ?_; focus (simp [Mem.set_at, nomem, *]; done))
    refine app_nil2 hlH (by omega) (Mem.set_same _ _ _) fun N2 hN2 => ?_
    simp only [fresh_set] at hN2
    repeat' first
      | simp -dsimp (disch := omega) only [↓rulesA, rulesB, rulesC, Int.reduceLT, nth, upd, put, storeN, AV.one, Nat.reduceBEq, Nat.reduceBNe, Int.reduceBEq, Int.reduceBNe, Int.reduceLE, Int.reduceEq, Int.reduceMod, Int.reduceNeg, boolBin, strBin, intBin, unA, fillA, ne_eq, reduceCtorEq, Nat.reduceAdd, Nat.reduceSub, Nat.reduceLeDiff, Nat.reduceLT, Nat.reduceEqDiff, Int.reduceToNat, eq_self, rulesT, rulesD, *]
      | (refine allK_intro fun n hn => ?_; try simp only [fresh_set] at hn)
      | (refine ifK_intro (fun h => ?_) (fun h => ?_) <;> (try simp only [rulesE] at h) <;> try (exfalso; (try simp only [rulesF] at h); omega))
      | (refine keeps_sub (Mem.sub_set ?_) ?_; focus (simp [Mem.set_at, nomem, *]; done))
    refine app_own2 (l' := H ++ rec) hlH (by simp [Mem.set_at, *]) app_44_9 (by omega) (srcB_of (text_src ti_9 rfl _ rec)) rfl fun N3 hN3 => ?_
    simp only [fresh_set] at hN3
    have f57 := F57 (H ++ rec) false (by rw [List.length_append]; omega)
    have hS : Kept (sumN n rec = crcN (H ++ rec)) := by rw [(eH : _ = _)]; rfl
    have hSl := crcN_lt (H ++ rec)
    repeat' first
      | simp -dsimp (disch := omega) only [↓rulesA, rulesB, rulesC, Int.reduceLT, nth, upd, put, storeN, AV.one, Nat.reduceBEq, Nat.reduceBNe, Int.reduceBEq, Int.reduceBNe, Int.reduceLE, Int.reduceEq, Int.reduceMod, Int.reduceNeg, boolBin, strBin, intBin, unA, fillA, ne_eq, reduceCtorEq, Nat.reduceAdd, Nat.reduceSub, Nat.reduceLeDiff, Nat.reduceLT, Nat.reduceEqDiff, Int.reduceToNat, eq_self, rulesT, rulesD, *]
      | (refine allK_intro fun n hn => ?_; try simp only [fresh_set] at hn)
      | (refine ifK_intro (fun h => ?_) (fun h => ?_) <;> (try simp only [rulesE] at h) <;> try (exfalso; (try simp only [rulesF] at h); omega))
      | (refine keeps_sub (Mem.sub_set ?_) ?_; focus (simp [Mem.set_at, nomem, *]; done))
      | (refine call_F (f57) (.one (byte_seen _ (Mem.set_same _ _ _))) ?_)
      | (refine pure_F (f57) (.one (byte_seen _ (Mem.set_same _ _ _))) ?_)
    generalize crcN (H ++ rec) = S at *
    refine loop_intro (fun j env m => ∃ (i : Nat), i ≤ 4 ∧ j = 4 - i ∧ Own (H ++ numB S i) (nth env 5) m ∧ env.length = 108 ∧ nth env 1 = .val (.string ⟨rec.toArray⟩) ∧ nth env 9 = .val (.int .u32 S) ∧ nth env 10 = .val (.int .i64 i)) 4 (nomem.set N (.cells true 5 (H.map byteC).flatten)) (by ((repeat' first | exact Mem.sub.refl _ | exact nomem_sub _ | refine Mem.set_sub ?_ ?_ | refine Mem.sub_set_new ?_ ?_ | refine Mem.sub_del ?_ ?_) <;> simp [Mem.set_at, Mem.del_at, nomem, *])) ⟨0, by omega, by omega, ⟨N, ?_, ?_⟩, ?_, ?_, ?_, ?_⟩ ?_
    · have e : H ++ numB S 0 = H := List.append_nil _
      rw [e]
    · have e : H ++ numB S 0 = H := List.append_nil _
      rw [e]
      all_goals try (simp (disch := omega) only [nth_upd, pickB_true, pickB_false, inB_lt, upd_len, cast_succ, Int.cast_ofNat_Int, Nat.reduceBEq, beq_self_eq_true, reduceCtorEq, *]; done)
    rotate_left 4
    · clear f57 hlen e1 e5 e7 env hi4 hi hN2 hN3 N2 N3 N
      rintro j env m ⟨i, hi, rfl, hO, hlen, e1, e9, e10⟩
      generalize e5 : nth env 5 = v5 at hO
      have hnl := numB_len S i
      by_cases hi4 : i < 4
      · have h8 : (8 : Int) * (i : Int) = ((8 * i : Nat) : Int) := by omega
        have hw := wrap8_k .u32 S i (by show 8 * i ≤ 32; omega)
        have c1 := conv64 (8 * i) (by omega)
        repeat' first
          | simp -dsimp (disch := omega) only [↓rulesA, rulesB, rulesC, Int.reduceLT, nth, upd, put, storeN, AV.one, Nat.reduceBEq, Nat.reduceBNe, Int.reduceBEq, Int.reduceBNe, Int.reduceLE, Int.reduceEq, Int.reduceMod, Int.reduceNeg, boolBin, strBin, intBin, unA, fillA, ne_eq, reduceCtorEq, Nat.reduceAdd, Nat.reduceSub, Nat.reduceLeDiff, Nat.reduceLT, Nat.reduceEqDiff, Int.reduceToNat, eq_self, rulesT, rulesD, natNeg', *]
          | (refine allK_intro fun n hn => ?_; try simp only [fresh_set] at hn)
          | (refine ifK_intro (fun h => ?_) (fun h => ?_) <;> (try simp only [rulesE] at h) <;> try (exfalso; (try simp only [rulesF] at h); omega))
          | (refine keeps_sub (Mem.sub_set ?_) ?_; focus (simp [Mem.set_at, nomem, *]; done))
        refine lit_vs (lit1_44 _) rfl ?_
        rw [chunk_one]
        repeat' first
          | simp -dsimp (disch := omega) only [↓rulesA, rulesB, rulesC, Int.reduceLT, nth, upd, put, storeN, AV.one, Nat.reduceBEq, Nat.reduceBNe, Int.reduceBEq, Int.reduceBNe, Int.reduceLE, Int.reduceEq, Int.reduceMod, Int.reduceNeg, boolBin, strBin, intBin, unA, fillA, ne_eq, reduceCtorEq, Nat.reduceAdd, Nat.reduceSub, Nat.reduceLeDiff, Nat.reduceLT, Nat.reduceEqDiff, Int.reduceToNat, eq_self, rulesT, rulesD, *]
          | (refine allK_intro fun n hn => ?_; try simp only [fresh_set] at hn)
          | (refine ifK_intro (fun h => ?_) (fun h => ?_) <;> (try simp only [rulesE] at h) <;> try (exfalso; (try simp only [rulesF] at h); omega))
          | (refine keeps_sub (Mem.sub_set ?_) ?_; focus (simp [Mem.set_at, nomem, *]; done))
        refine hO.app [byteAt S i] (by rw [List.length_append]; show _ + 1 ≤ _; omega) app_44 (src_44' _ [byteAt S i] true) fun r m' hR' => ?_
        rw [List.append_assoc] at hR'
        have e : ∀ w, w = r → Own (H ++ numB S (i + 1)) w m' := fun w hw => by rw [hw]; exact hR'
        clear hnl hR' hO
        replace e : Kept _ := e
        repeat' first
          | simp -dsimp (disch := omega) only [↓rulesA, rulesB, rulesC, Int.reduceLT, nth, upd, put, storeN, AV.one, Nat.reduceBEq, Nat.reduceBNe, Int.reduceBEq, Int.reduceBNe, Int.reduceLE, Int.reduceEq, Int.reduceMod, Int.reduceNeg, boolBin, strBin, intBin, unA, fillA, ne_eq, reduceCtorEq, Nat.reduceAdd, Nat.reduceSub, Nat.reduceLeDiff, Nat.reduceLT, Nat.reduceEqDiff, Int.reduceToNat, eq_self, rulesT, rulesD, *]
          | (refine allK_intro fun n hn => ?_; try simp only [fresh_set] at hn)
          | (refine ifK_intro (fun h => ?_) (fun h => ?_) <;> (try simp only [rulesE] at h) <;> try (exfalso; (try simp only [rulesF] at h); omega))
          | (refine keeps_sub (Mem.sub_set ?_) ?_; focus (simp [Mem.set_at, nomem, *]; done))
        refine again_intro (4 - (i + 1)) (by omega) _ (Mem.sub.refl _) ⟨i + 1, by omega, rfl, (e : ∀ _, _) _ ?_, ?_, ?_, ?_, ?_⟩
        all_goals try (simp (disch := omega) only [nth_upd, pickB_true, pickB_false, inB_lt, upd_len, cast_succ, Int.cast_ofNat_Int, Nat.reduceBEq, beq_self_eq_true, reduceCtorEq, *]; done)
      have hi' : i = 4 := by omega
      subst hi'
      obtain ⟨N, rfl, hv⟩ := hO
      subst hv
      have hlG : (H ++ numB S 4).length = 16 := by rw [List.length_append, numB_len, hlH]
      have eG : Kept ([1] ++ (H ++ numB S 4) = preB n rec 0) := by
        show _ = headB n rec
        unfold headB h13B h9B
        rw [(eH : _ = _), (hS : _ = _)]; simp
      have eG8 : Kept ((H ++ numB S 4).take 8 = numB n 8) := by
        show _ = _
        rw [(eH : _ = _), List.append_assoc, List.take_left' (numB_len n 8)]
      generalize H ++ numB S 4 = G at *
      repeat' first
        | simp -dsimp (disch := omega) only [↓rulesA, rulesB, rulesC, Int.reduceLT, nth, upd, put, storeN, AV.one, Nat.reduceBEq, Nat.reduceBNe, Int.reduceBEq, Int.reduceBNe, Int.reduceLE, Int.reduceEq, Int.reduceMod, Int.reduceNeg, boolBin, strBin, intBin, unA, fillA, ne_eq, reduceCtorEq, Nat.reduceAdd, Nat.reduceSub, Nat.reduceLeDiff, Nat.reduceLT, Nat.reduceEqDiff, Int.reduceToNat, eq_self, rulesT, rulesD, *]
        | (refine allK_intro fun n hn => ?_; try simp only [fresh_set] at hn)
        | (refine ifK_intro (fun h => ?_) (fun h => ?_) <;> (try simp only [rulesE] at h) <;> try (exfalso; (try simp only [rulesF] at h); omega))
        | (refine keeps_sub (Mem.sub_set ?_) ?_; focus (simp [Mem.set_at, nomem, *]; done))
      refine lit_vs (lit1_44 _) rfl ?_
      rw [chunk_one]
      repeat' first
        | simp -dsimp (disch := omega) only [↓rulesA, rulesB, rulesC, Int.reduceLT, nth, upd, put, storeN, AV.one, Nat.reduceBEq, Nat.reduceBNe, Int.reduceBEq, Int.reduceBNe, Int.reduceLE, Int.reduceEq, Int.reduceMod, Int.reduceNeg, boolBin, strBin, intBin, unA, fillA, ne_eq, reduceCtorEq, Nat.reduceAdd, Nat.reduceSub, Nat.reduceLeDiff, Nat.reduceLT, Nat.reduceEqDiff, Int.reduceToNat, eq_self, rulesT, rulesD, *]
        | (refine allK_intro fun n hn => ?_; try simp only [fresh_set] at hn)
        | (refine ifK_intro (fun h => ?_) (fun h => ?_) <;> (try simp only [rulesE] at h) <;> try (exfalso; (try simp only [rulesF] at h); omega))
        | (refine keeps_sub (Mem.sub_set ?_) ?_; focus (simp [Mem.set_at, nomem, *]; done))
      have eG' : [1] ++ G.take 16 = preB n rec 0 := by rw [← hlG, List.take_length]; exact eG
      refine app_vs2 (l := [1]) (G := G) (q := 16) (l' := preB n rec 0) (Mem.set_same _ _ _) (by decide) (by omega) (by decide) eG' fun nb0 hnb0 => ?_
      clear eG eG' hnl hi4 hi e10 e9 hSl hS eH hlH
      have h30 := F30 rec.length (by omega)
      obtain ⟨K, hK⟩ : ∃ K, K = needN rec.length := ⟨_, rfl⟩
      have hA0 : (min (offB 0) rec.length : Nat) = 0 := by unfold offB; simp
      have hKb : K ≤ 5457 := by rw [hK]; exact needN_small hrec
      rw [← hK] at h30 ⊢
      replace hK : Kept _ := hK
      repeat' first
        | simp -dsimp (disch := omega) only [↓rulesA, rulesB, rulesC, Int.reduceLT, nth, upd, put, storeN, AV.one, Nat.reduceBEq, Nat.reduceBNe, Int.reduceBEq, Int.reduceBNe, Int.reduceLE, Int.reduceEq, Int.reduceMod, Int.reduceNeg, boolBin, strBin, intBin, unA, fillA, ne_eq, reduceCtorEq, Nat.reduceAdd, Nat.reduceSub, Nat.reduceLeDiff, Nat.reduceLT, Nat.reduceEqDiff, Int.reduceToNat, eq_self, rulesT, rulesD, *]
        | (refine allK_intro fun n hn => ?_; try simp only [fresh_set] at hn)
        | (refine ifK_intro (fun h => ?_) (fun h => ?_) <;> (try simp only [rulesE] at h) <;> try (exfalso; (try simp only [rulesF] at h); omega))
        | (refine keeps_sub (Mem.sub_set ?_) ?_; focus (simp [Mem.set_at, nomem, *]; done))
      refine loop_intro (fun jj env m => ∃ (i : Nat) (M : Mem), i ≤ K ∧ jj = K - i ∧ LRow (pieceT n rec i) (nth env 11) M (nomem.set N (.cells true 5 (G.map byteC).flatten)) ∧ (0 < i → m = M) ∧ (i = 0 → ∃ nb, M nb = none ∧ nth env 12 = .sl nb 0 (preB n rec i).length (preB n rec i).length ∧ m = M.set nb (.cells true 5 ((preB n rec i).map byteC).flatten)) ∧ env.length = 108 ∧ nth env 1 = .val (.string ⟨rec.toArray⟩) ∧ nth env 5 = .sl N 0 16 16 ∧ nth env 13 = .val (.int .i64 (min (offB i) rec.length : Nat)) ∧ nth env 14 = .val (.int .i64 i)) K _ (Mem.sub.refl _) ⟨0, _, by omega, rfl, .inl ⟨rfl, ?_, rfl⟩, fun h => absurd h (by omega), fun _ => ⟨nb0, hnb0, ?_, rfl⟩, ?_, ?_, ?_, ?_, ?_⟩ ?_
      rotate_left 7
      · clear hlen e1 e5 hnb0 nb0 env
        rintro jj env m ⟨i, M, hi, rfl, hrow, hp, hz, hlen, e1, e5, e13, e14⟩
        generalize e11 : nth env 11 = v11 at hrow
        have hMN := hrow.sub N _ (Mem.set_same _ _ _)
        by_cases hiK : i < K
        · obtain ⟨A, eA⟩ : ∃ A, A = min (offB i) rec.length := ⟨_, rfl⟩
          rw [← eA] at e13
          obtain ⟨p, ep⟩ : ∃ p, p = preB n rec i := ⟨_, rfl⟩
          have hpl : 9 ≤ p.length ∧ p.length ≤ 17 := by rw [ep, preB_len]; split <;> omega
          obtain ⟨R, eR⟩ : ∃ R, R = rec.drop A := ⟨_, rfl⟩
          have hRl : R.length = rec.length - A := by rw [eR, List.length_drop]
          rw [← ep] at hz
          replace eA : Kept _ := eA
          replace ep : Kept _ := ep
          replace eR : Kept _ := eR
          rcases Nat.eq_zero_or_pos i with h0 | h0
          focus
            obtain ⟨nb, hnb, e12, rfl⟩ := hz h0
            have hng : ¬ ((i : Int) > 0) := by omega
            replace h0 : Kept _ := h0
            clear hz hp
            repeat' first
              | simp -dsimp (disch := omega) only [↓rulesA, rulesB, rulesC, Int.reduceLT, nth, upd, put, storeN, AV.one, Nat.reduceBEq, Nat.reduceBNe, Int.reduceBEq, Int.reduceBNe, Int.reduceLE, Int.reduceEq, Int.reduceMod, Int.reduceNeg, boolBin, strBin, intBin, unA, fillA, ne_eq, reduceCtorEq, Nat.reduceAdd, Nat.reduceSub, Nat.reduceLeDiff, Nat.reduceLT, Nat.reduceEqDiff, Int.reduceToNat, eq_self, rulesT, rulesD, *]
              | (refine allK_intro fun n hn => ?_; try simp only [fresh_set] at hn)
              | (refine ifK_intro (fun h => ?_) (fun h => ?_) <;> (try simp only [rulesE] at h) <;> try (exfalso; (try simp only [rulesF] at h); omega))
              | (refine keeps_sub (Mem.sub_set ?_) ?_; focus (simp [Mem.set_at, nomem, *]; done))
              | (refine call_F (h30) (Seens.refl _ _) ?_)
              | (refine pure_F (h30) (Seens.refl _ _) ?_)
          rotate_left 1
          focus
            have hm := hp h0
            rw [hm]
            have hng : ((i : Int) > 0) := by omega
            have ep2 : [2] ++ G.take 8 = p := by
              rw [(ep : _ = _), (eG8 : _ = _)]; unfold preB moreB; rw [if_neg (by omega)]
            replace h0 : Kept _ := h0
            clear hz hp hm
            repeat' first
              | simp -dsimp (disch := omega) only [↓rulesA, rulesB, rulesC, Int.reduceLT, nth, upd, put, storeN, AV.one, Nat.reduceBEq, Nat.reduceBNe, Int.reduceBEq, Int.reduceBNe, Int.reduceLE, Int.reduceEq, Int.reduceMod, Int.reduceNeg, boolBin, strBin, intBin, unA, fillA, ne_eq, reduceCtorEq, Nat.reduceAdd, Nat.reduceSub, Nat.reduceLeDiff, Nat.reduceLT, Nat.reduceEqDiff, Int.reduceToNat, eq_self, rulesT, rulesD, *]
              | (refine allK_intro fun n hn => ?_; try simp only [fresh_set] at hn)
              | (refine ifK_intro (fun h => ?_) (fun h => ?_) <;> (try simp only [rulesE] at h) <;> try (exfalso; (try simp only [rulesF] at h); omega))
              | (refine keeps_sub (Mem.sub_set ?_) ?_; focus (simp [Mem.set_at, nomem, *]; done))
              | (refine call_F (h30) (Seens.refl _ _) ?_)
              | (refine pure_F (h30) (Seens.refl _ _) ?_)
            refine lit_vs (lit1_44 _) rfl ?_
            rw [chunk_one]
            repeat' first
              | simp -dsimp (disch := omega) only [↓rulesA, rulesB, rulesC, Int.reduceLT, nth, upd, put, storeN, AV.one, Nat.reduceBEq, Nat.reduceBNe, Int.reduceBEq, Int.reduceBNe, Int.reduceLE, Int.reduceEq, Int.reduceMod, Int.reduceNeg, boolBin, strBin, intBin, unA, fillA, ne_eq, reduceCtorEq, Nat.reduceAdd, Nat.reduceSub, Nat.reduceLeDiff, Nat.reduceLT, Nat.reduceEqDiff, Int.reduceToNat, eq_self, rulesT, rulesD, *]
              | (refine allK_intro fun n hn => ?_; try simp only [fresh_set] at hn)
              | (refine ifK_intro (fun h => ?_) (fun h => ?_) <;> (try simp only [rulesE] at h) <;> try (exfalso; (try simp only [rulesF] at h); omega))
              | (refine keeps_sub (Mem.sub_set ?_) ?_; focus (simp [Mem.set_at, nomem, *]; done))
            refine app_vs2 (l := [2]) (G := G) (q := 8) (l' := p) hMN (by decide) (by omega) (by decide) ep2 fun nb hnb => ?_
            repeat' first
              | simp -dsimp (disch := omega) only [↓rulesA, rulesB, rulesC, Int.reduceLT, nth, upd, put, storeN, AV.one, Nat.reduceBEq, Nat.reduceBNe, Int.reduceBEq, Int.reduceBNe, Int.reduceLE, Int.reduceEq, Int.reduceMod, Int.reduceNeg, boolBin, strBin, intBin, unA, fillA, ne_eq, reduceCtorEq, Nat.reduceAdd, Nat.reduceSub, Nat.reduceLeDiff, Nat.reduceLT, Nat.reduceEqDiff, Int.reduceToNat, eq_self, rulesT, rulesD, *]
              | (refine allK_intro fun n hn => ?_; try simp only [fresh_set] at hn)
              | (refine ifK_intro (fun h => ?_) (fun h => ?_) <;> (try simp only [rulesE] at h) <;> try (exfalso; (try simp only [rulesF] at h); omega))
              | (refine keeps_sub (Mem.sub_set ?_) ?_; focus (simp [Mem.set_at, nomem, *]; done))
          all_goals
            have ep0 : p.length + 0 = p.length := rfl
            have eA0 : A + 0 = A := rfl
            refine loop_intro (fun jj env m => ∃ q nb : Nat, q ≤ 64 - p.length ∧ q ≤ R.length ∧ jj = 64 - q ∧ M nb = none ∧ m = M.set nb (.cells true 5 ((p ++ R.take q).map byteC).flatten) ∧ nth env 12 = .sl nb 0 (p.length + q) (p.length + q) ∧ env.length = 108 ∧ nth env 1 = .val (.string ⟨rec.toArray⟩) ∧ nth env 5 = .sl N 0 16 16 ∧ nth env 11 = v11 ∧ nth env 13 = .val (.int .i64 ((A + q : Nat) : Int)) ∧ nth env 14 = .val (.int .i64 i)) 64 _ (Mem.sub.refl _) ⟨0, nb, by omega, by omega, by omega, hnb, by rw [List.take_zero, List.append_nil], ?_, ?_, ?_, ?_, ?_, ?_, ?_⟩ ?_
            rotate_left 7
            · try clear e12
              clear hlen e1 e5 e13 e14 e11 hnb nb env h30 ep0 eA0
              rintro jj env m ⟨q, nb, hq1, hq2, rfl, hnb, rfl, e12, hlen, e1, e5, e11, e13, e14⟩
              have hpq : (p ++ R.take q).length = p.length + q := by rw [List.length_append, List.length_take]; omega
              by_cases hc : p.length + q < 64 ∧ A + q < rec.length
              · obtain ⟨c1, c2⟩ := hc
                have hix := index_9 rec .i64 ((A + q : Nat) : Int) (by omega) (by omega)
                rw [Int.toNat_natCast] at hix
                have hgd : rec.getD (A + q) default = R.getD q default := by rw [(eR : _ = _)]; simp [List.getD_eq_getElem?_getD]
                rw [hgd] at hix
                have htk := take_more R q (by omega)
                have ec : ((A + q : Nat) : Int) + 1 = ((A + (q + 1) : Nat) : Int) := by omega
                have ci1 : ((p.length + q : Nat) : Int) < 64 := by omega
                have ci2 : ((A + q : Nat) : Int) < rec.length := by omega
                have hpq' : (p ++ R.take (q + 1)).length = p.length + (q + 1) := by rw [List.length_append, List.length_take]; omega
                replace htk : Kept _ := htk
                clear hgd
                repeat' first
                  | simp -dsimp (disch := omega) only [↓rulesA, rulesB, rulesC, Int.reduceLT, nth, upd, put, storeN, AV.one, Nat.reduceBEq, Nat.reduceBNe, Int.reduceBEq, Int.reduceBNe, Int.reduceLE, Int.reduceEq, Int.reduceMod, Int.reduceNeg, boolBin, strBin, intBin, unA, fillA, ne_eq, reduceCtorEq, Nat.reduceAdd, Nat.reduceSub, Nat.reduceLeDiff, Nat.reduceLT, Nat.reduceEqDiff, Int.reduceToNat, eq_self, rulesT, rulesD, text_size, *]
                  | (refine allK_intro fun n hn => ?_; try simp only [fresh_set] at hn)
                  | (refine ifK_intro (fun h => ?_) (fun h => ?_) <;> (try simp only [rulesE] at h) <;> try (exfalso; (try simp only [rulesF] at h); omega))
                  | (refine keeps_sub (Mem.sub_set ?_) ?_; focus (simp [Mem.set_at, nomem, *]; done))
                refine lit_vs (lit1_44 _) rfl ?_
                rw [chunk_one]
                repeat' first
                  | simp -dsimp (disch := omega) only [↓rulesA, rulesB, rulesC, Int.reduceLT, nth, upd, put, storeN, AV.one, Nat.reduceBEq, Nat.reduceBNe, Int.reduceBEq, Int.reduceBNe, Int.reduceLE, Int.reduceEq, Int.reduceMod, Int.reduceNeg, boolBin, strBin, intBin, unA, fillA, ne_eq, reduceCtorEq, Nat.reduceAdd, Nat.reduceSub, Nat.reduceLeDiff, Nat.reduceLT, Nat.reduceEqDiff, Int.reduceToNat, eq_self, rulesT, rulesD, *]
                  | (refine allK_intro fun n hn => ?_; try simp only [fresh_set] at hn)
                  | (refine ifK_intro (fun h => ?_) (fun h => ?_) <;> (try simp only [rulesE] at h) <;> try (exfalso; (try simp only [rulesF] at h); omega))
                  | (refine keeps_sub (Mem.sub_set ?_) ?_; focus (simp [Mem.set_at, nomem, *]; done))
                refine app_own2 (l := p ++ R.take q) (s := [R.getD q default]) (l' := p ++ R.take (q + 1)) hpq hnb app_44 (by rw [hpq]; show _ + 1 ≤ _; omega) (srcB_of (src_44' _ [R.getD q default] true)) (by rw [List.append_assoc, (htk : _ = _)]) fun nb' hnb' => ?_
                clear hix
                repeat' first
                  | simp -dsimp (disch := omega) only [↓rulesA, rulesB, rulesC, Int.reduceLT, nth, upd, put, storeN, AV.one, Nat.reduceBEq, Nat.reduceBNe, Int.reduceBEq, Int.reduceBNe, Int.reduceLE, Int.reduceEq, Int.reduceMod, Int.reduceNeg, boolBin, strBin, intBin, unA, fillA, ne_eq, reduceCtorEq, Nat.reduceAdd, Nat.reduceSub, Nat.reduceLeDiff, Nat.reduceLT, Nat.reduceEqDiff, Int.reduceToNat, eq_self, rulesT, rulesD, *]
                  | (refine allK_intro fun n hn => ?_; try simp only [fresh_set] at hn)
                  | (refine ifK_intro (fun h => ?_) (fun h => ?_) <;> (try simp only [rulesE] at h) <;> try (exfalso; (try simp only [rulesF] at h); omega))
                  | (refine keeps_sub (Mem.sub_set ?_) ?_; focus (simp [Mem.set_at, nomem, *]; done))
                refine again_intro (64 - (q + 1)) (by omega) _ (Mem.sub.refl _) ⟨q + 1, nb', by omega, by omega, rfl, hnb', rfl, ?_, ?_, ?_, ?_, ?_, ?_, ?_⟩
                all_goals try (simp (disch := omega) only [nth_upd, pickB_true, pickB_false, inB_lt, upd_len, cast_succ, Int.cast_ofNat_Int, Nat.reduceBEq, beq_self_eq_true, reduceCtorEq, *]; done)
              · have hexit : p.length + q = 64 ∨ p.length + q < 64 ∧ ¬ ((A + q : Nat) : Int) < rec.length := by omega
                have hB : R.take q = R.take (64 - p.length) := by
                  rcases hexit with hx | ⟨hx, hx2⟩
                  · rw [show 64 - p.length = q by omega]
                  · rw [List.take_of_length_le (by omega), List.take_of_length_le (by omega)]
                have hoff : offB (i + 1) = offB i + (64 - p.length) := by
                  rw [(ep : _ = _), preB_len]
                  unfold offB
                  rcases Nat.eq_zero_or_pos i with h | h
                  · rw [h]; rfl
                  · rw [if_neg (by omega), if_neg (by omega), if_neg (by omega)]; omega
                have hA' : Kept ((min (offB (i + 1)) rec.length : Nat) = A + q) := by
                  show _ = _
                  have h1 : A = _ := eA
                  rw [hoff]
                  omega
                have hsec : Kept (p ++ R.take q ++ List.replicate (64 - (p.length + q)) 0 = secB n rec i) := by
                  have e1 : p = _ := ep
                  have e2 : R = rec.drop (offB i) := by
                    have h1 : R = _ := eR
                    have h2 : A = _ := eA
                    rw [h1, h2]
                    rcases Nat.le_total (offB i) rec.length with h | h
                    · rw [Nat.min_eq_left h]
                    · rw [Nat.min_eq_right h, List.drop_length, List.drop_of_length_le h]
                  show _ = pad64 _
                  unfold pad64
                  rw [← e1, ← e2, ← hB, hpq]
                clear hB hoff hc
                have hX : (nomem.set N (.cells true 5 (G.map byteC).flatten)) nb = none := Mem.sub_none hrow.sub hnb
                obtain ⟨bl, ebl⟩ : ∃ bl, bl = p.length + q := ⟨_, rfl⟩
                have hbl : bl ≤ 64 := by omega
                rw [← ebl] at hpq hexit hsec e12
                generalize p ++ R.take q = B at *
                have hex : bl = 64 ∨ bl < 64 ∧ ¬ ((A + q : Nat) : Int) < rec.length := hexit
                replace ebl : Kept _ := ebl
                clear hexit
                have eb0 : bl + 0 = bl := rfl
                rcases hex with hx | ⟨hx, hx2⟩
                all_goals
                  repeat' first
                    | simp -dsimp (disch := omega) only [↓rulesA, rulesB, rulesC, Int.reduceLT, nth, upd, put, storeN, AV.one, Nat.reduceBEq, Nat.reduceBNe, Int.reduceBEq, Int.reduceBNe, Int.reduceLE, Int.reduceEq, Int.reduceMod, Int.reduceNeg, boolBin, strBin, intBin, unA, fillA, ne_eq, reduceCtorEq, Nat.reduceAdd, Nat.reduceSub, Nat.reduceLeDiff, Nat.reduceLT, Nat.reduceEqDiff, Int.reduceToNat, eq_self, rulesT, rulesD, text_size, *]
                    | (refine allK_intro fun n hn => ?_; try simp only [fresh_set] at hn)
                    | (refine ifK_intro (fun h => ?_) (fun h => ?_) <;> (try simp only [rulesE] at h) <;> try (exfalso; (try simp only [rulesF] at h); omega))
                    | (refine keeps_sub (Mem.sub_set ?_) ?_; focus (simp [Mem.set_at, nomem, *]; done))
                  refine loop_intro (fun jj env m => ∃ z nb : Nat, bl + z ≤ 64 ∧ jj = 64 - z ∧ M nb = none ∧ m = M.set nb (.cells true 5 ((B ++ List.replicate z 0).map byteC).flatten) ∧ nth env 12 = .sl nb 0 (bl + z) (bl + z) ∧ env.length = 108 ∧ nth env 1 = .val (.string ⟨rec.toArray⟩) ∧ nth env 5 = .sl N 0 16 16 ∧ nth env 11 = v11 ∧ nth env 13 = .val (.int .i64 ((A + q : Nat) : Int)) ∧ nth env 14 = .val (.int .i64 i)) 64 _ (Mem.sub.refl _) ⟨0, nb, by omega, by omega, hnb, by rw [show B ++ List.replicate 0 0 = B from List.append_nil _], ?_, ?_, ?_, ?_, ?_, ?_, ?_⟩ ?_
                  rotate_left 7
                  · clear hlen e1 e5 e13 e14 e11 e12 hnb hX nb env eb0
                    rintro jj env m ⟨z, nb, hz, rfl, hnb, rfl, e12, hlen, e1, e5, e11, e13, e14⟩
                    have hzl : (B ++ List.replicate z (0 : UInt8)).length = bl + z := by rw [List.length_append, List.length_replicate, hpq]
                    by_cases hz6 : bl + z < 64
                    · have ci : ((bl + z : Nat) : Int) < 64 := by omega
                      obtain ⟨B2, eB2⟩ : ∃ B2, B2 = B ++ List.replicate (z + 1) (0 : UInt8) := ⟨_, rfl⟩
                      have hzl' : B2.length = bl + (z + 1) := by rw [eB2, List.length_append, List.length_replicate, hpq]
                      replace eB2 : Kept _ := eB2
                      repeat' first
                        | simp -dsimp (disch := omega) only [↓rulesA, rulesB, rulesC, Int.reduceLT, nth, upd, put, storeN, AV.one, Nat.reduceBEq, Nat.reduceBNe, Int.reduceBEq, Int.reduceBNe, Int.reduceLE, Int.reduceEq, Int.reduceMod, Int.reduceNeg, boolBin, strBin, intBin, unA, fillA, ne_eq, reduceCtorEq, Nat.reduceAdd, Nat.reduceSub, Nat.reduceLeDiff, Nat.reduceLT, Nat.reduceEqDiff, Int.reduceToNat, eq_self, rulesT, rulesD, *]
                        | (refine allK_intro fun n hn => ?_; try simp only [fresh_set] at hn)
                        | (refine ifK_intro (fun h => ?_) (fun h => ?_) <;> (try simp only [rulesE] at h) <;> try (exfalso; (try simp only [rulesF] at h); omega))
                        | (refine keeps_sub (Mem.sub_set ?_) ?_; focus (simp [Mem.set_at, nomem, *]; done))
                      all_goals
                        refine lit_vs (lit1_44 _) rfl ?_
                        rw [chunk_one]
                        repeat' first
                          | simp -dsimp (disch := omega) only [↓rulesA, rulesB, rulesC, Int.reduceLT, nth, upd, put, storeN, AV.one, Nat.reduceBEq, Nat.reduceBNe, Int.reduceBEq, Int.reduceBNe, Int.reduceLE, Int.reduceEq, Int.reduceMod, Int.reduceNeg, boolBin, strBin, intBin, unA, fillA, ne_eq, reduceCtorEq, Nat.reduceAdd, Nat.reduceSub, Nat.reduceLeDiff, Nat.reduceLT, Nat.reduceEqDiff, Int.reduceToNat, eq_self, rulesT, rulesD, *]
                          | (refine allK_intro fun n hn => ?_; try simp only [fresh_set] at hn)
                          | (refine ifK_intro (fun h => ?_) (fun h => ?_) <;> (try simp only [rulesE] at h) <;> try (exfalso; (try simp only [rulesF] at h); omega))
                          | (refine keeps_sub (Mem.sub_set ?_) ?_; focus (simp [Mem.set_at, nomem, *]; done))
                        refine app_own2 (l := B ++ List.replicate z 0) (s := [0]) (l' := B2) hzl hnb app_44 (by rw [hzl]; show _ + 1 ≤ _; omega) (srcB_of (src_44' _ [0] true)) (by rw [(eB2 : _ = _), List.append_assoc, List.replicate_succ']) fun nb' hnb' => ?_
                        repeat' first
                          | simp -dsimp (disch := omega) only [↓rulesA, rulesB, rulesC, Int.reduceLT, nth, upd, put, storeN, AV.one, Nat.reduceBEq, Nat.reduceBNe, Int.reduceBEq, Int.reduceBNe, Int.reduceLE, Int.reduceEq, Int.reduceMod, Int.reduceNeg, boolBin, strBin, intBin, unA, fillA, ne_eq, reduceCtorEq, Nat.reduceAdd, Nat.reduceSub, Nat.reduceLeDiff, Nat.reduceLT, Nat.reduceEqDiff, Int.reduceToNat, eq_self, rulesT, rulesD, *]
                          | (refine allK_intro fun n hn => ?_; try simp only [fresh_set] at hn)
                          | (refine ifK_intro (fun h => ?_) (fun h => ?_) <;> (try simp only [rulesE] at h) <;> try (exfalso; (try simp only [rulesF] at h); omega))
                          | (refine keeps_sub (Mem.sub_set ?_) ?_; focus (simp [Mem.set_at, nomem, *]; done))
                        refine again_intro (64 - (z + 1)) (by omega) _ (Mem.sub.refl _) ⟨z + 1, nb', by omega, rfl, hnb', by rw [(eB2 : _ = _)], ?_, ?_, ?_, ?_, ?_, ?_, ?_⟩
                        all_goals try (simp (disch := omega) only [nth_upd, pickB_true, pickB_false, inB_lt, upd_len, cast_succ, Int.cast_ofNat_Int, Nat.reduceBEq, beq_self_eq_true, reduceCtorEq, *]; done)
                    · have ci : ¬ ((bl + z : Nat) : Int) < 64 := by omega
                      have e64 : bl + z = 64 := by omega
                      have hSB : B ++ List.replicate z 0 = secB n rec i := by
                        rw [← (hsec : _ = _), show 64 - bl = z by omega]
                      have hlS := secB_len n rec i
                      rw [hSB] at hzl ⊢
                      have hX : (nomem.set N (.cells true 5 (G.map byteC).flatten)) nb = none := Mem.sub_none hrow.sub hnb
                      have hrow2 := hrow.put hnb (.cells true 5 ((secB n rec i).map byteC).flatten)
                      have hT : (pieceT n rec i).length ≤ 6000 := by rw [pieceT_len]; omega
                      have hsT := pieceT_succ n rec i
                      generalize secB n rec i = SB at *
                      have hcv : ∀ cap, convA Try.prog (M.set nb (.cells true 5 (SB.map byteC).flatten)) 44 9 (.sl nb 0 64 cap) = some (.val (.string ⟨SB.toArray⟩)) := fun cap =>
                        conv_own ti_44 rfl ti_9 rfl ti_5 rfl (opn := true) (t := 5) (cs := (SB.map byteC).flatten) (Mem.set_same _ _ _) _ (by rw [List.drop_zero, List.take_of_length_le (by rw [flatten_one]; omega)]) (by rw [flatten_one]; omega)
                      rw [e64] at e12
                      replace hsT : Kept _ := hsT
                      replace hzl : Kept _ := hzl
                      clear ci e64 hSB
                      repeat' first
                        | simp -dsimp (disch := omega) only [↓rulesA, rulesB, rulesC, Int.reduceLT, nth, upd, put, storeN, AV.one, Nat.reduceBEq, Nat.reduceBNe, Int.reduceBEq, Int.reduceBNe, Int.reduceLE, Int.reduceEq, Int.reduceMod, Int.reduceNeg, boolBin, strBin, intBin, unA, fillA, ne_eq, reduceCtorEq, Nat.reduceAdd, Nat.reduceSub, Nat.reduceLeDiff, Nat.reduceLT, Nat.reduceEqDiff, Int.reduceToNat, eq_self, rulesT, rulesD, hcv, *]
                        | (refine allK_intro fun n hn => ?_; try simp only [fresh_set] at hn)
                        | (refine ifK_intro (fun h => ?_) (fun h => ?_) <;> (try simp only [rulesE] at h) <;> try (exfalso; (try simp only [rulesF] at h); omega))
                        | (refine keeps_sub (Mem.sub_set ?_) ?_; focus (simp [Mem.set_at, nomem, *]; done))
                      refine lit_vs (lit1_22 _) rfl ?_
                      repeat' first
                        | simp -dsimp (disch := omega) only [↓rulesA, rulesB, rulesC, Int.reduceLT, nth, upd, put, storeN, AV.one, Nat.reduceBEq, Nat.reduceBNe, Int.reduceBEq, Int.reduceBNe, Int.reduceLE, Int.reduceEq, Int.reduceMod, Int.reduceNeg, boolBin, strBin, intBin, unA, fillA, ne_eq, reduceCtorEq, Nat.reduceAdd, Nat.reduceSub, Nat.reduceLeDiff, Nat.reduceLT, Nat.reduceEqDiff, Int.reduceToNat, eq_self, rulesT, rulesD, *]
                        | (refine allK_intro fun n hn => ?_; try simp only [fresh_set] at hn)
                        | (refine ifK_intro (fun h => ?_) (fun h => ?_) <;> (try simp only [rulesE] at h) <;> try (exfalso; (try simp only [rulesF] at h); omega))
                        | (refine keeps_sub (Mem.sub_set ?_) ?_; focus (simp [Mem.set_at, nomem, *]; done))
                      refine hrow2.app ⟨SB.toArray⟩ hT (src_22 _ [⟨SB.toArray⟩] true) fun r' M' hr' => ?_
                      obtain ⟨M2, hr2, hs2⟩ := hr'.less hX
                      rw [← (hsT : _ = _)] at hr2
                      have e : Kept (∀ w, w = r' → LRow (pieceT n rec (i + 1)) w M2 (nomem.set N (.cells true 5 (G.map byteC).flatten))) := fun w hw => by rw [hw]; exact hr2
                      have hA2 : (min (offB (i + 1)) rec.length : Nat) = A + q := hA'
                      clear hr2 hr' hrow2 hrow hcv
                      repeat' first
                        | simp -dsimp (disch := omega) only [↓rulesA, rulesB, rulesC, Int.reduceLT, nth, upd, put, storeN, AV.one, Nat.reduceBEq, Nat.reduceBNe, Int.reduceBEq, Int.reduceBNe, Int.reduceLE, Int.reduceEq, Int.reduceMod, Int.reduceNeg, boolBin, strBin, intBin, unA, fillA, ne_eq, reduceCtorEq, Nat.reduceAdd, Nat.reduceSub, Nat.reduceLeDiff, Nat.reduceLT, Nat.reduceEqDiff, Int.reduceToNat, eq_self, rulesT, rulesD, *]
                        | (refine allK_intro fun n hn => ?_; try simp only [fresh_set] at hn)
                        | (refine ifK_intro (fun h => ?_) (fun h => ?_) <;> (try simp only [rulesE] at h) <;> try (exfalso; (try simp only [rulesF] at h); omega))
                        | (refine keeps_sub (Mem.sub_set ?_) ?_; focus (simp [Mem.set_at, nomem, *]; done))
                      refine again_intro (K - (i + 1)) (by omega) M2 hs2 ⟨i + 1, M2, by omega, rfl, (e : ∀ _, _) _ ?_, fun _ => rfl, fun h => absurd h (by omega), ?_, ?_, ?_, ?_, ?_⟩
                      all_goals try (simp (disch := omega) only [nth_upd, pickB_true, pickB_false, inB_lt, upd_len, cast_succ, Int.cast_ofNat_Int, Nat.reduceBEq, beq_self_eq_true, reduceCtorEq, *]; done)
                  all_goals all_goals try (simp (disch := omega) only [nth_upd, pickB_true, pickB_false, inB_lt, upd_len, cast_succ, Int.cast_ofNat_Int, Nat.reduceBEq, beq_self_eq_true, reduceCtorEq, *]; done)
            all_goals all_goals try (simp (disch := omega) only [nth_upd, pickB_true, pickB_false, inB_lt, upd_len, cast_succ, Int.cast_ofNat_Int, Nat.reduceBEq, beq_self_eq_true, reduceCtorEq, *]; done)
        · have hi' : i = K := by omega
          subst hi'
          repeat' first
            | simp -dsimp (disch := omega) only [↓rulesA, rulesB, rulesC, Int.reduceLT, nth, upd, put, storeN, AV.one, Nat.reduceBEq, Nat.reduceBNe, Int.reduceBEq, Int.reduceBNe, Int.reduceLE, Int.reduceEq, Int.reduceMod, Int.reduceNeg, boolBin, strBin, intBin, unA, fillA, ne_eq, reduceCtorEq, Nat.reduceAdd, Nat.reduceSub, Nat.reduceLeDiff, Nat.reduceLT, Nat.reduceEqDiff, Int.reduceToNat, eq_self, rulesT, rulesD, *]
            | (refine allK_intro fun n hn => ?_; try simp only [fresh_set] at hn)
            | (refine ifK_intro (fun h => ?_) (fun h => ?_) <;> (try simp only [rulesE] at h) <;> try (exfalso; (try simp only [rulesF] at h); omega))
            | (refine keeps_sub (Mem.sub_set ?_) ?_; focus (simp [Mem.set_at, nomem, *]; done))
            | (refine call_F (h30) (Seens.refl _ _) ?_)
            | (refine pure_F (h30) (Seens.refl _ _) ?_)
          have hK' : i = _ := hK
          have hm := hp (by rw [hK']; exact needN_pos _)
          rw [hm]
          rcases hrow with ⟨hT, hv, hM⟩ | ⟨q, hq, hv, hM⟩
          · rw [hT, hv]; exact .nil
          · rw [hv, hM]
            exact New.row txC (s := 1) (fun _ => rfl) (fun _ => rfl) _ (Mem.set_same _ _ _)
      all_goals all_goals try (simp (disch := omega) only [nth_upd, pickB_true, pickB_false, inB_lt, upd_len, cast_succ, Int.cast_ofNat_Int, Nat.reduceBEq, beq_self_eq_true, reduceCtorEq, *]; done)
    all_goals all_goals try (simp (disch := omega) only [nth_upd, pickB_true, pickB_false, inB_lt, upd_len, cast_succ, Int.cast_ofNat_Int, Nat.reduceBEq, beq_self_eq_true, reduceCtorEq, *]; done)
  all_goals all_goals try (simp (disch := omega) only [nth_upd, pickB_true, pickB_false, inB_lt, upd_len, cast_succ, Int.cast_ofNat_Int, Nat.reduceBEq, beq_self_eq_true, reduceCtorEq, *]; done)
end Go.Proofs.Ytlkeailgccbmbaa

set_option maxRecDepth 100000
set_option maxHeartbeats 1000000
set_option linter.unusedSimpArgs false
set_option linter.unusedVariables false
namespace Go.Proofs.Ytlkeailgccbmbaa
open Go.Abs
attribute [local irreducible] C X CC Y CV CW binK litK AppK PureC PureCV againK loopV rangeV allK ifK got onB condK V stepsK planK opK firstK seeE keepsK
def RJAt (r : RJ) (d : Dev) (N Nd : Nat) (m : Mem) : Prop := ∃ md, d.RAt Nd md ∧ md N = none ∧ m = md.set N (.cells false 82 (r.own Nd))
theorem RJAt.seen {r : RJ} {d : Dev} {N Nd : Nat} {m M : Mem} (h : RJAt r d N Nd m) (hs : m.sub M) : ∃ pk, Seen M (.ptr N 0) (.vp (r.rc d pk false false) 0) := by
  obtain ⟨md, h1, h2, rfl⟩ := h
  obtain ⟨pk, hd, -⟩ := h1.seen (Mem.sub.refl md) 0
  exact ⟨pk, rjseen hd ((Mem.sub_set h2).trans hs) (hs _ _ (Mem.set_same _ _ _))⟩
theorem C22 {r : RJ} {d : Dev} {N Nd : Nat} {m : Mem} (h : RJAt r d N Nd m) : C Try.prog 22 [.ptr N 0] m (fun w m' => w = .tup [] ∧ RJAt { r with a := 0 } d N Nd m') := by
  obtain ⟨md, h1, h2, rfl⟩ := h
  have s3' : setRange (r.own Nd) 3 [.val (.int .i64 0)] = ({ r with a := 0 } : RJ).own Nd := rfl
  refine C22_of ?_
  unfold k22
  repeat' first
    | simp -dsimp (disch := omega) only [↓rulesA, rulesB, rulesC, Int.reduceLT, nth, upd, put, storeN, AV.one, Nat.reduceBEq, Nat.reduceBNe, Int.reduceBEq, Int.reduceBNe, Int.reduceLE, Int.reduceEq, Int.reduceMod, Int.reduceNeg, boolBin, strBin, intBin, unA, fillA, ne_eq, reduceCtorEq, Nat.reduceAdd, Nat.reduceSub, Nat.reduceLeDiff, Nat.reduceLT, Nat.reduceEqDiff, Int.reduceToNat, eq_self, rulesT, rulesD, RJ.olen, s3', *]
    | (refine allK_intro fun n hn => ?_; try simp only [fresh_set] at hn)
    | (refine ifK_intro (fun h => ?_) (fun h => ?_) <;> (try simp only [rulesE] at h) <;> try (exfalso; (try simp only [rulesF] at h); omega))
    | (refine keeps_sub (Mem.sub_set ?_) ?_; focus (simp [Mem.set_at, nomem, *]; done))
  exact ⟨md, h1, h2, rfl⟩
def appR (r : RJ) (d : Dev) (rec : List UInt8) : RJ := if r.b = true ∨ d.dead = true then r else if fullJ r.j rec then r else if (putD r.j d rec).dead then { r with b := true } else { r with a := r.a + needN rec.length, n := r.n + 1 }
theorem appR_j (r : RJ) (d : Dev) (rec : List UInt8) : (appR r d rec).j = appJ r.j d rec := by
  unfold appR appJ
  show (RJ.j (if r.b = true ∨ d.dead = true then _ else _)) = if r.b = true ∨ d.dead = true then _ else _
  split
  · rfl
  · split
    · rfl
    · split
      · rfl
      · show Jour.mk _ _ _ _ _ = Jour.mk _ _ _ _ _
        simp only [RJ.j]
        congr 1
        omega
theorem C21 {r : RJ} {d : Dev} {N Nd : Nat} {m : Mem} (hat : RJAt r d N Nd m) (hok : d.Ok) (he : r.f + r.c ≤ d.laid.length) (ha : r.a ≤ 8192) (hn : r.n ≤ 4611686018427387905) (hw : d.w < 2305843009213693952) (hf : d.f < 4611686018427387904) (rec : List UInt8) (hrec : rec.length ≤ 140737488355328) : C Try.prog 21 [.ptr N 0, .val (.string ⟨rec.toArray⟩)] m (fun w m' => w = .val (.int .i64 (appE r.j d rec)) ∧ RJAt (appR r d rec) (appD r.j d rec) N Nd m') := by
  obtain ⟨md, hmd, hN, rfl⟩ := hat
  have hd1 := hok.some
  have hdm := hok.most
  have hcell : ∃ nC nD pk, md Nd = some (.cells false 80 (d.ro nD (d.rrow nC) pk)) := by
    obtain ⟨nC, nD, pk, h1, h2, h3, h4, hm0⟩ := hmd
    exact ⟨nC, nD, pk, by rw [hm0]; exact Mem.set_same _ _ _⟩
  obtain ⟨nC, nD, pk, a0⟩ := hcell
  have hne : Nd ≠ N := fun e => by rw [e, hN] at a0; cases a0
  have hne' := Ne.symm hne
  rcases hj : r.b with _ | _
  rotate_left
  · have e1 : appE r.j d rec = 22 := if_pos (.inl hj)
    have e2 : appR r d rec = r := if_pos (.inl hj)
    have e3 : appD r.j d rec = d := if_pos (.inl hj)
    rw [e1, e2, e3]
    clear e1 e2 e3
    refine C21_of ?_
    unfold k21
    repeat' first
      | simp -dsimp (disch := omega) only [↓rulesA, rulesB, rulesC, Int.reduceLT, nth, upd, put, storeN, AV.one, Nat.reduceBEq, Nat.reduceBNe, Int.reduceBEq, Int.reduceBNe, Int.reduceLE, Int.reduceEq, Int.reduceMod, Int.reduceNeg, boolBin, strBin, intBin, unA, fillA, ne_eq, reduceCtorEq, Nat.reduceAdd, Nat.reduceSub, Nat.reduceLeDiff, Nat.reduceLT, Nat.reduceEqDiff, Int.reduceToNat, eq_self, rulesT, rulesD, RJ.o0, RJ.o5, Dev.rrow, Dev.ro, Dev.t4, Dev.p0, Dev.p1, Dev.p2, Dev.p3, Dev.p4, Dev.p5, Dev.p6, Dev.p7, Dev.plen, Dev.t2, Dev.t3, Dev.t5, Dev.t6, Dev.t7, *]
      | (refine allK_intro fun n hn => ?_; try simp only [fresh_set] at hn)
      | (refine ifK_intro (fun h => ?_) (fun h => ?_) <;> (try simp only [rulesE] at h) <;> try (exfalso; (try simp only [rulesF] at h); omega))
      | (refine keeps_sub (Mem.sub_set ?_) ?_; focus (simp [Mem.set_at, nomem, *]; done))
    exact ⟨md, hmd, hN, rfl⟩
  rcases hdd : d.dead with _ | _
  rotate_left
  · have e1 : appE r.j d rec = 22 := if_pos (.inr hdd)
    have e2 : appR r d rec = r := if_pos (.inr hdd)
    have e3 : appD r.j d rec = d := if_pos (.inr hdd)
    rw [e1, e2, e3]
    clear e1 e2 e3
    refine C21_of ?_
    unfold k21
    repeat' first
      | simp -dsimp (disch := omega) only [↓rulesA, rulesB, rulesC, Int.reduceLT, nth, upd, put, storeN, AV.one, Nat.reduceBEq, Nat.reduceBNe, Int.reduceBEq, Int.reduceBNe, Int.reduceLE, Int.reduceEq, Int.reduceMod, Int.reduceNeg, boolBin, strBin, intBin, unA, fillA, ne_eq, reduceCtorEq, Nat.reduceAdd, Nat.reduceSub, Nat.reduceLeDiff, Nat.reduceLT, Nat.reduceEqDiff, Int.reduceToNat, eq_self, rulesT, rulesD, RJ.o0, RJ.o5, Dev.rrow, Dev.ro, Dev.t4, Dev.p0, Dev.p1, Dev.p2, Dev.p3, Dev.p4, Dev.p5, Dev.p6, Dev.p7, Dev.plen, Dev.t2, Dev.t3, Dev.t5, Dev.t6, Dev.t7, *]
      | (refine allK_intro fun n hn => ?_; try simp only [fresh_set] at hn)
      | (refine ifK_intro (fun h => ?_) (fun h => ?_) <;> (try simp only [rulesE] at h) <;> try (exfalso; (try simp only [rulesF] at h); omega))
      | (refine keeps_sub (Mem.sub_set ?_) ?_; focus (simp [Mem.set_at, nomem, *]; done))
    exact ⟨md, hmd, hN, rfl⟩
  have hno : ¬ (r.b = true ∨ d.dead = true) := by rw [hj, hdd]; decide
  rw [show appE r.j d rec = if fullJ r.j rec then 21 else if (putD r.j d rec).dead then 22 else 0 from if_neg hno, show appR r d rec = if fullJ r.j rec then r else if (putD r.j d rec).dead then { r with b := true } else { r with a := r.a + needN rec.length, n := r.n + 1 } from if_neg hno,
    show appD r.j d rec = if fullJ r.j rec then d else flushD (putD r.j d rec) from if_neg hno]
  clear hno
  have h30 := F30 rec.length (by omega)
  have hnb : needN rec.length ≤ 140737488355328 := by unfold needN; split <;> omega
  by_cases hfull : fullJ r.j rec
  · rw [if_pos hfull, if_pos hfull, if_pos hfull]
    have hK : Kept _ := hfull
    clear hfull
    refine C21_of ?_
    unfold k21
    repeat' first
      | simp -dsimp (disch := omega) only [↓rulesA, rulesB, rulesC, Int.reduceLT, nth, upd, put, storeN, AV.one, Nat.reduceBEq, Nat.reduceBNe, Int.reduceBEq, Int.reduceBNe, Int.reduceLE, Int.reduceEq, Int.reduceMod, Int.reduceNeg, boolBin, strBin, intBin, unA, fillA, ne_eq, reduceCtorEq, Nat.reduceAdd, Nat.reduceSub, Nat.reduceLeDiff, Nat.reduceLT, Nat.reduceEqDiff, Int.reduceToNat, eq_self, rulesT, rulesD, RJ.o0, RJ.o2, RJ.o3, RJ.o4, RJ.o5, text_size, Dev.rrow, Dev.ro, Dev.t4, Dev.p0, Dev.p1, Dev.p2, Dev.p3, Dev.p4, Dev.p5, Dev.p6, Dev.p7, Dev.plen, Dev.t2, Dev.t3, Dev.t5, Dev.t6, Dev.t7, *]
      | (refine allK_intro fun n hn => ?_; try simp only [fresh_set] at hn)
      | (refine ifK_intro (fun h => ?_) (fun h => ?_) <;> (try simp only [rulesE] at h) <;> try (exfalso; (try simp only [rulesF] at h); omega))
      | (refine keeps_sub (Mem.sub_set ?_) ?_; focus (simp [Mem.set_at, nomem, *]; done))
      | (refine call_F (h30) (Seens.refl _ _) ?_)
      | (refine pure_F (h30) (Seens.refl _ _) ?_)
    all_goals first | exact ⟨md, hmd, hN, rfl⟩ | (exfalso; have : fullJ r.j rec := hK; unfold fullJ RJ.j at this; dsimp only at this; omega)
  rw [if_neg hfull, if_neg hfull, if_neg hfull]
  unfold fullJ RJ.j at hfull
  dsimp only at hfull
  have hshort := need_len (n := rec.length) (e := r.c) (by omega) (by omega)
  have f45 := F45 r.n (by omega) rec hshort
  obtain ⟨K, hK⟩ : ∃ K, K = needN rec.length := ⟨_, rfl⟩
  have hK1 := needN_pos rec.length
  rw [← hK] at hK1 h30 f45 hnb hfull ⊢
  have hput : putD r.j d rec = wrTo d (r.f + r.a) r.n rec K := by rw [hK]; rfl
  rw [hput]
  clear hput
  have hg1 : ¬ ((r.a : Int) + (K : Int)) > (r.c : Int) := by omega
  have hg2 : ¬ ((r.n : Int) > 4611686018427387904) := by omega
  have hlen0 := pieceT_len r.n rec K
  have hgetT : ∀ i, i < K → (pieceT r.n rec K).getD i default = ⟨(secB r.n rec i).toArray⟩ := fun i hi => by
    unfold pieceT
    rw [List.getD_eq_getElem?_getD, List.getElem?_map, List.getElem?_range hi]; rfl
  have hroom : r.f + r.a + K ≤ d.laid.length := by omega
  replace hK : Kept _ := hK
  replace hgetT : Kept _ := hgetT
  refine C.turn (C21_of ?_)
  unfold k21
  repeat' first
    | simp -dsimp (disch := omega) only [↓rulesA, rulesB, rulesC, Int.reduceLT, nth, upd, put, storeN, AV.one, Nat.reduceBEq, Nat.reduceBNe, Int.reduceBEq, Int.reduceBNe, Int.reduceLE, Int.reduceEq, Int.reduceMod, Int.reduceNeg, boolBin, strBin, intBin, unA, fillA, ne_eq, reduceCtorEq, Nat.reduceAdd, Nat.reduceSub, Nat.reduceLeDiff, Nat.reduceLT, Nat.reduceEqDiff, Int.reduceToNat, eq_self, rulesT, rulesD, RJ.o0, RJ.o2, RJ.o3, RJ.o4, RJ.o5, text_size, Dev.rrow, Dev.ro, Dev.t4, Dev.p0, Dev.p1, Dev.p2, Dev.p3, Dev.p4, Dev.p5, Dev.p6, Dev.p7, Dev.plen, Dev.t2, Dev.t3, Dev.t5, Dev.t6, Dev.t7, *]
    | (refine allK_intro fun n hn => ?_; try simp only [fresh_set] at hn)
    | (refine ifK_intro (fun h => ?_) (fun h => ?_) <;> (try simp only [rulesE] at h) <;> try (exfalso; (try simp only [rulesF] at h); omega))
    | (refine keeps_sub (Mem.sub_set ?_) ?_; focus (simp [Mem.set_at, nomem, *]; done))
    | (refine call_F (h30) (Seens.refl _ _) ?_)
    | (refine pure_F (h30) (Seens.refl _ _) ?_)
    | (refine call_F (f45) (Seens.refl _ _) ?_)
    | (refine pure_F (f45) (Seens.refl _ _) ?_)
  clear h30 f45
  refine loop_intro (fun jj env m => ∃ (i : Nat) (md' : Mem), i ≤ K ∧ jj = K - i ∧ (wrTo d (r.f + r.a) r.n rec i).dead = false ∧ (wrTo d (r.f + r.a) r.n rec i).RAt Nd md' ∧ md' N = none ∧ m = md'.set N (.cells false 82 (r.own Nd)) ∧ env.length = 110 ∧ nth env 0 = .ptr N 0 ∧ nth env 5 = .vs ((pieceT r.n rec K).map txC) false ∧ nth env 6 = .val (.int .i64 i)) K _ (Mem.sub.refl _) ⟨0, md, by omega, rfl, hdd, hmd, hN, rfl, rfl, rfl, rfl, rfl⟩ ?_
  clear hmd hN a0 hdd md
  rintro jj env m ⟨i, md', hi, rfl, hdd, hmd, hN, rfl, hlen, e0, e5, e6⟩
  have hoki := wrTo_ok hok (r.f + r.a) r.n rec i
  have hlai := wrTo_laid d (r.f + r.a) r.n rec i
  have hwi := wrTo_w d (r.f + r.a) r.n rec i
  have hfi := wrTo_f d (r.f + r.a) r.n rec i
  have hsubN := Mem.sub_set (b := Blk.cells false 82 (r.own Nd)) hN
  by_cases hiK : i < K
  · have hsl := secB_len r.n rec i
    have hwe := write_if hdd (k := r.f + r.a + i) (by rw [hlai]; omega) hsl
    have c46 := C46 (wrTo d (r.f + r.a) r.n rec i) hoki hmd (by omega) (r.f + r.a + i : Nat) (secB r.n rec i) false (by rw [hsl]; decide)
    rw [hwe] at c46
    have hw1 : Kept (wrTo d (r.f + r.a) r.n rec (i + 1) = writeD (wrTo d (r.f + r.a) r.n rec i) ((r.f + r.a + i : Nat) : Int) (secB r.n rec i)) := rfl
    have hix := ix_22 (pieceT r.n rec K) false .i64 i (by omega) (by omega)
    rw [Int.toNat_natCast, (hgetT : ∀ _, _) i hiK] at hix
    have ek : (r.f : Int) + (r.a : Int) + (i : Int) = ((r.f + r.a + i : Nat) : Int) := by omega
    clear hoki hwe
    repeat' first
      | simp -dsimp (disch := omega) only [↓rulesA, rulesB, rulesC, Int.reduceLT, nth, upd, put, storeN, AV.one, Nat.reduceBEq, Nat.reduceBNe, Int.reduceBEq, Int.reduceBNe, Int.reduceLE, Int.reduceEq, Int.reduceMod, Int.reduceNeg, boolBin, strBin, intBin, unA, fillA, ne_eq, reduceCtorEq, Nat.reduceAdd, Nat.reduceSub, Nat.reduceLeDiff, Nat.reduceLT, Nat.reduceEqDiff, Int.reduceToNat, eq_self, rulesT, rulesD, RJ.o0, RJ.o1, RJ.o3, tx_g0, text_bytes, *]
      | (refine allK_intro fun n hn => ?_; try simp only [fresh_set] at hn)
      | (refine ifK_intro (fun h => ?_) (fun h => ?_) <;> (try simp only [rulesE] at h) <;> try (exfalso; (try simp only [rulesF] at h); omega))
      | (refine keeps_sub (Mem.sub_set ?_) ?_; focus (simp [Mem.set_at, nomem, *]; done))
    refine call_at c46 hsubN fun w m1 M1 ⟨hr, hat1⟩ s1 l1 => ?_
    obtain ⟨hN1, hMN1⟩ := l1 N _ hN (Mem.set_same _ _ _)
    clear l1 c46 hix
    subst hr
    generalize writeD (wrTo d (r.f + r.a) r.n rec i) ((r.f + r.a + i : Nat) : Int) (secB r.n rec i) = D1 at *
    rcases hD1 : D1.dead with _ | _
    · repeat' first
        | simp -dsimp (disch := omega) only [↓rulesA, rulesB, rulesC, Int.reduceLT, nth, upd, put, storeN, AV.one, Nat.reduceBEq, Nat.reduceBNe, Int.reduceBEq, Int.reduceBNe, Int.reduceLE, Int.reduceEq, Int.reduceMod, Int.reduceNeg, boolBin, strBin, intBin, unA, fillA, ne_eq, reduceCtorEq, Nat.reduceAdd, Nat.reduceSub, Nat.reduceLeDiff, Nat.reduceLT, Nat.reduceEqDiff, Int.reduceToNat, eq_self, rulesT, rulesD, RJ.o0, RJ.o1, RJ.o3, *]
        | (refine allK_intro fun n hn => ?_; try simp only [fresh_set] at hn)
        | (refine ifK_intro (fun h => ?_) (fun h => ?_) <;> (try simp only [rulesE] at h) <;> try (exfalso; (try simp only [rulesF] at h); omega))
        | (refine keeps_sub (Mem.sub_set ?_) ?_; focus (simp [Mem.set_at, nomem, *]; done))
      refine again_intro (K - (i + 1)) (by omega) (m1.set N (.cells false 82 (r.own Nd))) (Mem.set_sub s1 hMN1) ⟨i + 1, m1, by omega, rfl, ?_, ?_, hN1, rfl, ?_, ?_, ?_, ?_⟩
      · rw [(hw1 : _ = _)]; exact hD1
      · rw [(hw1 : _ = _)]; exact hat1
      all_goals try (simp (disch := omega) only [nth_upd, pickB_true, pickB_false, inB_lt, upd_len, cast_succ, Int.cast_ofNat_Int, Nat.reduceBEq, beq_self_eq_true, reduceCtorEq, *]; done)
    · have hKi : wrTo d (r.f + r.a) r.n rec K = D1 := by
        have := wrTo_dead (d := d) (a := r.f + r.a) (n := r.n) (rec := rec) (k := i + 1) (by rw [(hw1 : _ = _)]; exact hD1) (K - (i + 1))
        rw [show i + 1 + (K - (i + 1)) = K by omega, (hw1 : _ = _)] at this
        exact this
      have hfl : flushD D1 = D1 := by unfold flushD; rw [if_pos hD1]
      replace hKi : Kept _ := hKi
      replace hfl : Kept _ := hfl
      repeat' first
        | simp -dsimp (disch := omega) only [↓rulesA, rulesB, rulesC, Int.reduceLT, nth, upd, put, storeN, AV.one, Nat.reduceBEq, Nat.reduceBNe, Int.reduceBEq, Int.reduceBNe, Int.reduceLE, Int.reduceEq, Int.reduceMod, Int.reduceNeg, boolBin, strBin, intBin, unA, fillA, ne_eq, reduceCtorEq, Nat.reduceAdd, Nat.reduceSub, Nat.reduceLeDiff, Nat.reduceLT, Nat.reduceEqDiff, Int.reduceToNat, eq_self, rulesT, rulesD, RJ.o0, RJ.o1, RJ.o3, RJ.olen, RJ.s5, *]
        | (refine allK_intro fun n hn => ?_; try simp only [fresh_set] at hn)
        | (refine ifK_intro (fun h => ?_) (fun h => ?_) <;> (try simp only [rulesE] at h) <;> try (exfalso; (try simp only [rulesF] at h); omega))
        | (refine keeps_sub (Mem.sub_set ?_) ?_; focus (simp [Mem.set_at, nomem, *]; done))
      rw [(hKi : _ = _), hD1, (hfl : _ = _)]
      refine .sub (m' := m1.set N (.cells false 82 (({ r with b := true } : RJ).own Nd))) (Mem.set_mono s1) ⟨rfl, m1, hat1, hN1, rfl⟩
  · clear hgetT
    have c47 := C47 (wrTo d (r.f + r.a) r.n rec i) hoki hmd (by omega)
    have hi' : i = K := by omega
    subst hi'
    rw [hdd] at c47
    repeat' first
      | simp -dsimp (disch := omega) only [↓rulesA, rulesB, rulesC, Int.reduceLT, nth, upd, put, storeN, AV.one, Nat.reduceBEq, Nat.reduceBNe, Int.reduceBEq, Int.reduceBNe, Int.reduceLE, Int.reduceEq, Int.reduceMod, Int.reduceNeg, boolBin, strBin, intBin, unA, fillA, ne_eq, reduceCtorEq, Nat.reduceAdd, Nat.reduceSub, Nat.reduceLeDiff, Nat.reduceLT, Nat.reduceEqDiff, Int.reduceToNat, eq_self, rulesT, rulesD, RJ.o0, RJ.o1, RJ.o3, tx_g0, text_bytes, *]
      | (refine allK_intro fun n hn => ?_; try simp only [fresh_set] at hn)
      | (refine ifK_intro (fun h => ?_) (fun h => ?_) <;> (try simp only [rulesE] at h) <;> try (exfalso; (try simp only [rulesF] at h); omega))
      | (refine keeps_sub (Mem.sub_set ?_) ?_; focus (simp [Mem.set_at, nomem, *]; done))
    refine call_at c47 hsubN fun w m1 M1 ⟨hr, hat1⟩ s1 l1 => ?_
    obtain ⟨hN1, hMN1⟩ := l1 N _ hN (Mem.set_same _ _ _)
    clear l1 c47
    subst hr
    have sj : setRange (r.own Nd) 3 [.val (.int .i64 ((r.a : Int) + (i : Int)))] = (⟨r.f, r.c, r.a + i, r.n, r.b⟩ : RJ).own Nd := rfl
    have sj2 : setRange ((⟨r.f, r.c, r.a + i, r.n, r.b⟩ : RJ).own Nd) 4 [.val (.int .i64 ((r.n : Int) + 1))] = (⟨r.f, r.c, r.a + i, r.n + 1, r.b⟩ : RJ).own Nd := rfl
    rw [hj] at sj sj2
    repeat' first
      | simp -dsimp (disch := omega) only [↓rulesA, rulesB, rulesC, Int.reduceLT, nth, upd, put, storeN, AV.one, Nat.reduceBEq, Nat.reduceBNe, Int.reduceBEq, Int.reduceBNe, Int.reduceLE, Int.reduceEq, Int.reduceMod, Int.reduceNeg, boolBin, strBin, intBin, unA, fillA, ne_eq, reduceCtorEq, Nat.reduceAdd, Nat.reduceSub, Nat.reduceLeDiff, Nat.reduceLT, Nat.reduceEqDiff, Int.reduceToNat, eq_self, rulesT, rulesD, RJ.o0, RJ.o1, RJ.o3, RJ.o4, RJ.olen, sj, sj2, *]
      | (refine allK_intro fun n hn => ?_; try simp only [fresh_set] at hn)
      | (refine ifK_intro (fun h => ?_) (fun h => ?_) <;> (try simp only [rulesE] at h) <;> try (exfalso; (try simp only [rulesF] at h); omega))
      | (refine keeps_sub (Mem.sub_set ?_) ?_; focus (simp [Mem.set_at, nomem, *]; done))
    exact .sub (m' := m1.set N (.cells false 82 ((⟨r.f, r.c, r.a + i, r.n + 1, false⟩ : RJ).own Nd))) (Mem.set_mono s1) ⟨rfl, m1, hat1, hN1, rfl⟩
end Go.Proofs.Ytlkeailgccbmbaa

set_option maxRecDepth 100000
set_option maxHeartbeats 1000000
set_option linter.unusedSimpArgs false
set_option linter.unusedVariables false
namespace Go.Proofs.Ytlkeailgccbmbaa
open Go.Abs
attribute [local irreducible] C X CC Y CV CW binK litK AppK PureC PureCV againK loopV rangeV allK ifK got onB condK V stepsK planK opK firstK seeE keepsK
def needI (n : Int) : Int := if n ≤ 47 then 1 else 2 + (n - 48) / 55
theorem F29z (n : Int) (h : n ≤ 9223372036854775807) (h' : -9223372036854775808 ≤ n) : F Try.prog 29 [.val (.int .i64 n)] (.val (.int .i64 (needI n))) := by
  refine F29_of ?_
  unfold k29
  by_cases h47 : n ≤ 47
  · have e : needI n = 1 := if_pos h47
    repeat' first
      | simp -dsimp (disch := omega) only [↓rulesA, rulesB, rulesC, Int.reduceLT, nth, upd, put, storeN, AV.one, Nat.reduceBEq, Nat.reduceBNe, Int.reduceBEq, Int.reduceBNe, Int.reduceLE, Int.reduceEq, Int.reduceMod, Int.reduceNeg, boolBin, strBin, intBin, unA, fillA, ne_eq, reduceCtorEq, Nat.reduceAdd, Nat.reduceSub, Nat.reduceLeDiff, Nat.reduceLT, Nat.reduceEqDiff, Int.reduceToNat, eq_self, rulesT, rulesD, *]
      | (refine allK_intro fun n hn => ?_; try simp only [fresh_set] at hn)
      | (refine ifK_intro (fun h => ?_) (fun h => ?_) <;> (try simp only [rulesE] at h) <;> try (exfalso; (try simp only [rulesF] at h); omega))
      | (refine keeps_sub (Mem.sub_set ?_) ?_; focus (simp [Mem.set_at, nomem, *]; done))
    exact .val
  · have e : needI n = 2 + (n - 48) / 55 := if_neg h47
    obtain ⟨p, hp⟩ : ∃ p : Nat, n - 47 - 1 = (p : Int) := ⟨(n - 48).toNat, by omega⟩
    have e2 : (n - 48) / 55 = ((p / 55 : Nat) : Int) := by rw [show n - 48 = (p : Int) by omega]; rfl
    have q : ((p : Int)).tdiv 55 = ((p / 55 : Nat) : Int) := rfl
    rw [e2] at e
    rw [e]
    clear e e2
    repeat' first
      | simp -dsimp (disch := omega) only [↓rulesA, rulesB, rulesC, Int.reduceLT, nth, upd, put, storeN, AV.one, Nat.reduceBEq, Nat.reduceBNe, Int.reduceBEq, Int.reduceBNe, Int.reduceLE, Int.reduceEq, Int.reduceMod, Int.reduceNeg, boolBin, strBin, intBin, unA, fillA, ne_eq, reduceCtorEq, Nat.reduceAdd, Nat.reduceSub, Nat.reduceLeDiff, Nat.reduceLT, Nat.reduceEqDiff, Int.reduceToNat, eq_self, rulesT, rulesD, q, *]
      | (refine allK_intro fun n hn => ?_; try simp only [fresh_set] at hn)
      | (refine ifK_intro (fun h => ?_) (fun h => ?_) <;> (try simp only [rulesE] at h) <;> try (exfalso; (try simp only [rulesF] at h); omega))
      | (refine keeps_sub (Mem.sub_set ?_) ?_; focus (simp [Mem.set_at, nomem, *]; done))
    exact .val
theorem F30z (n : Int) (h : n ≤ 9223372036854775807) (h' : -9223372036854775808 ≤ n) : F Try.prog 30 [.val (.int .i64 n)] (.val (.int .i64 (needI n))) := by
  refine F30_of ?_
  unfold k30
  by_cases h47 : n ≤ 47
  · have e : needI n = 1 := if_pos h47
    repeat' first
      | simp -dsimp (disch := omega) only [↓rulesA, rulesB, rulesC, Int.reduceLT, nth, upd, put, storeN, AV.one, Nat.reduceBEq, Nat.reduceBNe, Int.reduceBEq, Int.reduceBNe, Int.reduceLE, Int.reduceEq, Int.reduceMod, Int.reduceNeg, boolBin, strBin, intBin, unA, fillA, ne_eq, reduceCtorEq, Nat.reduceAdd, Nat.reduceSub, Nat.reduceLeDiff, Nat.reduceLT, Nat.reduceEqDiff, Int.reduceToNat, eq_self, rulesT, rulesD, *]
      | (refine allK_intro fun n hn => ?_; try simp only [fresh_set] at hn)
      | (refine ifK_intro (fun h => ?_) (fun h => ?_) <;> (try simp only [rulesE] at h) <;> try (exfalso; (try simp only [rulesF] at h); omega))
      | (refine keeps_sub (Mem.sub_set ?_) ?_; focus (simp [Mem.set_at, nomem, *]; done))
    exact .val
  · have e : needI n = 2 + (n - 48) / 55 := if_neg h47
    obtain ⟨p, hp⟩ : ∃ p : Nat, n - 47 = (p : Int) := ⟨(n - 47).toNat, by omega⟩
    have e2 : (n - 48) / 55 = (((p - 1) / 55 : Nat) : Int) := by rw [show n - 48 = ((p - 1 : Nat) : Int) by omega]; rfl
    have q : ((p : Int)).tdiv 55 = ((p / 55 : Nat) : Int) := rfl
    have q2 : ((p : Int)).tmod 55 = ((p % 55 : Nat) : Int) := rfl
    rw [e2] at e
    rw [e]
    have hpl : p ≤ 9223372036854775807 := by omega
    have hp1 : 1 ≤ p := by omega
    clear e e2
    by_cases hm : p % 55 = 0
    · have hn : ¬ ((p % 55 : Nat) : Int) > 0 := by omega
      rw [show ((p - 1) / 55 : Nat) = p / 55 - 1 by omega]
      have hq : 1 ≤ p / 55 := by omega
      have e3 : (2 : Int) + ((p / 55 - 1 : Nat) : Int) = 1 + ((p / 55 : Nat) : Int) := by omega
      rw [e3]
      clear e3 hq
      repeat' first
        | simp -dsimp (disch := omega) only [↓rulesA, rulesB, rulesC, Int.reduceLT, nth, upd, put, storeN, AV.one, Nat.reduceBEq, Nat.reduceBNe, Int.reduceBEq, Int.reduceBNe, Int.reduceLE, Int.reduceEq, Int.reduceMod, Int.reduceNeg, boolBin, strBin, intBin, unA, fillA, ne_eq, reduceCtorEq, Nat.reduceAdd, Nat.reduceSub, Nat.reduceLeDiff, Nat.reduceLT, Nat.reduceEqDiff, Int.reduceToNat, eq_self, rulesT, rulesD, q, q2, *]
        | (refine allK_intro fun n hn => ?_; try simp only [fresh_set] at hn)
        | (refine ifK_intro (fun h => ?_) (fun h => ?_) <;> (try simp only [rulesE] at h) <;> try (exfalso; (try simp only [rulesF] at h); omega))
        | (refine keeps_sub (Mem.sub_set ?_) ?_; focus (simp [Mem.set_at, nomem, *]; done))
      exact .val
    · have hn : ((p % 55 : Nat) : Int) > 0 := by omega
      rw [show ((p - 1) / 55 : Nat) = p / 55 by omega]
      have e3 : (2 : Int) + ((p / 55 : Nat) : Int) = 1 + (((p / 55 : Nat) : Int) + 1) := by omega
      rw [e3]
      clear e3
      repeat' first
        | simp -dsimp (disch := omega) only [↓rulesA, rulesB, rulesC, Int.reduceLT, nth, upd, put, storeN, AV.one, Nat.reduceBEq, Nat.reduceBNe, Int.reduceBEq, Int.reduceBNe, Int.reduceLE, Int.reduceEq, Int.reduceMod, Int.reduceNeg, boolBin, strBin, intBin, unA, fillA, ne_eq, reduceCtorEq, Nat.reduceAdd, Nat.reduceSub, Nat.reduceLeDiff, Nat.reduceLT, Nat.reduceEqDiff, Int.reduceToNat, eq_self, rulesT, rulesD, q, q2, *]
        | (refine allK_intro fun n hn => ?_; try simp only [fresh_set] at hn)
        | (refine ifK_intro (fun h => ?_) (fun h => ?_) <;> (try simp only [rulesE] at h) <;> try (exfalso; (try simp only [rulesF] at h); omega))
        | (refine keeps_sub (Mem.sub_set ?_) ?_; focus (simp [Mem.set_at, nomem, *]; done))
      exact .val
theorem stand_bound (e : Nat) (d : Dev) : ∀ (f a l : Nat), a ≤ e → a ≤ atTo (stand e d f a l) a (stand e d f a l).length ∧ atTo (stand e d f a l) a (stand e d f a l).length ≤ e
  | 0, a, l, h => ⟨Nat.le_refl _, h⟩
  | f + 1, a, l, h => by
    unfold stand
    split
    · rename_i hc
      obtain ⟨h1, h2, _⟩ := readJ_on hc.2.1
      have ih := stand_bound e d f (readJ e d a).2.2.1 ((readJ e d a).2.1 + 1) h2
      have e1 : ∀ (p : List UInt8 × Nat) (L : List (List UInt8 × Nat)), atTo (p :: L) a (p :: L).length = atTo L p.2 L.length := by
        intro p L
        cases L with
        | nil => rfl
        | cons q L => rfl
      rw [e1]
      dsimp only
      omega
    · exact ⟨Nat.le_refl _, h⟩
theorem openR_j {d : Dev} {fr cnt first : Nat} : (openR d fr cnt first).j = openJ d fr cnt first := by
  have := stand_bound (fr + cnt) d (fr + cnt) fr first (Nat.le_add_right _ _)
  unfold openR openJ RJ.j
  simp only [Jour.mk.injEq, true_and, and_true]
  omega
theorem openR_a {d : Dev} {fr cnt first : Nat} : (openR d fr cnt first).a ≤ cnt := by
  have := stand_bound (fr + cnt) d (fr + cnt) fr first (Nat.le_add_right _ _)
  unfold openR
  dsimp only
  omega
structure St (d1 d2 : Dev) (j : Jour) (r : RJ) (ND NE NJ NR : Nat) (m1 m2 m : Mem) : Prop where
  a1 : d1.At ND m1
  a2 : d2.RAt NE m2
  ap : Apart m1 m2
  s1 : m1.sub m
  s2 : m2.sub m
  cJ : m NJ = some (.cells false 36 (j.own ND))
  cR : m NR = some (.cells false 82 (r.own NE))
  f1 : m1 NJ = none
  f2 : m2 NJ = none
  g1 : m1 NR = none
  g2 : m2 NR = none
  ne : NJ ≠ NR
section
variable {d1 d2 : Dev} {j : Jour} {r : RJ} {ND NE NJ NR : Nat} {m1 m2 m : Mem}
theorem St.up {M : Mem} (h : St d1 d2 j r ND NE NJ NR m1 m2 m) (hs : m.sub M) : St d1 d2 j r ND NE NJ NR m1 m2 M :=
  ⟨h.a1, h.a2, h.ap, h.s1.trans hs, h.s2.trans hs, hs _ _ h.cJ, hs _ _ h.cR, h.f1, h.f2, h.g1, h.g2, h.ne⟩
theorem St.dev1 {d1' : Dev} {m1' M' : Mem} (h : St d1 d2 j r ND NE NJ NR m1 m2 m) (hat : d1'.At ND m1') (hs : m1'.sub M') (hl : Go.Abs.Left m1 m m1' M') : St d1' d2 j r ND NE NJ NR m1' m2 M' := by
  obtain ⟨k1, k2⟩ := hl.keep h.s2 h.ap
  obtain ⟨a, b⟩ := hl _ _ h.f1 h.cJ
  obtain ⟨c, e⟩ := hl _ _ h.g1 h.cR
  exact ⟨hat, h.a2, k2, hs, k1, b, e, a, h.f2, c, h.g2, h.ne⟩
theorem St.dev2 {d2' : Dev} {m2' M' : Mem} (h : St d1 d2 j r ND NE NJ NR m1 m2 m) (hat : d2'.RAt NE m2') (hs : m2'.sub M') (hl : Go.Abs.Left m2 m m2' M') : St d1 d2' j r ND NE NJ NR m1 m2' M' := by
  obtain ⟨k1, k2⟩ := hl.keep h.s1 h.ap.symm
  obtain ⟨a, b⟩ := hl _ _ h.f2 h.cJ
  obtain ⟨c, e⟩ := hl _ _ h.g2 h.cR
  exact ⟨h.a1, hat, k2.symm, k1, hs, b, e, h.f1, a, h.g1, c, h.ne⟩
theorem St.jat (h : St d1 d2 j r ND NE NJ NR m1 m2 m) : JAt j d1 NJ ND (m1.set NJ (.cells false 36 (j.own ND))) ∧ (m1.set NJ (.cells false 36 (j.own ND))).sub m := ⟨⟨m1, h.a1, h.f1, rfl⟩, Mem.set_sub h.s1 h.cJ⟩
theorem St.rat (h : St d1 d2 j r ND NE NJ NR m1 m2 m) : RJAt r d2 NR NE (m2.set NR (.cells false 82 (r.own NE))) ∧ (m2.set NR (.cells false 82 (r.own NE))).sub m := ⟨⟨m2, h.a2, h.g2, rfl⟩, Mem.set_sub h.s2 h.cR⟩
theorem St.jour {d1' : Dev} {j' : Jour} {mJ' M' : Mem} (h : St d1 d2 j r ND NE NJ NR m1 m2 m) (hat : JAt j' d1' NJ ND mJ') (hs : mJ'.sub M') (hl : Go.Abs.Left (m1.set NJ (.cells false 36 (j.own ND))) m mJ' M') : ∃ m1', St d1' d2 j' r ND NE NJ NR m1' m2 M' := by
  obtain ⟨md, g1, g2, rfl⟩ := hat
  obtain ⟨k1, k2⟩ := hl.keep h.s2 (h.ap.set h.f2)
  have hR : (m1.set NJ (.cells false 36 (j.own ND))) NR = none := by rw [Mem.set_ne _ _ (Ne.symm h.ne)]; exact h.g1
  obtain ⟨c, e⟩ := hl _ _ hR h.cR
  have c' : md NR = none := by rwa [Mem.set_ne _ _ (Ne.symm h.ne)] at c
  have hsd : md.sub (md.set NJ (.cells false 36 (j'.own ND))) := Mem.sub_set g2
  exact ⟨md, g1, h.a2, (k2.symm.sub hsd).symm, hsd.trans hs, k1, hs _ _ (Mem.set_same _ _ _), e, g2, h.f2, c', h.g2, h.ne⟩
theorem St.rjour {d2' : Dev} {r' : RJ} {mR' M' : Mem} (h : St d1 d2 j r ND NE NJ NR m1 m2 m) (hat : RJAt r' d2' NR NE mR') (hs : mR'.sub M') (hl : Go.Abs.Left (m2.set NR (.cells false 82 (r.own NE))) m mR' M') : ∃ m2', St d1 d2' j r' ND NE NJ NR m1 m2' M' := by
  obtain ⟨md, g1, g2, rfl⟩ := hat
  obtain ⟨k1, k2⟩ := hl.keep h.s1 (h.ap.symm.set h.g1)
  have hJ : (m2.set NR (.cells false 82 (r.own NE))) NJ = none := by rw [Mem.set_ne _ _ h.ne]; exact h.f2
  obtain ⟨c, e⟩ := hl _ _ hJ h.cJ
  have c' : md NJ = none := by rwa [Mem.set_ne _ _ h.ne] at c
  have hsd : md.sub (md.set NR (.cells false 82 (r'.own NE))) := Mem.sub_set g2
  exact ⟨md, h.a1, g1, k2.symm.sub hsd, k1, hsd.trans hs, e, hs _ _ (Mem.set_same _ _ _), h.f1, c', h.g1, g2, h.ne⟩
end
end Go.Proofs.Ytlkeailgccbmbaa

set_option maxRecDepth 100000
set_option maxHeartbeats 1000000
set_option linter.unusedSimpArgs false
set_option linter.unusedVariables false
namespace Go.Proofs.Ytlkeailgccbmbaa
open Go.Abs
attribute [local irreducible] C X CC Y CV CW binK litK AppK PureC PureCV againK loopV rangeV allK ifK got onB condK V stepsK planK opK firstK seeE keepsK
structure Act where
  kind : Int
  recd : List UInt8
  n : Int
  pick : Int
  first : Int
instance : DecidableEq Act := fun d e => decidable_of_iff (d.kind = e.kind ∧ d.recd = e.recd ∧ d.n = e.n ∧ d.pick = e.pick ∧ d.first = e.first) (by cases d; cases e; simp)
instance : Inhabited Act := ⟨⟨0, [], 0, 0, 0⟩⟩
def Act.cells (d : Act) : List AV := [.val (.int .i64 d.kind), .val (.string (.mk (List.toArray d.recd))), .val (.int .i64 d.n), .val (.int .u64 d.pick), .val (.int .i64 d.first)]
theorem Act.g0 (d : Act) : d.cells[0]? = some (.val (.int .i64 d.kind)) := rfl
theorem Act.s0 (d : Act) (v : Int) : setRange d.cells 0 [.val (.int .i64 v)] = ({ d with kind := v } : Act).cells := rfl
theorem Act.g1 (d : Act) : d.cells[1]? = some (.val (.string (.mk (List.toArray d.recd)))) := rfl
theorem Act.s1 (d : Act) (v : List UInt8) : setRange d.cells 1 [.val (.string (.mk (List.toArray v)))] = ({ d with recd := v } : Act).cells := rfl
theorem Act.g2 (d : Act) : d.cells[2]? = some (.val (.int .i64 d.n)) := rfl
theorem Act.s2 (d : Act) (v : Int) : setRange d.cells 2 [.val (.int .i64 v)] = ({ d with n := v } : Act).cells := rfl
theorem Act.g3 (d : Act) : d.cells[3]? = some (.val (.int .u64 d.pick)) := rfl
theorem Act.s3 (d : Act) (v : Int) : setRange d.cells 3 [.val (.int .u64 v)] = ({ d with pick := v } : Act).cells := rfl
theorem Act.g4 (d : Act) : d.cells[4]? = some (.val (.int .i64 d.first)) := rfl
theorem Act.s4 (d : Act) (v : Int) : setRange d.cells 4 [.val (.int .i64 v)] = ({ d with first := v } : Act).cells := rfl
theorem Act.len (d : Act) : d.cells.length = 5 := rfl
theorem Act.take (d : Act) : d.cells.take 5 = d.cells := rfl
theorem Act.rlen (l : List Act) : (l.map Act.cells).flatten.length = l.length * 5 := row_len Act.cells (fun _ => rfl) l
theorem Act.rat (l : List Act) (k j : Nat) (hk : k < l.length) (hj : j < 5) : (l.map Act.cells).flatten[k * 5 + j]? = (l.getD k default).cells[j]? := row_at Act.cells (fun _ => rfl) l hk hj
theorem Act.rat0 (l : List Act) (k : Nat) (hk : k < l.length) : (l.map Act.cells).flatten[k * 5]? = (l.getD k default).cells[0]? := row_at Act.cells (s := 5) (fun _ => rfl) l (j := 0) hk (Nat.zero_lt_succ _)
theorem Act.rpart (l : List Act) (k : Nat) (hk : k < l.length) : ((l.map Act.cells).flatten.drop (k * 5)).take 5 = (l.getD k default).cells := row_part Act.cells (fun _ => rfl) l hk
theorem Act.rin (l : List Act) (k j : Nat) (hk : k < l.length) (hj : j ≤ 5) : (k * 5 + j ≤ (l.map Act.cells).flatten.length) = True := eq_true (row_in Act.cells (fun _ => rfl) l hk hj)
theorem Act.rset (l : List Act) (k : Nat) (hk : k < l.length) (d : Act) : setRange (l.map Act.cells).flatten (k * 5) d.cells = ((l.set k d).map Act.cells).flatten := row_set Act.cells (fun _ => rfl) l hk d
theorem Act.drop (d : Act) : d.cells.drop 5 = [] := rfl
theorem Act.all (d : Act) : d.cells.all AV.one = true := rfl
def Act.ok (d : Act) : Prop := (-9223372036854775808 ≤ d.kind ∧ d.kind ≤ 9223372036854775807) ∧ d.recd.length ≤ 140737488351232 ∧ (-9223372036854775808 ≤ d.n ∧ d.n ≤ 9223372036854775807) ∧ (0 ≤ d.pick ∧ d.pick ≤ 18446744073709551615) ∧ (-9223372036854775808 ≤ d.first ∧ d.first ≤ 9223372036854775807)
theorem Act.of_shaped {cs : List AV} (h : Shaped Try.prog 53 cs) (hc : cs.length = 5) : ∃ d : Act, cs = d.cells ∧ d.ok := by
  have h := Shaped.leaves laidOut 8 53 [3, 9, 3, 23, 2] cs (of_decide_eq_true (by kernel_rfl)) (by kernel_rfl) h (hc.trans (cells_size ti_53).symm)
  match cs, h with
  | [c0, c1, c2, c3, c4], ⟨h0, h1, h2, h3, h4, _⟩ =>
    obtain ⟨x0, rfl, w0⟩ := h0.i64 ti_3 rfl
    obtain ⟨x1, rfl, w1⟩ := h1.txt ti_9 rfl
    obtain ⟨x2, rfl, w2⟩ := h2.i64 ti_3 rfl
    obtain ⟨x3, rfl, w3⟩ := h3.u64 ti_23 rfl
    obtain ⟨x4, rfl, w4⟩ := h4.i64 ti_2 rfl
    exact ⟨⟨x0, x1, x2, x3, x4⟩, rfl, w0, w1, w2, w3, w4⟩
theorem ix_45 (l : List Act) (x : Bool) (kk : IntKind) (k : Int) (h0 : 0 ≤ k) (h1 : k < l.length) : indexAddrA Try.prog 45 (.vs (l.map Act.cells) x) (.val (.int kk k)) = some (.vp (Act.cells (l.getD k.toNat default)) 0) := index_vs Act.cells ti_45 rfl ti_53 (fun _ => rfl) l x kk k h0 h1
theorem acts_of {c : AV} (h : ShapedV Try.prog 45 c) : ∃ l : List Act, c = .vs (l.map Act.cells) false ∧ l.length * 48 ≤ 140737488351232 ∧ l.length ≤ 9223372036854775807 ∧ ∀ d ∈ l, d.ok :=
  Shaped.rows Act.cells Act.ok ti_45 rfl ti_53 rfl (fun _ h => Act.of_shaped h) (h.one ti_45 rfl)
theorem opened {d1 d2 : Dev} {j : Jour} {r : RJ} {ND NE NJ NR q q2 : Nat} {m1 m2 m3 m4 M M3 M4 : Mem} {b b2 : Blk} (a1 : d1.At ND m1) (a2 : d2.RAt NE m2) (ap : Apart m1 m2) (s2 : m2.sub M)
    (h1 : m1 NJ = none) (h2 : m1 q = none) (h3 : NJ ≠ q) (hm3 : m3 = (m1.set NJ (.cells false 36 (j.own ND))).set q b) (s3 : m3.sub M3) (l3 : Go.Abs.Left m1 M m3 M3)
    (k1 : m2 NR = none) (k2 : m2 q2 = none) (k3 : NR ≠ q2) (hm4 : m4 = (m2.set NR (.cells false 82 (r.own NE))).set q2 b2) (s4 : m4.sub M4) (l4 : Go.Abs.Left m2 M3 m4 M4) :
    St d1 d2 j r ND NE NJ NR m1 m2 M4 ∧ M4 q = some b ∧ M4 q2 = some b2 := by
  obtain ⟨x1, x2⟩ := l3.keep s2 ap
  have hs13 : m1.sub m3 := by
    rw [hm3]
    exact (Mem.sub_set h1).trans (Mem.sub_set (by rw [Mem.set_ne _ _ (Ne.symm h3)]; exact h2))
  have hs24 : m2.sub m4 := by
    rw [hm4]
    exact (Mem.sub_set k1).trans (Mem.sub_set (by rw [Mem.set_ne _ _ (Ne.symm k3)]; exact k2))
  have e3q : m3 q = some b := by rw [hm3]; exact Mem.set_same _ _ _
  have e3J : m3 NJ = some (.cells false 36 (j.own ND)) := by rw [hm3, Mem.set_ne _ _ h3]; exact Mem.set_same _ _ _
  have e4q : m4 q2 = some b2 := by rw [hm4]; exact Mem.set_same _ _ _
  have e4R : m4 NR = some (.cells false 82 (r.own NE)) := by rw [hm4, Mem.set_ne _ _ k3]; exact Mem.set_same _ _ _
  have y1 : m2 NJ = none := x2.live e3J
  have y2 : m2 q = none := x2.live e3q
  obtain ⟨z1, z2⟩ := l4 _ _ y1 (s3 _ _ e3J)
  obtain ⟨z3, z4⟩ := l4 _ _ y2 (s3 _ _ e3q)
  obtain ⟨w1, w2⟩ := l4.keep (hs13.trans s3) ap.symm
  have v1 : m1 NR = none := w2.live e4R
  exact ⟨⟨a1, a2, ap, w1, hs24.trans s4, z2, s4 _ _ e4R, h1, y1, v1, k1, fun e => (by rw [e, e4R] at z1; cases z1)⟩, z4, s4 _ _ e4q⟩
theorem tx_seen (T : List ByteArray) {m : Mem} {q : Nat} (h : m q = some (.cells true 9 (T.map txC).flatten)) : Seen m (.sl q 0 T.length T.length) (.vs (T.map txC) false) := Seen.row txC (s := 1) (fun _ => rfl) T h
theorem appD_laid (j : Jour) (d : Dev) (rec : List UInt8) : (appD j d rec).laid.length = d.laid.length := by
  unfold appD putD
  split
  · rfl
  · split
    · rfl
    · rw [flush_laid, wrTo_laid]
theorem appD_ok {d : Dev} (h : d.Ok) (j : Jour) (rec : List UInt8) : (appD j d rec).Ok := by
  unfold appD putD
  split
  · exact h
  · split
    · exact h
    · exact Ok.flush (wrTo_ok h _ _ _ _)
theorem St_few {d : Dev} {k : Nat} (h : Kept (Few d k)) : Few d k := h
theorem appR_keeps (r : RJ) (d : Dev) (rec : List UInt8) {cnt : Nat} (ha : r.a ≤ cnt) (hc : r.c = cnt) (hn : r.n ≤ 4611686018427387905) : (appR r d rec).f = r.f ∧ (appR r d rec).c = r.c ∧ (appR r d rec).a ≤ cnt ∧ (appR r d rec).n ≤ 4611686018427387905 := by
  unfold appR
  split
  · exact ⟨rfl, rfl, ha, hn⟩
  · split
    · exact ⟨rfl, rfl, ha, hn⟩
    · rename_i h
      unfold fullJ RJ.j at h
      dsimp only at h
      split
      · exact ⟨rfl, rfl, ha, hn⟩
      · exact ⟨rfl, rfl, by dsimp only; omega, by dsimp only; omega⟩
theorem F7 (im : List UInt8) (him : im.length ≤ 140737488355328) (fr0 cnt0 first0 : Int) (l : List Act) (hl : l.length * 48 ≤ 140737488351232) (ho : ∀ a ∈ l, a.ok) :
    F Try.prog 7 [.vs (im.map byteC) false, .val (.int .i64 fr0), .val (.int .i64 cnt0), .val (.int .i64 first0), .vs (l.map Act.cells) false] (.val (.bool true)) := by
  have f13n := F13 [] [] false false (by decide)
  refine F7_of ?_
  unfold k7
  by_cases hk : im.length % 64 = 0 ∧ 64 ≤ im.length ∧ im.length ≤ 262144
  · obtain ⟨nn, hnn⟩ : ∃ n, im.length = n * 64 := ⟨im.length / 64, by omega⟩
    have hn1 : 1 ≤ nn := by omega
    have hn2 : nn ≤ 4096 := by omega
    repeat' first
      | simp -dsimp (disch := omega) only [↓rulesA, rulesB, rulesC, Int.reduceLT, nth, upd, put, storeN, AV.one, Nat.reduceBEq, Nat.reduceBNe, Int.reduceBEq, Int.reduceBNe, Int.reduceLE, Int.reduceEq, Int.reduceMod, Int.reduceNeg, boolBin, strBin, intBin, unA, fillA, ne_eq, reduceCtorEq, Nat.reduceAdd, Nat.reduceSub, Nat.reduceLeDiff, Nat.reduceLT, Nat.reduceEqDiff, Int.reduceToNat, eq_self, rulesT, rulesD, *]
      | (refine allK_intro fun n hn => ?_; try simp only [fresh_set] at hn)
      | (refine ifK_intro (fun h => ?_) (fun h => ?_) <;> (try simp only [rulesE] at h) <;> try (exfalso; (try simp only [rulesF] at h); omega))
      | (refine keeps_sub (Mem.sub_set ?_) ?_; focus (simp [Mem.set_at, nomem, *]; done))
    refine call_at (C18 im false nn hn1 hn2 hnn) (nomem_sub _) fun r m1 M1 ⟨ND, hr, a1⟩ s1 l1 => ?_
    subst hr
    repeat' first
      | simp -dsimp (disch := omega) only [↓rulesA, rulesB, rulesC, Int.reduceLT, nth, upd, put, storeN, AV.one, Nat.reduceBEq, Nat.reduceBNe, Int.reduceBEq, Int.reduceBNe, Int.reduceLE, Int.reduceEq, Int.reduceMod, Int.reduceNeg, boolBin, strBin, intBin, unA, fillA, ne_eq, reduceCtorEq, Nat.reduceAdd, Nat.reduceSub, Nat.reduceLeDiff, Nat.reduceLT, Nat.reduceEqDiff, Int.reduceToNat, eq_self, rulesT, rulesD, *]
      | (refine allK_intro fun n hn => ?_; try simp only [fresh_set] at hn)
      | (refine ifK_intro (fun h => ?_) (fun h => ?_) <;> (try simp only [rulesE] at h) <;> try (exfalso; (try simp only [rulesF] at h); omega))
      | (refine keeps_sub (Mem.sub_set ?_) ?_; focus (simp [Mem.set_at, nomem, *]; done))
    refine call_at (C19 im false nn hn1 hn2 hnn) (nomem_sub _) fun r m2 M2 ⟨NE, hr, a2⟩ s2 l2 => ?_
    subst hr
    obtain ⟨s1', hap⟩ := l2.keep s1 (Apart.symm (Apart.zero _))
    have hok0 := load_ok (l := im) hn1 hn2
    have hlen0 : (loadD im nn).laid.length = nn := laidTo_len im nn nn
    have hlst0 : (loadD im nn).list = [] := rfl
    have hdead0 : (loadD im nn).dead = false := rfl
    have hw0 : (loadD im nn).w = 0 := rfl
    have hf0 : (loadD im nn).f = 0 := rfl
    generalize loadD im nn = d0 at *
    clear l1 l2 s1
    replace hlst0 : Kept _ := hlst0
    replace hap : Kept _ := hap
    repeat' first
      | simp -dsimp (disch := omega) only [↓rulesA, rulesB, rulesC, Int.reduceLT, nth, upd, put, storeN, AV.one, Nat.reduceBEq, Nat.reduceBNe, Int.reduceBEq, Int.reduceBNe, Int.reduceLE, Int.reduceEq, Int.reduceMod, Int.reduceNeg, boolBin, strBin, intBin, unA, fillA, ne_eq, reduceCtorEq, Nat.reduceAdd, Nat.reduceSub, Nat.reduceLeDiff, Nat.reduceLT, Nat.reduceEqDiff, Int.reduceToNat, eq_self, rulesT, rulesD, *]
      | (refine allK_intro fun n hn => ?_; try simp only [fresh_set] at hn)
      | (refine ifK_intro (fun h => ?_) (fun h => ?_) <;> (try simp only [rulesE] at h) <;> try (exfalso; (try simp only [rulesF] at h); omega))
      | (refine keeps_sub (Mem.sub_set ?_) ?_; focus (simp [Mem.set_at, nomem, *]; done))
    by_cases hop : OpenOk d0 fr0 cnt0 first0
    · obtain ⟨o1, o2, o3, o4, o5, o6⟩ := hop
      obtain ⟨fr, rfl⟩ : ∃ q : Nat, fr0 = q := ⟨fr0.toNat, by omega⟩
      obtain ⟨cnt, rfl⟩ : ∃ q : Nat, cnt0 = q := ⟨cnt0.toNat, by omega⟩
      obtain ⟨first, rfl⟩ : ∃ q : Nat, first0 = q := ⟨first0.toNat, by omega⟩
      have hl0 : d0.list.length ≤ 4096 := by rw [(hlst0 : _ = _)]; decide
      refine call_at (C9_ok d0 hok0.some hok0.most hl0 a1 fr cnt first (by omega) (by omega) (by omega) (by omega) hdead0) s1' fun r m3 M3 ⟨NJ, q, b1, b2, b3, hr, hm3⟩ s3 l3 => ?_
      subst hr
      obtain ⟨s2', hap3⟩ := l3.keep s2 (Apart.symm hap)
      repeat' first
        | simp -dsimp (disch := omega) only [↓rulesA, rulesB, rulesC, Int.reduceLT, nth, upd, put, storeN, AV.one, Nat.reduceBEq, Nat.reduceBNe, Int.reduceBEq, Int.reduceBNe, Int.reduceLE, Int.reduceEq, Int.reduceMod, Int.reduceNeg, boolBin, strBin, intBin, unA, fillA, ne_eq, reduceCtorEq, Nat.reduceAdd, Nat.reduceSub, Nat.reduceLeDiff, Nat.reduceLT, Nat.reduceEqDiff, Int.reduceToNat, eq_self, rulesT, rulesD, *]
        | (refine allK_intro fun n hn => ?_; try simp only [fresh_set] at hn)
        | (refine ifK_intro (fun h => ?_) (fun h => ?_) <;> (try simp only [rulesE] at h) <;> try (exfalso; (try simp only [rulesF] at h); omega))
        | (refine keeps_sub (Mem.sub_set ?_) ?_; focus (simp [Mem.set_at, nomem, *]; done))
      refine call_at (C20_ok d0 hok0.some hok0.most hl0 a2 fr cnt first (by omega) (by omega) (by omega) (by omega) hdead0) s2' fun r m4 M4 ⟨NR, q2, b4, b5, b6, hr, hm4⟩ s4 l4 => ?_
      subst hr
      obtain ⟨hst, e1, e2⟩ := opened (d1 := d0) (d2 := d0) a1 a2 (Apart.symm hap) s2 b1 b2 b3 hm3 s3 l3 b4 b5 b6 hm4 s4 l4
      have hT := stand_len (fr + cnt) d0 (fr + cnt) fr first
      have hTl : (openT d0 fr cnt first).length ≤ 140737488355328 := by unfold openT txts; rw [List.length_map]; omega
      have hra := openR_a (d := d0) (fr := fr) (cnt := cnt) (first := first)
      have hrn : (openR d0 fr cnt first).n ≤ 4611686018427387905 := nextTo_le d0 (by omega) cnt
      have hrf : (openR d0 fr cnt first).f = fr := rfl
      have hrc : (openR d0 fr cnt first).c = cnt := rfl
      rw [← openR_j] at hst
      generalize openR d0 fr cnt first = r0 at *
      generalize openT d0 fr cnt first = T at *
      have f13 := F13 T T false false hTl
      clear b1 b2 b3 b4 b5 b6 hm3 hm4 s3 s4 l3 l4 s2' hap3 hap s1' s2 a1 a2 hT hTl
      replace hst : Kept _ := hst
      repeat' first
        | simp -dsimp (disch := omega) only [↓rulesA, rulesB, rulesC, Int.reduceLT, nth, upd, put, storeN, AV.one, Nat.reduceBEq, Nat.reduceBNe, Int.reduceBEq, Int.reduceBNe, Int.reduceLE, Int.reduceEq, Int.reduceMod, Int.reduceNeg, boolBin, strBin, intBin, unA, fillA, ne_eq, reduceCtorEq, Nat.reduceAdd, Nat.reduceSub, Nat.reduceLeDiff, Nat.reduceLT, Nat.reduceEqDiff, Int.reduceToNat, eq_self, rulesT, rulesD, decide_true, *]
        | (refine allK_intro fun n hn => ?_; try simp only [fresh_set] at hn)
        | (refine ifK_intro (fun h => ?_) (fun h => ?_) <;> (try simp only [rulesE] at h) <;> try (exfalso; (try simp only [rulesF] at h); omega))
        | (refine keeps_sub (Mem.sub_set ?_) ?_; focus (simp [Mem.set_at, nomem, *]; done))
        | (refine call_F (f13) (.two (tx_seen _ e1) (tx_seen _ e2)) ?_)
        | (refine pure_F (f13) (.two (tx_seen _ e1) (tx_seen _ e2)) ?_)
      refine loop_intro (fun jj env m => ∃ (i : Nat) (d : Dev) (r : RJ) (m1 m2 : Mem) (NJ NR : Nat), i ≤ l.length ∧ jj = l.length - i ∧ d.Ok ∧ d.laid.length = nn ∧ Few d (i * 4096) ∧ r.f = fr ∧ r.c = cnt ∧ r.a ≤ cnt ∧ r.n ≤ 4611686018427387905 ∧ Kept (St d d r.j r ND NE NJ NR m1 m2 m) ∧ env.length = 186 ∧ nth env 1 = .val (.int .i64 fr) ∧ nth env 2 = .val (.int .i64 cnt) ∧ nth env 11 = .ptr ND 0 ∧ nth env 12 = .ptr NE 0 ∧ nth env 13 = .ptr NJ 0 ∧ nth env 16 = .ptr NR 0 ∧ nth env 75 = .vs (l.map Act.cells) false ∧ nth env 76 = .val (.int .i64 l.length) ∧ nth env 77 = .val (.int .i64 i)) l.length _ (Mem.sub.refl _) ⟨0, d0, r0, m1, m2, NJ, NR, by omega, rfl, hok0, hlen0, ⟨by omega, by omega⟩, hrf, hrc, hra, hrn, hst, rfl, rfl, rfl, rfl, rfl, rfl, rfl, rfl, rfl, rfl⟩ ?_
      have hfc : fr + cnt ≤ nn := by omega
      have hc1 : 1 ≤ cnt := by omega
      clear hst hra hrn hrf hrc e1 e2 f13 hok0 hlen0 hdead0 hw0 hf0 hlst0 hl0 o1 o2 o3 o4 o5 o6
      rintro jj env m ⟨i, d, r, m1, m2, NJ, NR, hi, rfl, hok, hdn, hfew, hrf, hrc, hra, hrn, hst, hlen, e1, e2, e11, e12, e13, e16, e75, e76, e77⟩
      by_cases hil : i < l.length
      · have hix := ix_45 l false .i64 i (by omega) (by omega)
        rw [Int.toNat_natCast] at hix
        have ha : (l.getD i default).ok := by rw [List.getD_eq_getElem?_getD, List.getElem?_eq_getElem hil]; exact ho _ (List.getElem_mem hil)
        generalize l.getD i default = a at hix ha
        have hfw := hfew.w
        have hff := hfew.f
        have hl' := hok.list
        have ilt : (i : Int) < l.length := by omega
        replace ha : Kept a.ok := ha
        replace hfew : Kept _ := hfew
        repeat' first
          | simp -dsimp (disch := omega) only [↓rulesA, rulesB, rulesC, Int.reduceLT, nth, upd, put, storeN, AV.one, Nat.reduceBEq, Nat.reduceBNe, Int.reduceBEq, Int.reduceBNe, Int.reduceLE, Int.reduceEq, Int.reduceMod, Int.reduceNeg, boolBin, strBin, intBin, unA, fillA, ne_eq, reduceCtorEq, Nat.reduceAdd, Nat.reduceSub, Nat.reduceLeDiff, Nat.reduceLT, Nat.reduceEqDiff, Int.reduceToNat, eq_self, rulesT, rulesD, Act.g0, Act.g1, Act.g2, Act.g3, Act.g4, Act.len, Act.take, Act.all, *]
          | (refine allK_intro fun n hn => ?_; try simp only [fresh_set] at hn)
          | (refine ifK_intro (fun h => ?_) (fun h => ?_) <;> (try simp only [rulesE] at h) <;> try (exfalso; (try simp only [rulesF] at h); omega))
          | (refine keeps_sub (Mem.sub_set ?_) ?_; focus (simp [Mem.set_at, nomem, *]; done))
        all_goals
          have hS0 := St.up hst (Mem.sub_set hn (b := .cells false 53 a.cells))
          have h1n : m1 n = none := Mem.sub_none (St.s1 hst) hn
          have h2n : m2 n = none := Mem.sub_none (St.s2 hst) hn
          have hbn : (m.set n (.cells false 53 a.cells)) n = some (.cells false 53 a.cells) := Mem.set_same _ _ _
          have ha' : a.ok := ha
          have hje : r.j.end_ ≤ d.laid.length := by show r.f + r.c ≤ _; omega
          have hja : r.j.at_ ≤ 4096 := by show r.f + r.a ≤ _; omega
          have hjn0 : r.j.next ≤ 4611686018427387905 := hrn
        · have hrec : a.recd.length ≤ 140737488355328 := by have := ha'.2.1; omega
          have c10 := C10 hS0.jat.1 hok hje hja hjn0 (by omega) (by omega) a.recd hrec
          have hJn : (m1.set NJ (.cells false 36 (r.j.own ND))) n = none := Mem.sub_none (St.jat hst).2 hn
          refine call_at c10 hS0.jat.2 fun w mJ' M1 ⟨hr, hJ'⟩ sJ lJ => ?_
          subst hr
          obtain ⟨m1', hS1⟩ := hS0.jour hJ' sJ lJ
          have hb1 := (lJ n _ hJn hbn).2
          replace hS1 : Kept _ := hS1
          replace hS0 : Kept _ := hS0
          clear c10 lJ sJ hJ' hbn
          repeat' first
            | simp -dsimp (disch := omega) only [↓rulesA, rulesB, rulesC, Int.reduceLT, nth, upd, put, storeN, AV.one, Nat.reduceBEq, Nat.reduceBNe, Int.reduceBEq, Int.reduceBNe, Int.reduceLE, Int.reduceEq, Int.reduceMod, Int.reduceNeg, boolBin, strBin, intBin, unA, fillA, ne_eq, reduceCtorEq, Nat.reduceAdd, Nat.reduceSub, Nat.reduceLeDiff, Nat.reduceLT, Nat.reduceEqDiff, Int.reduceToNat, eq_self, rulesT, rulesD, Act.g0, Act.g1, Act.g2, Act.g3, Act.g4, Act.len, Act.take, Act.all, *]
            | (refine allK_intro fun n hn => ?_; try simp only [fresh_set] at hn)
            | (refine ifK_intro (fun h => ?_) (fun h => ?_) <;> (try simp only [rulesE] at h) <;> try (exfalso; (try simp only [rulesF] at h); omega))
            | (refine keeps_sub (Mem.sub_set ?_) ?_; focus (simp [Mem.set_at, nomem, *]; done))
            | (refine keeps_stab ?_ ?_; focus ((repeat' first | exact stabK_nil _ _ | refine stabK_cons ?_ ?_ | (simp (disch := omega) only [quietA, Option.isSome_some, ↓rulesA, rulesB, rulesC, Int.reduceLT, nth, upd, put, storeN, AV.one, Nat.reduceBEq, Nat.reduceBNe, Int.reduceBEq, Int.reduceBNe, Int.reduceLE, Int.reduceEq, Int.reduceMod, Int.reduceNeg, boolBin, strBin, intBin, unA, fillA, ne_eq, reduceCtorEq, Nat.reduceAdd, Nat.reduceSub, Nat.reduceLeDiff, Nat.reduceLT, Nat.reduceEqDiff, Int.reduceToNat, eq_self, rulesT, rulesD, Act.g0, Act.g1, Act.g2, Act.g3, Act.g4, Act.len, Act.take, Act.all, *]; done)); done))
          have hRn0 : (m2.set NR (.cells false 82 (r.own NE))) n = none := Mem.sub_none (St.rat hst).2 hn
          have c21 := C21 (St.rat hS1).1 hok hje (by omega) hrn (by omega) (by omega) a.recd hrec
          refine call_at c21 (St.rat hS1).2 fun w mR' M2 ⟨hr, hR'⟩ sR lR => ?_
          subst hr
          obtain ⟨m2', hS⟩ := St.rjour hS1 hR' sR lR
          have hb2 := (lR n _ hRn0 hb1).2
          clear c21 lR sR hR' hb1
          have hfl2 : (appD r.j d a.recd).laid.length = nn := by rw [appD_laid]; exact hdn
          have hok2 := appD_ok hok r.j a.recd
          have hfw2 := app_few (St_few hfew) r.j a.recd (by show r.f + r.c ≤ _; omega)
          have hrr := appR_keeps r d a.recd hra hrc hrn
          rw [← appR_j] at hS
          generalize appD r.j d a.recd = D at *
          generalize appE r.j d a.recd = E at *
          generalize appR r d a.recd = R at *
          have hD : (D).Ok := hok2
          have hDn : (D).laid.length = nn := hfl2
          have hDf : Few (D) ((i + 1) * 4096) := by rw [Nat.add_mul]; exact hfw2
          have hRf : (R).f = fr := hrr.1.trans hrf
          have hRcc : (R).c = cnt := hrr.2.1.trans hrc
          have hRa' : (R).a ≤ cnt := hrr.2.2.1
          have hRn : (R).n ≤ 4611686018427387905 := hrr.2.2.2
          have hRc : (R).c ≤ 4096 := by rw [hRcc]; omega
          have hRa : (R).a ≤ 8192 := by omega
          have hJe : (R).j.end_ ≤ 4096 := by show (R).f + (R).c ≤ 4096; rw [hRf, hRcc]; omega
          have hJa : (R).j.at_ ≤ 4096 := by show (R).f + (R).a ≤ 4096; rw [hRf]; omega
          obtain ⟨pk, hpk, -⟩ := hS.a2.seen hS.s2 0
          obtain ⟨pk2, hpk2, -⟩ := hS.a2.seen (Mem.sub.refl _) 0
          have hdv := hS.a1.seen hS.s1 0
          have hjs := jseen hS.a1 hS.s1 hS.cJ
          have hrs := rjseen hpk2 hS.s2 hS.cR
          have f25 := F25 D false false hD.some hD.most
          have f26 := F26 D pk false false hD.most
          have f12 := F12 R.j D false false
          have f27 := F27 R D pk2 false false
          have f15 := F15 R.j D false false hJe hJa
          have f28 := F28 R D pk2 false false hRc hRa
          have f29 := F29z a.n ha.2.2.1.2 ha.2.2.1.1
          have f30 := F30z a.n ha.2.2.1.2 ha.2.2.1.1
          have hjn : (R.j).next = R.n := rfl
          rw [hjn] at f12
          replace hS : Kept _ := hS
          clear hpk2
          repeat' first
            | simp -dsimp (disch := omega) only [↓rulesA, rulesB, rulesC, Int.reduceLT, nth, upd, put, storeN, AV.one, Nat.reduceBEq, Nat.reduceBNe, Int.reduceBEq, Int.reduceBNe, Int.reduceLE, Int.reduceEq, Int.reduceMod, Int.reduceNeg, boolBin, strBin, intBin, unA, fillA, ne_eq, reduceCtorEq, Nat.reduceAdd, Nat.reduceSub, Nat.reduceLeDiff, Nat.reduceLT, Nat.reduceEqDiff, Int.reduceToNat, eq_self, rulesT, rulesD, conv_img, bne_self_eq_false, Act.g0, Act.g1, Act.g2, Act.g3, Act.g4, Act.len, Act.take, Act.all, *]
            | (refine allK_intro fun n hn => ?_; try simp only [fresh_set] at hn)
            | (refine ifK_intro (fun h => ?_) (fun h => ?_) <;> (try simp only [rulesE] at h) <;> try (exfalso; (try simp only [rulesF] at h); omega))
            | (refine keeps_sub (Mem.sub_set ?_) ?_; focus (simp [Mem.set_at, nomem, *]; done))
            | (refine call_F (f25) (.one hdv) ?_)
            | (refine pure_F (f25) (.one hdv) ?_)
            | (refine call_F (f26) (.one hpk) ?_)
            | (refine pure_F (f26) (.one hpk) ?_)
            | (refine call_F (f12) (.one hjs) ?_)
            | (refine pure_F (f12) (.one hjs) ?_)
            | (refine call_F (f27) (.one hrs) ?_)
            | (refine pure_F (f27) (.one hrs) ?_)
            | (refine call_F (f15) (.one hjs) ?_)
            | (refine pure_F (f15) (.one hjs) ?_)
            | (refine call_F (f28) (.one hrs) ?_)
            | (refine pure_F (f28) (.one hrs) ?_)
            | (refine call_F (f29) (Seens.refl _ _) ?_)
            | (refine pure_F (f29) (Seens.refl _ _) ?_)
            | (refine call_F (f30) (Seens.refl _ _) ?_)
            | (refine pure_F (f30) (Seens.refl _ _) ?_)
          refine again_intro (l.length - (i + 1)) (by omega) _ (Mem.sub.refl _) ⟨i + 1, D, R, _, _, NJ, NR, by omega, rfl, hD, hDn, hDf, hRf, hRcc, hRa', hRn, hS, ?_, ?_, ?_, ?_, ?_, ?_, ?_, ?_, ?_, ?_⟩
          clear hdv hjs hrs hpk
          all_goals try (simp (disch := omega) only [nth_upd, pickB_true, pickB_false, inB_lt, upd_len, cast_succ, Int.cast_ofNat_Int, Nat.reduceBEq, beq_self_eq_true, reduceCtorEq, *]; done)
        · have hJn : (m1.set NJ (.cells false 36 (r.j.own ND))) n = none := Mem.sub_none (St.jat hst).2 hn
          refine call_at (C11 hS0.jat.1) hS0.jat.2 fun w mJ' M1 ⟨hr, hJ'⟩ sJ lJ => ?_
          subst hr
          obtain ⟨m1', hS1⟩ := hS0.jour hJ' sJ lJ
          have hb1 := (lJ n _ hJn hbn).2
          replace hS1 : Kept _ := hS1
          replace hS0 : Kept _ := hS0
          clear lJ sJ hJ' hbn
          repeat' first
            | simp -dsimp (disch := omega) only [↓rulesA, rulesB, rulesC, Int.reduceLT, nth, upd, put, storeN, AV.one, Nat.reduceBEq, Nat.reduceBNe, Int.reduceBEq, Int.reduceBNe, Int.reduceLE, Int.reduceEq, Int.reduceMod, Int.reduceNeg, boolBin, strBin, intBin, unA, fillA, ne_eq, reduceCtorEq, Nat.reduceAdd, Nat.reduceSub, Nat.reduceLeDiff, Nat.reduceLT, Nat.reduceEqDiff, Int.reduceToNat, eq_self, rulesT, rulesD, Act.g0, Act.g1, Act.g2, Act.g3, Act.g4, Act.len, Act.take, Act.all, *]
            | (refine allK_intro fun n hn => ?_; try simp only [fresh_set] at hn)
            | (refine ifK_intro (fun h => ?_) (fun h => ?_) <;> (try simp only [rulesE] at h) <;> try (exfalso; (try simp only [rulesF] at h); omega))
            | (refine keeps_sub (Mem.sub_set ?_) ?_; focus (simp [Mem.set_at, nomem, *]; done))
          have hRn0 : (m2.set NR (.cells false 82 (r.own NE))) n = none := Mem.sub_none (St.rat hst).2 hn
          refine call_at (C22 (St.rat hS1).1) (St.rat hS1).2 fun w mR' M2 ⟨hr, hR'⟩ sR lR => ?_
          subst hr
          obtain ⟨m2', hS⟩ := St.rjour hS1 hR' sR lR
          have hb2 := (lR n _ hRn0 hb1).2
          clear lR sR hR' hb1
          have hrf2 : ({ r with a := 0 } : RJ).f = fr := hrf
          have hrc2 : ({ r with a := 0 } : RJ).c = cnt := hrc
          have hra2 : ({ r with a := 0 } : RJ).a ≤ cnt := Nat.zero_le _
          have hrn2 : ({ r with a := 0 } : RJ).n ≤ 4611686018427387905 := hrn
          have hfw2 : Few d ((i + 1) * 4096) := ⟨by omega, by omega⟩
          rw [show ({ r.j with at_ := r.j.from_ } : Jour) = ({ r with a := 0 } : RJ).j from rfl] at hS
          generalize ({ r with a := 0 } : RJ) = R at *
          obtain ⟨D, hDe⟩ : ∃ D, D = d := ⟨d, rfl⟩
          rw [← hDe] at hS hfw2 hok hdn
          clear hDe
          have hD : (D).Ok := hok
          have hDn : (D).laid.length = nn := hdn
          have hDf : Few (D) ((i + 1) * 4096) := hfw2
          have hRf : (R).f = fr := hrf2
          have hRcc : (R).c = cnt := hrc2
          have hRa' : (R).a ≤ cnt := hra2
          have hRn : (R).n ≤ 4611686018427387905 := hrn2
          have hRc : (R).c ≤ 4096 := by rw [hRcc]; omega
          have hRa : (R).a ≤ 8192 := by omega
          have hJe : (R).j.end_ ≤ 4096 := by show (R).f + (R).c ≤ 4096; rw [hRf, hRcc]; omega
          have hJa : (R).j.at_ ≤ 4096 := by show (R).f + (R).a ≤ 4096; rw [hRf]; omega
          obtain ⟨pk, hpk, -⟩ := hS.a2.seen hS.s2 0
          obtain ⟨pk2, hpk2, -⟩ := hS.a2.seen (Mem.sub.refl _) 0
          have hdv := hS.a1.seen hS.s1 0
          have hjs := jseen hS.a1 hS.s1 hS.cJ
          have hrs := rjseen hpk2 hS.s2 hS.cR
          have f25 := F25 D false false hD.some hD.most
          have f26 := F26 D pk false false hD.most
          have f12 := F12 R.j D false false
          have f27 := F27 R D pk2 false false
          have f15 := F15 R.j D false false hJe hJa
          have f28 := F28 R D pk2 false false hRc hRa
          have f29 := F29z a.n ha.2.2.1.2 ha.2.2.1.1
          have f30 := F30z a.n ha.2.2.1.2 ha.2.2.1.1
          have hjn : (R.j).next = R.n := rfl
          rw [hjn] at f12
          replace hS : Kept _ := hS
          clear hpk2
          repeat' first
            | simp -dsimp (disch := omega) only [↓rulesA, rulesB, rulesC, Int.reduceLT, nth, upd, put, storeN, AV.one, Nat.reduceBEq, Nat.reduceBNe, Int.reduceBEq, Int.reduceBNe, Int.reduceLE, Int.reduceEq, Int.reduceMod, Int.reduceNeg, boolBin, strBin, intBin, unA, fillA, ne_eq, reduceCtorEq, Nat.reduceAdd, Nat.reduceSub, Nat.reduceLeDiff, Nat.reduceLT, Nat.reduceEqDiff, Int.reduceToNat, eq_self, rulesT, rulesD, conv_img, bne_self_eq_false, Act.g0, Act.g1, Act.g2, Act.g3, Act.g4, Act.len, Act.take, Act.all, *]
            | (refine allK_intro fun n hn => ?_; try simp only [fresh_set] at hn)
            | (refine ifK_intro (fun h => ?_) (fun h => ?_) <;> (try simp only [rulesE] at h) <;> try (exfalso; (try simp only [rulesF] at h); omega))
            | (refine keeps_sub (Mem.sub_set ?_) ?_; focus (simp [Mem.set_at, nomem, *]; done))
            | (refine call_F (f25) (.one hdv) ?_)
            | (refine pure_F (f25) (.one hdv) ?_)
            | (refine call_F (f26) (.one hpk) ?_)
            | (refine pure_F (f26) (.one hpk) ?_)
            | (refine call_F (f12) (.one hjs) ?_)
            | (refine pure_F (f12) (.one hjs) ?_)
            | (refine call_F (f27) (.one hrs) ?_)
            | (refine pure_F (f27) (.one hrs) ?_)
            | (refine call_F (f15) (.one hjs) ?_)
            | (refine pure_F (f15) (.one hjs) ?_)
            | (refine call_F (f28) (.one hrs) ?_)
            | (refine pure_F (f28) (.one hrs) ?_)
            | (refine call_F (f29) (Seens.refl _ _) ?_)
            | (refine pure_F (f29) (Seens.refl _ _) ?_)
            | (refine call_F (f30) (Seens.refl _ _) ?_)
            | (refine pure_F (f30) (Seens.refl _ _) ?_)
          refine again_intro (l.length - (i + 1)) (by omega) _ (Mem.sub.refl _) ⟨i + 1, D, R, _, _, NJ, NR, by omega, rfl, hD, hDn, hDf, hRf, hRcc, hRa', hRn, hS, ?_, ?_, ?_, ?_, ?_, ?_, ?_, ?_, ?_, ?_⟩
          clear hdv hjs hrs hpk
          all_goals try (simp (disch := omega) only [nth_upd, pickB_true, pickB_false, inB_lt, upd_len, cast_succ, Int.cast_ofNat_Int, Nat.reduceBEq, beq_self_eq_true, reduceCtorEq, *]; done)
        · skip
          refine call_at (C16 d hok.some hS0.a1 a.n a.pick) hS0.s1 fun w m1' M1 ⟨hr, hat1⟩ sD lD => ?_
          subst hr
          have hS1 := hS0.dev1 hat1 sD lD
          obtain ⟨hn1x, hb1⟩ := lD n _ h1n hbn
          replace hS1 : Kept _ := hS1
          replace hS0 : Kept _ := hS0
          clear lD sD hat1 hbn
          repeat' first
            | simp -dsimp (disch := omega) only [↓rulesA, rulesB, rulesC, Int.reduceLT, nth, upd, put, storeN, AV.one, Nat.reduceBEq, Nat.reduceBNe, Int.reduceBEq, Int.reduceBNe, Int.reduceLE, Int.reduceEq, Int.reduceMod, Int.reduceNeg, boolBin, strBin, intBin, unA, fillA, ne_eq, reduceCtorEq, Nat.reduceAdd, Nat.reduceSub, Nat.reduceLeDiff, Nat.reduceLT, Nat.reduceEqDiff, Int.reduceToNat, eq_self, rulesT, rulesD, Act.g0, Act.g1, Act.g2, Act.g3, Act.g4, Act.len, Act.take, Act.all, *]
            | (refine allK_intro fun n hn => ?_; try simp only [fresh_set] at hn)
            | (refine ifK_intro (fun h => ?_) (fun h => ?_) <;> (try simp only [rulesE] at h) <;> try (exfalso; (try simp only [rulesF] at h); omega))
            | (refine keeps_sub (Mem.sub_set ?_) ?_; focus (simp [Mem.set_at, nomem, *]; done))
          refine call_at (C23 d (St.a2 hS1) a.n a.pick) (St.s2 hS1) fun w m2' M2 ⟨hr, hat2⟩ sD lD => ?_
          subst hr
          have hS := St.dev2 hS1 hat2 sD lD
          obtain ⟨hn2x, hb2⟩ := lD n _ h2n hb1
          clear lD sD hat2 hb1
          have hfl2 : (cutD d a.n a.pick).laid.length = nn := by rw [(cut_laid d a.n a.pick).1]; exact hdn
          have hok2 := Ok.cut hok (c := a.n) (p := a.pick) ha'.2.2.1.2
          have hfw2 : Few (cutD d a.n a.pick) ((i + 1) * 4096) := ⟨by rw [(cut_laid d a.n a.pick).2.1]; omega, by rw [(cut_laid d a.n a.pick).2.2]; omega⟩
          generalize cutD d a.n a.pick = D at *
          obtain ⟨R, hRe⟩ : ∃ R, R = r := ⟨r, rfl⟩
          rw [← hRe] at hS hrf hrc hra hrn
          clear hRe
          have hD : (D).Ok := hok2
          have hDn : (D).laid.length = nn := hfl2
          have hDf : Few (D) ((i + 1) * 4096) := hfw2
          have hRf : (R).f = fr := hrf
          have hRcc : (R).c = cnt := hrc
          have hRa' : (R).a ≤ cnt := hra
          have hRn : (R).n ≤ 4611686018427387905 := hrn
          have hRc : (R).c ≤ 4096 := by rw [hRcc]; omega
          have hRa : (R).a ≤ 8192 := by omega
          have hJe : (R).j.end_ ≤ 4096 := by show (R).f + (R).c ≤ 4096; rw [hRf, hRcc]; omega
          have hJa : (R).j.at_ ≤ 4096 := by show (R).f + (R).a ≤ 4096; rw [hRf]; omega
          obtain ⟨pk, hpk, -⟩ := hS.a2.seen hS.s2 0
          obtain ⟨pk2, hpk2, -⟩ := hS.a2.seen (Mem.sub.refl _) 0
          have hdv := hS.a1.seen hS.s1 0
          have hjs := jseen hS.a1 hS.s1 hS.cJ
          have hrs := rjseen hpk2 hS.s2 hS.cR
          have f25 := F25 D false false hD.some hD.most
          have f26 := F26 D pk false false hD.most
          have f12 := F12 R.j D false false
          have f27 := F27 R D pk2 false false
          have f15 := F15 R.j D false false hJe hJa
          have f28 := F28 R D pk2 false false hRc hRa
          have f29 := F29z a.n ha.2.2.1.2 ha.2.2.1.1
          have f30 := F30z a.n ha.2.2.1.2 ha.2.2.1.1
          have hjn : (R.j).next = R.n := rfl
          rw [hjn] at f12
          replace hS : Kept _ := hS
          clear hpk2
          repeat' first
            | simp -dsimp (disch := omega) only [↓rulesA, rulesB, rulesC, Int.reduceLT, nth, upd, put, storeN, AV.one, Nat.reduceBEq, Nat.reduceBNe, Int.reduceBEq, Int.reduceBNe, Int.reduceLE, Int.reduceEq, Int.reduceMod, Int.reduceNeg, boolBin, strBin, intBin, unA, fillA, ne_eq, reduceCtorEq, Nat.reduceAdd, Nat.reduceSub, Nat.reduceLeDiff, Nat.reduceLT, Nat.reduceEqDiff, Int.reduceToNat, eq_self, rulesT, rulesD, conv_img, bne_self_eq_false, Act.g0, Act.g1, Act.g2, Act.g3, Act.g4, Act.len, Act.take, Act.all, *]
            | (refine allK_intro fun n hn => ?_; try simp only [fresh_set] at hn)
            | (refine ifK_intro (fun h => ?_) (fun h => ?_) <;> (try simp only [rulesE] at h) <;> try (exfalso; (try simp only [rulesF] at h); omega))
            | (refine keeps_sub (Mem.sub_set ?_) ?_; focus (simp [Mem.set_at, nomem, *]; done))
            | (refine call_F (f25) (.one hdv) ?_)
            | (refine pure_F (f25) (.one hdv) ?_)
            | (refine call_F (f26) (.one hpk) ?_)
            | (refine pure_F (f26) (.one hpk) ?_)
            | (refine call_F (f12) (.one hjs) ?_)
            | (refine pure_F (f12) (.one hjs) ?_)
            | (refine call_F (f27) (.one hrs) ?_)
            | (refine pure_F (f27) (.one hrs) ?_)
            | (refine call_F (f15) (.one hjs) ?_)
            | (refine pure_F (f15) (.one hjs) ?_)
            | (refine call_F (f28) (.one hrs) ?_)
            | (refine pure_F (f28) (.one hrs) ?_)
            | (refine call_F (f29) (Seens.refl _ _) ?_)
            | (refine pure_F (f29) (Seens.refl _ _) ?_)
            | (refine call_F (f30) (Seens.refl _ _) ?_)
            | (refine pure_F (f30) (Seens.refl _ _) ?_)
          refine again_intro (l.length - (i + 1)) (by omega) _ (Mem.sub.refl _) ⟨i + 1, D, R, _, _, NJ, NR, by omega, rfl, hD, hDn, hDf, hRf, hRcc, hRa', hRn, hS, ?_, ?_, ?_, ?_, ?_, ?_, ?_, ?_, ?_, ?_⟩
          clear hdv hjs hrs hpk
          all_goals try (simp (disch := omega) only [nth_upd, pickB_true, pickB_false, inB_lt, upd_len, cast_succ, Int.cast_ofNat_Int, Nat.reduceBEq, beq_self_eq_true, reduceCtorEq, *]; done)
        · skip
          refine call_at (C17 d hok.some hS0.a1) hS0.s1 fun w m1' M1 ⟨hr, hat1⟩ sD lD => ?_
          subst hr
          have hS1 := hS0.dev1 hat1 sD lD
          obtain ⟨hn1x, hb1⟩ := lD n _ h1n hbn
          replace hS1 : Kept _ := hS1
          replace hS0 : Kept _ := hS0
          clear lD sD hat1 hbn
          repeat' first
            | simp -dsimp (disch := omega) only [↓rulesA, rulesB, rulesC, Int.reduceLT, nth, upd, put, storeN, AV.one, Nat.reduceBEq, Nat.reduceBNe, Int.reduceBEq, Int.reduceBNe, Int.reduceLE, Int.reduceEq, Int.reduceMod, Int.reduceNeg, boolBin, strBin, intBin, unA, fillA, ne_eq, reduceCtorEq, Nat.reduceAdd, Nat.reduceSub, Nat.reduceLeDiff, Nat.reduceLT, Nat.reduceEqDiff, Int.reduceToNat, eq_self, rulesT, rulesD, Act.g0, Act.g1, Act.g2, Act.g3, Act.g4, Act.len, Act.take, Act.all, *]
            | (refine allK_intro fun n hn => ?_; try simp only [fresh_set] at hn)
            | (refine ifK_intro (fun h => ?_) (fun h => ?_) <;> (try simp only [rulesE] at h) <;> try (exfalso; (try simp only [rulesF] at h); omega))
            | (refine keeps_sub (Mem.sub_set ?_) ?_; focus (simp [Mem.set_at, nomem, *]; done))
          refine call_at (C24 d (St.a2 hS1)) (St.s2 hS1) fun w m2' M2 ⟨hr, hat2⟩ sD lD => ?_
          subst hr
          have hS := St.dev2 hS1 hat2 sD lD
          obtain ⟨hn2x, hb2⟩ := lD n _ h2n hb1
          clear lD sD hat2 hb1
          have hDn : (onD d).laid.length = nn := hdn
          have hD : (onD d).Ok := Ok.on hok
          have hDf : Few (onD d) ((i + 1) * 4096) := ⟨by show d.w ≤ _; omega, by show d.f ≤ _; omega⟩
          have hdead : (onD d).dead = false := rfl
          generalize onD d = D at *
          have hX : Kept _ := hS
          have hbx := hb2
          clear hS hb2 hS1
          repeat' first
            | simp -dsimp (disch := omega) only [↓rulesA, rulesB, rulesC, Int.reduceLT, nth, upd, put, storeN, AV.one, Nat.reduceBEq, Nat.reduceBNe, Int.reduceBEq, Int.reduceBNe, Int.reduceLE, Int.reduceEq, Int.reduceMod, Int.reduceNeg, boolBin, strBin, intBin, unA, fillA, ne_eq, reduceCtorEq, Nat.reduceAdd, Nat.reduceSub, Nat.reduceLeDiff, Nat.reduceLT, Nat.reduceEqDiff, Int.reduceToNat, eq_self, rulesT, rulesD, Act.g0, Act.g1, Act.g2, Act.g3, Act.g4, Act.len, Act.take, Act.all, *]
            | (refine allK_intro fun n hn => ?_; try simp only [fresh_set] at hn)
            | (refine ifK_intro (fun h => ?_) (fun h => ?_) <;> (try simp only [rulesE] at h) <;> try (exfalso; (try simp only [rulesF] at h); omega))
            | (refine keeps_sub (Mem.sub_set ?_) ?_; focus (simp [Mem.set_at, nomem, *]; done))
          by_cases hop : 1 ≤ a.first ∧ a.first ≤ 4611686018427387904
          · obtain ⟨g1, g2⟩ := hop
            obtain ⟨fi, hfi⟩ : ∃ q : Nat, a.first = q := ⟨a.first.toNat, by omega⟩
            rw [hfi]
            refine call_at (C9_ok D hD.some hD.most hD.list (St.a1 hX) fr cnt fi (by omega) (by omega) (by omega) (by omega) hdead) (St.s1 hX) fun w m3 M3 ⟨NJ', q, b1, b2, b3, hr, hm3⟩ s3 l3 => ?_
            subst hr
            have hb3 := (l3 n _ hn1x hbx).2
            obtain ⟨s2', hap3⟩ := l3.keep (St.s2 hX) (St.ap hX)
            replace hap3 : Kept _ := hap3
            repeat' first
              | simp -dsimp (disch := omega) only [↓rulesA, rulesB, rulesC, Int.reduceLT, nth, upd, put, storeN, AV.one, Nat.reduceBEq, Nat.reduceBNe, Int.reduceBEq, Int.reduceBNe, Int.reduceLE, Int.reduceEq, Int.reduceMod, Int.reduceNeg, boolBin, strBin, intBin, unA, fillA, ne_eq, reduceCtorEq, Nat.reduceAdd, Nat.reduceSub, Nat.reduceLeDiff, Nat.reduceLT, Nat.reduceEqDiff, Int.reduceToNat, eq_self, rulesT, rulesD, Act.g0, Act.g1, Act.g2, Act.g3, Act.g4, Act.len, Act.take, Act.all, *]
              | (refine allK_intro fun n hn => ?_; try simp only [fresh_set] at hn)
              | (refine ifK_intro (fun h => ?_) (fun h => ?_) <;> (try simp only [rulesE] at h) <;> try (exfalso; (try simp only [rulesF] at h); omega))
              | (refine keeps_sub (Mem.sub_set ?_) ?_; focus (simp [Mem.set_at, nomem, *]; done))
            refine call_at (C20_ok D hD.some hD.most hD.list (St.a2 hX) fr cnt fi (by omega) (by omega) (by omega) (by omega) hdead) s2' fun w m4 M4 ⟨NR', q2, b4, b5, b6, hr, hm4⟩ s4 l4 => ?_
            subst hr
            have hb4 := (l4 n _ hn2x hb3).2
            obtain ⟨hS, e1, e2⟩ := opened (d1 := D) (d2 := D) (St.a1 hX) (St.a2 hX) (St.ap hX) (St.s2 hX) b1 b2 b3 hm3 s3 l3 b4 b5 b6 hm4 s4 l4
            have hT := stand_len (fr + cnt) D (fr + cnt) fr fi
            have hTl : (openT D fr cnt fi).length ≤ 140737488355328 := by unfold openT txts; rw [List.length_map]; omega
            have hra2 := openR_a (d := D) (fr := fr) (cnt := cnt) (first := fi)
            have hrn2 : (openR D fr cnt fi).n ≤ 4611686018427387905 := nextTo_le D (by omega) cnt
            have hrf2 : (openR D fr cnt fi).f = fr := rfl
            have hrc2 : (openR D fr cnt fi).c = cnt := rfl
            rw [← openR_j] at hS
            generalize openR D fr cnt fi = R at *
            generalize openT D fr cnt fi = T at *
            have f13 := F13 T T false false hTl
            clear b1 b2 b3 b4 b5 b6 hm3 hm4 s3 s4 l3 l4 s2' hap3 hT hTl hb3 hbx
            replace hS : Kept _ := hS
            repeat' first
              | simp -dsimp (disch := omega) only [↓rulesA, rulesB, rulesC, Int.reduceLT, nth, upd, put, storeN, AV.one, Nat.reduceBEq, Nat.reduceBNe, Int.reduceBEq, Int.reduceBNe, Int.reduceLE, Int.reduceEq, Int.reduceMod, Int.reduceNeg, boolBin, strBin, intBin, unA, fillA, ne_eq, reduceCtorEq, Nat.reduceAdd, Nat.reduceSub, Nat.reduceLeDiff, Nat.reduceLT, Nat.reduceEqDiff, Int.reduceToNat, eq_self, rulesT, rulesD, decide_true, Act.g0, Act.g1, Act.g2, Act.g3, Act.g4, Act.len, Act.take, Act.all, *]
              | (refine allK_intro fun n hn => ?_; try simp only [fresh_set] at hn)
              | (refine ifK_intro (fun h => ?_) (fun h => ?_) <;> (try simp only [rulesE] at h) <;> try (exfalso; (try simp only [rulesF] at h); omega))
              | (refine keeps_sub (Mem.sub_set ?_) ?_; focus (simp [Mem.set_at, nomem, *]; done))
              | (refine call_F (f13) (.two (tx_seen _ e1) (tx_seen _ e2)) ?_)
              | (refine pure_F (f13) (.two (tx_seen _ e1) (tx_seen _ e2)) ?_)
            replace hS : St _ _ _ _ _ _ _ _ _ _ _ := hS
            clear f13 e1 e2
            have hRf : (R).f = fr := hrf2
            have hRcc : (R).c = cnt := hrc2
            have hRa' : (R).a ≤ cnt := hra2
            have hRn : (R).n ≤ 4611686018427387905 := hrn2
            have hRc : (R).c ≤ 4096 := by rw [hRcc]; omega
            have hRa : (R).a ≤ 8192 := by omega
            have hJe : (R).j.end_ ≤ 4096 := by show (R).f + (R).c ≤ 4096; rw [hRf, hRcc]; omega
            have hJa : (R).j.at_ ≤ 4096 := by show (R).f + (R).a ≤ 4096; rw [hRf]; omega
            obtain ⟨pk, hpk, -⟩ := hS.a2.seen hS.s2 0
            obtain ⟨pk2, hpk2, -⟩ := hS.a2.seen (Mem.sub.refl _) 0
            have hdv := hS.a1.seen hS.s1 0
            have hjs := jseen hS.a1 hS.s1 hS.cJ
            have hrs := rjseen hpk2 hS.s2 hS.cR
            have f25 := F25 D false false hD.some hD.most
            have f26 := F26 D pk false false hD.most
            have f12 := F12 R.j D false false
            have f27 := F27 R D pk2 false false
            have f15 := F15 R.j D false false hJe hJa
            have f28 := F28 R D pk2 false false hRc hRa
            have f29 := F29z a.n ha.2.2.1.2 ha.2.2.1.1
            have f30 := F30z a.n ha.2.2.1.2 ha.2.2.1.1
            have hjn : (R.j).next = R.n := rfl
            rw [hjn] at f12
            replace hS : Kept _ := hS
            clear hpk2
            repeat' first
              | simp -dsimp (disch := omega) only [↓rulesA, rulesB, rulesC, Int.reduceLT, nth, upd, put, storeN, AV.one, Nat.reduceBEq, Nat.reduceBNe, Int.reduceBEq, Int.reduceBNe, Int.reduceLE, Int.reduceEq, Int.reduceMod, Int.reduceNeg, boolBin, strBin, intBin, unA, fillA, ne_eq, reduceCtorEq, Nat.reduceAdd, Nat.reduceSub, Nat.reduceLeDiff, Nat.reduceLT, Nat.reduceEqDiff, Int.reduceToNat, eq_self, rulesT, rulesD, conv_img, bne_self_eq_false, Act.g0, Act.g1, Act.g2, Act.g3, Act.g4, Act.len, Act.take, Act.all, *]
              | (refine allK_intro fun n hn => ?_; try simp only [fresh_set] at hn)
              | (refine ifK_intro (fun h => ?_) (fun h => ?_) <;> (try simp only [rulesE] at h) <;> try (exfalso; (try simp only [rulesF] at h); omega))
              | (refine keeps_sub (Mem.sub_set ?_) ?_; focus (simp [Mem.set_at, nomem, *]; done))
              | (refine call_F (f25) (.one hdv) ?_)
              | (refine pure_F (f25) (.one hdv) ?_)
              | (refine call_F (f26) (.one hpk) ?_)
              | (refine pure_F (f26) (.one hpk) ?_)
              | (refine call_F (f12) (.one hjs) ?_)
              | (refine pure_F (f12) (.one hjs) ?_)
              | (refine call_F (f27) (.one hrs) ?_)
              | (refine pure_F (f27) (.one hrs) ?_)
              | (refine call_F (f15) (.one hjs) ?_)
              | (refine pure_F (f15) (.one hjs) ?_)
              | (refine call_F (f28) (.one hrs) ?_)
              | (refine pure_F (f28) (.one hrs) ?_)
              | (refine call_F (f29) (Seens.refl _ _) ?_)
              | (refine pure_F (f29) (Seens.refl _ _) ?_)
              | (refine call_F (f30) (Seens.refl _ _) ?_)
              | (refine pure_F (f30) (Seens.refl _ _) ?_)
            refine again_intro (l.length - (i + 1)) (by omega) _ (Mem.sub.refl _) ⟨i + 1, D, R, _, _, NJ', NR', by omega, rfl, hD, hDn, hDf, hRf, hRcc, hRa', hRn, hS, ?_, ?_, ?_, ?_, ?_, ?_, ?_, ?_, ?_, ?_⟩
            clear hdv hjs hrs hpk
            all_goals try (simp (disch := omega) only [nth_upd, pickB_true, pickB_false, inB_lt, upd_len, cast_succ, Int.cast_ofNat_Int, Nat.reduceBEq, beq_self_eq_true, reduceCtorEq, *]; done)
          · have hopn : ¬ OpenOk D fr cnt a.first := fun h => hop ⟨h.2.2.2.2.1, h.2.2.2.2.2⟩
            refine call_at (C9_no D hD.some hD.most (St.a1 hX) fr cnt a.first hopn) (St.s1 hX) fun w m3 M3 ⟨hr, hm3⟩ s3 l3 => ?_
            subst hr
            subst hm3
            have hX1 := St.dev1 hX (St.a1 hX) s3 l3
            have hb3 := (l3 n _ hn1x hbx).2
            replace hX1 : Kept _ := hX1
            clear l3 s3 hbx
            repeat' first
              | simp -dsimp (disch := omega) only [↓rulesA, rulesB, rulesC, Int.reduceLT, nth, upd, put, storeN, AV.one, Nat.reduceBEq, Nat.reduceBNe, Int.reduceBEq, Int.reduceBNe, Int.reduceLE, Int.reduceEq, Int.reduceMod, Int.reduceNeg, boolBin, strBin, intBin, unA, fillA, ne_eq, reduceCtorEq, Nat.reduceAdd, Nat.reduceSub, Nat.reduceLeDiff, Nat.reduceLT, Nat.reduceEqDiff, Int.reduceToNat, eq_self, rulesT, rulesD, Act.g0, Act.g1, Act.g2, Act.g3, Act.g4, Act.len, Act.take, Act.all, *]
              | (refine allK_intro fun n hn => ?_; try simp only [fresh_set] at hn)
              | (refine ifK_intro (fun h => ?_) (fun h => ?_) <;> (try simp only [rulesE] at h) <;> try (exfalso; (try simp only [rulesF] at h); omega))
              | (refine keeps_sub (Mem.sub_set ?_) ?_; focus (simp [Mem.set_at, nomem, *]; done))
            refine call_at (C20_no D hD.some hD.most (St.a2 hX1) fr cnt a.first hopn) (St.s2 hX1) fun w m4 M4 ⟨hr, hm4⟩ s4 l4 => ?_
            subst hr
            subst hm4
            have hS := St.dev2 hX1 (St.a2 hX1) s4 l4
            have hb4 := (l4 n _ hn2x hb3).2
            replace hS : Kept _ := hS
            clear l4 s4 hb3
            repeat' first
              | simp -dsimp (disch := omega) only [↓rulesA, rulesB, rulesC, Int.reduceLT, nth, upd, put, storeN, AV.one, Nat.reduceBEq, Nat.reduceBNe, Int.reduceBEq, Int.reduceBNe, Int.reduceLE, Int.reduceEq, Int.reduceMod, Int.reduceNeg, boolBin, strBin, intBin, unA, fillA, ne_eq, reduceCtorEq, Nat.reduceAdd, Nat.reduceSub, Nat.reduceLeDiff, Nat.reduceLT, Nat.reduceEqDiff, Int.reduceToNat, eq_self, rulesT, rulesD, decide_true, Act.g0, Act.g1, Act.g2, Act.g3, Act.g4, Act.len, Act.take, Act.all, *]
              | (refine allK_intro fun n hn => ?_; try simp only [fresh_set] at hn)
              | (refine ifK_intro (fun h => ?_) (fun h => ?_) <;> (try simp only [rulesE] at h) <;> try (exfalso; (try simp only [rulesF] at h); omega))
              | (refine keeps_sub (Mem.sub_set ?_) ?_; focus (simp [Mem.set_at, nomem, *]; done))
              | (refine call_F (f13n) (.two .nilS .nilS) ?_)
              | (refine pure_F (f13n) (.two .nilS .nilS) ?_)
            replace hS : St _ _ _ _ _ _ _ _ _ _ _ := hS
            obtain ⟨R, hRe⟩ : ∃ R, R = r := ⟨r, rfl⟩
            rw [← hRe] at hS hrf hrc hra hrn
            clear hRe hX hX1
            have hRf : (R).f = fr := hrf
            have hRcc : (R).c = cnt := hrc
            have hRa' : (R).a ≤ cnt := hra
            have hRn : (R).n ≤ 4611686018427387905 := hrn
            have hRc : (R).c ≤ 4096 := by rw [hRcc]; omega
            have hRa : (R).a ≤ 8192 := by omega
            have hJe : (R).j.end_ ≤ 4096 := by show (R).f + (R).c ≤ 4096; rw [hRf, hRcc]; omega
            have hJa : (R).j.at_ ≤ 4096 := by show (R).f + (R).a ≤ 4096; rw [hRf]; omega
            obtain ⟨pk, hpk, -⟩ := hS.a2.seen hS.s2 0
            obtain ⟨pk2, hpk2, -⟩ := hS.a2.seen (Mem.sub.refl _) 0
            have hdv := hS.a1.seen hS.s1 0
            have hjs := jseen hS.a1 hS.s1 hS.cJ
            have hrs := rjseen hpk2 hS.s2 hS.cR
            have f25 := F25 D false false hD.some hD.most
            have f26 := F26 D pk false false hD.most
            have f12 := F12 R.j D false false
            have f27 := F27 R D pk2 false false
            have f15 := F15 R.j D false false hJe hJa
            have f28 := F28 R D pk2 false false hRc hRa
            have f29 := F29z a.n ha.2.2.1.2 ha.2.2.1.1
            have f30 := F30z a.n ha.2.2.1.2 ha.2.2.1.1
            have hjn : (R.j).next = R.n := rfl
            rw [hjn] at f12
            replace hS : Kept _ := hS
            clear hpk2
            repeat' first
              | simp -dsimp (disch := omega) only [↓rulesA, rulesB, rulesC, Int.reduceLT, nth, upd, put, storeN, AV.one, Nat.reduceBEq, Nat.reduceBNe, Int.reduceBEq, Int.reduceBNe, Int.reduceLE, Int.reduceEq, Int.reduceMod, Int.reduceNeg, boolBin, strBin, intBin, unA, fillA, ne_eq, reduceCtorEq, Nat.reduceAdd, Nat.reduceSub, Nat.reduceLeDiff, Nat.reduceLT, Nat.reduceEqDiff, Int.reduceToNat, eq_self, rulesT, rulesD, conv_img, bne_self_eq_false, Act.g0, Act.g1, Act.g2, Act.g3, Act.g4, Act.len, Act.take, Act.all, *]
              | (refine allK_intro fun n hn => ?_; try simp only [fresh_set] at hn)
              | (refine ifK_intro (fun h => ?_) (fun h => ?_) <;> (try simp only [rulesE] at h) <;> try (exfalso; (try simp only [rulesF] at h); omega))
              | (refine keeps_sub (Mem.sub_set ?_) ?_; focus (simp [Mem.set_at, nomem, *]; done))
              | (refine call_F (f25) (.one hdv) ?_)
              | (refine pure_F (f25) (.one hdv) ?_)
              | (refine call_F (f26) (.one hpk) ?_)
              | (refine pure_F (f26) (.one hpk) ?_)
              | (refine call_F (f12) (.one hjs) ?_)
              | (refine pure_F (f12) (.one hjs) ?_)
              | (refine call_F (f27) (.one hrs) ?_)
              | (refine pure_F (f27) (.one hrs) ?_)
              | (refine call_F (f15) (.one hjs) ?_)
              | (refine pure_F (f15) (.one hjs) ?_)
              | (refine call_F (f28) (.one hrs) ?_)
              | (refine pure_F (f28) (.one hrs) ?_)
              | (refine call_F (f29) (Seens.refl _ _) ?_)
              | (refine pure_F (f29) (Seens.refl _ _) ?_)
              | (refine call_F (f30) (Seens.refl _ _) ?_)
              | (refine pure_F (f30) (Seens.refl _ _) ?_)
            refine again_intro (l.length - (i + 1)) (by omega) _ (Mem.sub.refl _) ⟨i + 1, D, R, _, _, NJ, NR, by omega, rfl, hD, hDn, hDf, hRf, hRcc, hRa', hRn, hS, ?_, ?_, ?_, ?_, ?_, ?_, ?_, ?_, ?_, ?_⟩
            clear hdv hjs hrs hpk
            all_goals try (simp (disch := omega) only [nth_upd, pickB_true, pickB_false, inB_lt, upd_len, cast_succ, Int.cast_ofNat_Int, Nat.reduceBEq, beq_self_eq_true, reduceCtorEq, *]; done)
        · obtain ⟨D, hDe⟩ : ∃ D, D = d := ⟨d, rfl⟩
          rw [← hDe] at hS0 hok hdn hfw hff
          have hD := hok
          have hDn := hdn
          have hDf : Few D ((i + 1) * 4096) := ⟨by omega, by omega⟩
          have hX : Kept _ := hS0
          have hbx := hbn
          have hn1x := h1n
          have hn2x := h2n
          clear hDe hS0 hbn h1n h2n hok hdn
          by_cases hop : 1 ≤ a.first ∧ a.first ≤ 4611686018427387904
          · obtain ⟨g1, g2⟩ := hop
            obtain ⟨fi, hfi⟩ : ∃ q : Nat, a.first = q := ⟨a.first.toNat, by omega⟩
            rw [hfi]
            rcases hdead : D.dead with _ | _
            rotate_left
            · have hopk : OpenOk D fr cnt fi := ⟨by omega, by omega, by omega, by omega, by omega, by omega⟩
              refine call_at (C9_dead D hD.some hD.most (St.a1 hX) fr cnt fi hopk hdead) (St.s1 hX) fun w m3 M3 ⟨hr, hm3⟩ s3 l3 => ?_
              subst hr
              subst hm3
              have hX1 := St.dev1 hX (St.a1 hX) s3 l3
              have hb3 := (l3 n _ hn1x hbx).2
              replace hX1 : Kept _ := hX1
              clear l3 s3 hbx
              repeat' first
                | simp -dsimp (disch := omega) only [↓rulesA, rulesB, rulesC, Int.reduceLT, nth, upd, put, storeN, AV.one, Nat.reduceBEq, Nat.reduceBNe, Int.reduceBEq, Int.reduceBNe, Int.reduceLE, Int.reduceEq, Int.reduceMod, Int.reduceNeg, boolBin, strBin, intBin, unA, fillA, ne_eq, reduceCtorEq, Nat.reduceAdd, Nat.reduceSub, Nat.reduceLeDiff, Nat.reduceLT, Nat.reduceEqDiff, Int.reduceToNat, eq_self, rulesT, rulesD, Act.g0, Act.g1, Act.g2, Act.g3, Act.g4, Act.len, Act.take, Act.all, *]
                | (refine allK_intro fun n hn => ?_; try simp only [fresh_set] at hn)
                | (refine ifK_intro (fun h => ?_) (fun h => ?_) <;> (try simp only [rulesE] at h) <;> try (exfalso; (try simp only [rulesF] at h); omega))
                | (refine keeps_sub (Mem.sub_set ?_) ?_; focus (simp [Mem.set_at, nomem, *]; done))
              refine call_at (C20_dead D hD.some hD.most (St.a2 hX1) fr cnt fi hopk hdead) (St.s2 hX1) fun w m4 M4 ⟨hr, hm4⟩ s4 l4 => ?_
              subst hr
              subst hm4
              have hS := St.dev2 hX1 (St.a2 hX1) s4 l4
              have hb4 := (l4 n _ hn2x hb3).2
              replace hS : Kept _ := hS
              clear l4 s4 hb3
              repeat' first
                | simp -dsimp (disch := omega) only [↓rulesA, rulesB, rulesC, Int.reduceLT, nth, upd, put, storeN, AV.one, Nat.reduceBEq, Nat.reduceBNe, Int.reduceBEq, Int.reduceBNe, Int.reduceLE, Int.reduceEq, Int.reduceMod, Int.reduceNeg, boolBin, strBin, intBin, unA, fillA, ne_eq, reduceCtorEq, Nat.reduceAdd, Nat.reduceSub, Nat.reduceLeDiff, Nat.reduceLT, Nat.reduceEqDiff, Int.reduceToNat, eq_self, rulesT, rulesD, decide_true, Act.g0, Act.g1, Act.g2, Act.g3, Act.g4, Act.len, Act.take, Act.all, *]
                | (refine allK_intro fun n hn => ?_; try simp only [fresh_set] at hn)
                | (refine ifK_intro (fun h => ?_) (fun h => ?_) <;> (try simp only [rulesE] at h) <;> try (exfalso; (try simp only [rulesF] at h); omega))
                | (refine keeps_sub (Mem.sub_set ?_) ?_; focus (simp [Mem.set_at, nomem, *]; done))
                | (refine call_F (f13n) (.two .nilS .nilS) ?_)
                | (refine pure_F (f13n) (.two .nilS .nilS) ?_)
              replace hS : St _ _ _ _ _ _ _ _ _ _ _ := hS
              obtain ⟨R, hRe⟩ : ∃ R, R = r := ⟨r, rfl⟩
              rw [← hRe] at hS hrf hrc hra hrn
              clear hRe hX hX1
              have hRf : (R).f = fr := hrf
              have hRcc : (R).c = cnt := hrc
              have hRa' : (R).a ≤ cnt := hra
              have hRn : (R).n ≤ 4611686018427387905 := hrn
              have hRc : (R).c ≤ 4096 := by rw [hRcc]; omega
              have hRa : (R).a ≤ 8192 := by omega
              have hJe : (R).j.end_ ≤ 4096 := by show (R).f + (R).c ≤ 4096; rw [hRf, hRcc]; omega
              have hJa : (R).j.at_ ≤ 4096 := by show (R).f + (R).a ≤ 4096; rw [hRf]; omega
              obtain ⟨pk, hpk, -⟩ := hS.a2.seen hS.s2 0
              obtain ⟨pk2, hpk2, -⟩ := hS.a2.seen (Mem.sub.refl _) 0
              have hdv := hS.a1.seen hS.s1 0
              have hjs := jseen hS.a1 hS.s1 hS.cJ
              have hrs := rjseen hpk2 hS.s2 hS.cR
              have f25 := F25 D false false hD.some hD.most
              have f26 := F26 D pk false false hD.most
              have f12 := F12 R.j D false false
              have f27 := F27 R D pk2 false false
              have f15 := F15 R.j D false false hJe hJa
              have f28 := F28 R D pk2 false false hRc hRa
              have f29 := F29z a.n ha.2.2.1.2 ha.2.2.1.1
              have f30 := F30z a.n ha.2.2.1.2 ha.2.2.1.1
              have hjn : (R.j).next = R.n := rfl
              rw [hjn] at f12
              replace hS : Kept _ := hS
              clear hpk2
              repeat' first
                | simp -dsimp (disch := omega) only [↓rulesA, rulesB, rulesC, Int.reduceLT, nth, upd, put, storeN, AV.one, Nat.reduceBEq, Nat.reduceBNe, Int.reduceBEq, Int.reduceBNe, Int.reduceLE, Int.reduceEq, Int.reduceMod, Int.reduceNeg, boolBin, strBin, intBin, unA, fillA, ne_eq, reduceCtorEq, Nat.reduceAdd, Nat.reduceSub, Nat.reduceLeDiff, Nat.reduceLT, Nat.reduceEqDiff, Int.reduceToNat, eq_self, rulesT, rulesD, conv_img, bne_self_eq_false, Act.g0, Act.g1, Act.g2, Act.g3, Act.g4, Act.len, Act.take, Act.all, *]
                | (refine allK_intro fun n hn => ?_; try simp only [fresh_set] at hn)
                | (refine ifK_intro (fun h => ?_) (fun h => ?_) <;> (try simp only [rulesE] at h) <;> try (exfalso; (try simp only [rulesF] at h); omega))
                | (refine keeps_sub (Mem.sub_set ?_) ?_; focus (simp [Mem.set_at, nomem, *]; done))
                | (refine call_F (f25) (.one hdv) ?_)
                | (refine pure_F (f25) (.one hdv) ?_)
                | (refine call_F (f26) (.one hpk) ?_)
                | (refine pure_F (f26) (.one hpk) ?_)
                | (refine call_F (f12) (.one hjs) ?_)
                | (refine pure_F (f12) (.one hjs) ?_)
                | (refine call_F (f27) (.one hrs) ?_)
                | (refine pure_F (f27) (.one hrs) ?_)
                | (refine call_F (f15) (.one hjs) ?_)
                | (refine pure_F (f15) (.one hjs) ?_)
                | (refine call_F (f28) (.one hrs) ?_)
                | (refine pure_F (f28) (.one hrs) ?_)
                | (refine call_F (f29) (Seens.refl _ _) ?_)
                | (refine pure_F (f29) (Seens.refl _ _) ?_)
                | (refine call_F (f30) (Seens.refl _ _) ?_)
                | (refine pure_F (f30) (Seens.refl _ _) ?_)
              refine again_intro (l.length - (i + 1)) (by omega) _ (Mem.sub.refl _) ⟨i + 1, D, R, _, _, NJ, NR, by omega, rfl, hD, hDn, hDf, hRf, hRcc, hRa', hRn, hS, ?_, ?_, ?_, ?_, ?_, ?_, ?_, ?_, ?_, ?_⟩
              clear hdv hjs hrs hpk
              all_goals try (simp (disch := omega) only [nth_upd, pickB_true, pickB_false, inB_lt, upd_len, cast_succ, Int.cast_ofNat_Int, Nat.reduceBEq, beq_self_eq_true, reduceCtorEq, *]; done)
            refine call_at (C9_ok D hD.some hD.most hD.list (St.a1 hX) fr cnt fi (by omega) (by omega) (by omega) (by omega) hdead) (St.s1 hX) fun w m3 M3 ⟨NJ', q, b1, b2, b3, hr, hm3⟩ s3 l3 => ?_
            subst hr
            have hb3 := (l3 n _ hn1x hbx).2
            obtain ⟨s2', hap3⟩ := l3.keep (St.s2 hX) (St.ap hX)
            replace hap3 : Kept _ := hap3
            repeat' first
              | simp -dsimp (disch := omega) only [↓rulesA, rulesB, rulesC, Int.reduceLT, nth, upd, put, storeN, AV.one, Nat.reduceBEq, Nat.reduceBNe, Int.reduceBEq, Int.reduceBNe, Int.reduceLE, Int.reduceEq, Int.reduceMod, Int.reduceNeg, boolBin, strBin, intBin, unA, fillA, ne_eq, reduceCtorEq, Nat.reduceAdd, Nat.reduceSub, Nat.reduceLeDiff, Nat.reduceLT, Nat.reduceEqDiff, Int.reduceToNat, eq_self, rulesT, rulesD, Act.g0, Act.g1, Act.g2, Act.g3, Act.g4, Act.len, Act.take, Act.all, *]
              | (refine allK_intro fun n hn => ?_; try simp only [fresh_set] at hn)
              | (refine ifK_intro (fun h => ?_) (fun h => ?_) <;> (try simp only [rulesE] at h) <;> try (exfalso; (try simp only [rulesF] at h); omega))
              | (refine keeps_sub (Mem.sub_set ?_) ?_; focus (simp [Mem.set_at, nomem, *]; done))
            refine call_at (C20_ok D hD.some hD.most hD.list (St.a2 hX) fr cnt fi (by omega) (by omega) (by omega) (by omega) hdead) s2' fun w m4 M4 ⟨NR', q2, b4, b5, b6, hr, hm4⟩ s4 l4 => ?_
            subst hr
            have hb4 := (l4 n _ hn2x hb3).2
            obtain ⟨hS, e1, e2⟩ := opened (d1 := D) (d2 := D) (St.a1 hX) (St.a2 hX) (St.ap hX) (St.s2 hX) b1 b2 b3 hm3 s3 l3 b4 b5 b6 hm4 s4 l4
            have hT := stand_len (fr + cnt) D (fr + cnt) fr fi
            have hTl : (openT D fr cnt fi).length ≤ 140737488355328 := by unfold openT txts; rw [List.length_map]; omega
            have hra2 := openR_a (d := D) (fr := fr) (cnt := cnt) (first := fi)
            have hrn2 : (openR D fr cnt fi).n ≤ 4611686018427387905 := nextTo_le D (by omega) cnt
            have hrf2 : (openR D fr cnt fi).f = fr := rfl
            have hrc2 : (openR D fr cnt fi).c = cnt := rfl
            rw [← openR_j] at hS
            generalize openR D fr cnt fi = R at *
            generalize openT D fr cnt fi = T at *
            have f13 := F13 T T false false hTl
            clear b1 b2 b3 b4 b5 b6 hm3 hm4 s3 s4 l3 l4 s2' hap3 hT hTl hb3 hbx
            replace hS : Kept _ := hS
            repeat' first
              | simp -dsimp (disch := omega) only [↓rulesA, rulesB, rulesC, Int.reduceLT, nth, upd, put, storeN, AV.one, Nat.reduceBEq, Nat.reduceBNe, Int.reduceBEq, Int.reduceBNe, Int.reduceLE, Int.reduceEq, Int.reduceMod, Int.reduceNeg, boolBin, strBin, intBin, unA, fillA, ne_eq, reduceCtorEq, Nat.reduceAdd, Nat.reduceSub, Nat.reduceLeDiff, Nat.reduceLT, Nat.reduceEqDiff, Int.reduceToNat, eq_self, rulesT, rulesD, decide_true, Act.g0, Act.g1, Act.g2, Act.g3, Act.g4, Act.len, Act.take, Act.all, *]
              | (refine allK_intro fun n hn => ?_; try simp only [fresh_set] at hn)
              | (refine ifK_intro (fun h => ?_) (fun h => ?_) <;> (try simp only [rulesE] at h) <;> try (exfalso; (try simp only [rulesF] at h); omega))
              | (refine keeps_sub (Mem.sub_set ?_) ?_; focus (simp [Mem.set_at, nomem, *]; done))
              | (refine call_F (f13) (.two (tx_seen _ e1) (tx_seen _ e2)) ?_)
              | (refine pure_F (f13) (.two (tx_seen _ e1) (tx_seen _ e2)) ?_)
            replace hS : St _ _ _ _ _ _ _ _ _ _ _ := hS
            clear f13 e1 e2
            have hRf : (R).f = fr := hrf2
            have hRcc : (R).c = cnt := hrc2
            have hRa' : (R).a ≤ cnt := hra2
            have hRn : (R).n ≤ 4611686018427387905 := hrn2
            have hRc : (R).c ≤ 4096 := by rw [hRcc]; omega
            have hRa : (R).a ≤ 8192 := by omega
            have hJe : (R).j.end_ ≤ 4096 := by show (R).f + (R).c ≤ 4096; rw [hRf, hRcc]; omega
            have hJa : (R).j.at_ ≤ 4096 := by show (R).f + (R).a ≤ 4096; rw [hRf]; omega
            obtain ⟨pk, hpk, -⟩ := hS.a2.seen hS.s2 0
            obtain ⟨pk2, hpk2, -⟩ := hS.a2.seen (Mem.sub.refl _) 0
            have hdv := hS.a1.seen hS.s1 0
            have hjs := jseen hS.a1 hS.s1 hS.cJ
            have hrs := rjseen hpk2 hS.s2 hS.cR
            have f25 := F25 D false false hD.some hD.most
            have f26 := F26 D pk false false hD.most
            have f12 := F12 R.j D false false
            have f27 := F27 R D pk2 false false
            have f15 := F15 R.j D false false hJe hJa
            have f28 := F28 R D pk2 false false hRc hRa
            have f29 := F29z a.n ha.2.2.1.2 ha.2.2.1.1
            have f30 := F30z a.n ha.2.2.1.2 ha.2.2.1.1
            have hjn : (R.j).next = R.n := rfl
            rw [hjn] at f12
            replace hS : Kept _ := hS
            clear hpk2
            repeat' first
              | simp -dsimp (disch := omega) only [↓rulesA, rulesB, rulesC, Int.reduceLT, nth, upd, put, storeN, AV.one, Nat.reduceBEq, Nat.reduceBNe, Int.reduceBEq, Int.reduceBNe, Int.reduceLE, Int.reduceEq, Int.reduceMod, Int.reduceNeg, boolBin, strBin, intBin, unA, fillA, ne_eq, reduceCtorEq, Nat.reduceAdd, Nat.reduceSub, Nat.reduceLeDiff, Nat.reduceLT, Nat.reduceEqDiff, Int.reduceToNat, eq_self, rulesT, rulesD, conv_img, bne_self_eq_false, Act.g0, Act.g1, Act.g2, Act.g3, Act.g4, Act.len, Act.take, Act.all, *]
              | (refine allK_intro fun n hn => ?_; try simp only [fresh_set] at hn)
              | (refine ifK_intro (fun h => ?_) (fun h => ?_) <;> (try simp only [rulesE] at h) <;> try (exfalso; (try simp only [rulesF] at h); omega))
              | (refine keeps_sub (Mem.sub_set ?_) ?_; focus (simp [Mem.set_at, nomem, *]; done))
              | (refine call_F (f25) (.one hdv) ?_)
              | (refine pure_F (f25) (.one hdv) ?_)
              | (refine call_F (f26) (.one hpk) ?_)
              | (refine pure_F (f26) (.one hpk) ?_)
              | (refine call_F (f12) (.one hjs) ?_)
              | (refine pure_F (f12) (.one hjs) ?_)
              | (refine call_F (f27) (.one hrs) ?_)
              | (refine pure_F (f27) (.one hrs) ?_)
              | (refine call_F (f15) (.one hjs) ?_)
              | (refine pure_F (f15) (.one hjs) ?_)
              | (refine call_F (f28) (.one hrs) ?_)
              | (refine pure_F (f28) (.one hrs) ?_)
              | (refine call_F (f29) (Seens.refl _ _) ?_)
              | (refine pure_F (f29) (Seens.refl _ _) ?_)
              | (refine call_F (f30) (Seens.refl _ _) ?_)
              | (refine pure_F (f30) (Seens.refl _ _) ?_)
            refine again_intro (l.length - (i + 1)) (by omega) _ (Mem.sub.refl _) ⟨i + 1, D, R, _, _, NJ', NR', by omega, rfl, hD, hDn, hDf, hRf, hRcc, hRa', hRn, hS, ?_, ?_, ?_, ?_, ?_, ?_, ?_, ?_, ?_, ?_⟩
            clear hdv hjs hrs hpk
            all_goals try (simp (disch := omega) only [nth_upd, pickB_true, pickB_false, inB_lt, upd_len, cast_succ, Int.cast_ofNat_Int, Nat.reduceBEq, beq_self_eq_true, reduceCtorEq, *]; done)
          · have hopn : ¬ OpenOk D fr cnt a.first := fun h => hop ⟨h.2.2.2.2.1, h.2.2.2.2.2⟩
            refine call_at (C9_no D hD.some hD.most (St.a1 hX) fr cnt a.first hopn) (St.s1 hX) fun w m3 M3 ⟨hr, hm3⟩ s3 l3 => ?_
            subst hr
            subst hm3
            have hX1 := St.dev1 hX (St.a1 hX) s3 l3
            have hb3 := (l3 n _ hn1x hbx).2
            replace hX1 : Kept _ := hX1
            clear l3 s3 hbx
            repeat' first
              | simp -dsimp (disch := omega) only [↓rulesA, rulesB, rulesC, Int.reduceLT, nth, upd, put, storeN, AV.one, Nat.reduceBEq, Nat.reduceBNe, Int.reduceBEq, Int.reduceBNe, Int.reduceLE, Int.reduceEq, Int.reduceMod, Int.reduceNeg, boolBin, strBin, intBin, unA, fillA, ne_eq, reduceCtorEq, Nat.reduceAdd, Nat.reduceSub, Nat.reduceLeDiff, Nat.reduceLT, Nat.reduceEqDiff, Int.reduceToNat, eq_self, rulesT, rulesD, Act.g0, Act.g1, Act.g2, Act.g3, Act.g4, Act.len, Act.take, Act.all, *]
              | (refine allK_intro fun n hn => ?_; try simp only [fresh_set] at hn)
              | (refine ifK_intro (fun h => ?_) (fun h => ?_) <;> (try simp only [rulesE] at h) <;> try (exfalso; (try simp only [rulesF] at h); omega))
              | (refine keeps_sub (Mem.sub_set ?_) ?_; focus (simp [Mem.set_at, nomem, *]; done))
            refine call_at (C20_no D hD.some hD.most (St.a2 hX1) fr cnt a.first hopn) (St.s2 hX1) fun w m4 M4 ⟨hr, hm4⟩ s4 l4 => ?_
            subst hr
            subst hm4
            have hS := St.dev2 hX1 (St.a2 hX1) s4 l4
            have hb4 := (l4 n _ hn2x hb3).2
            replace hS : Kept _ := hS
            clear l4 s4 hb3
            repeat' first
              | simp -dsimp (disch := omega) only [↓rulesA, rulesB, rulesC, Int.reduceLT, nth, upd, put, storeN, AV.one, Nat.reduceBEq, Nat.reduceBNe, Int.reduceBEq, Int.reduceBNe, Int.reduceLE, Int.reduceEq, Int.reduceMod, Int.reduceNeg, boolBin, strBin, intBin, unA, fillA, ne_eq, reduceCtorEq, Nat.reduceAdd, Nat.reduceSub, Nat.reduceLeDiff, Nat.reduceLT, Nat.reduceEqDiff, Int.reduceToNat, eq_self, rulesT, rulesD, decide_true, Act.g0, Act.g1, Act.g2, Act.g3, Act.g4, Act.len, Act.take, Act.all, *]
              | (refine allK_intro fun n hn => ?_; try simp only [fresh_set] at hn)
              | (refine ifK_intro (fun h => ?_) (fun h => ?_) <;> (try simp only [rulesE] at h) <;> try (exfalso; (try simp only [rulesF] at h); omega))
              | (refine keeps_sub (Mem.sub_set ?_) ?_; focus (simp [Mem.set_at, nomem, *]; done))
              | (refine call_F (f13n) (.two .nilS .nilS) ?_)
              | (refine pure_F (f13n) (.two .nilS .nilS) ?_)
            replace hS : St _ _ _ _ _ _ _ _ _ _ _ := hS
            obtain ⟨R, hRe⟩ : ∃ R, R = r := ⟨r, rfl⟩
            rw [← hRe] at hS hrf hrc hra hrn
            clear hRe hX hX1
            have hRf : (R).f = fr := hrf
            have hRcc : (R).c = cnt := hrc
            have hRa' : (R).a ≤ cnt := hra
            have hRn : (R).n ≤ 4611686018427387905 := hrn
            have hRc : (R).c ≤ 4096 := by rw [hRcc]; omega
            have hRa : (R).a ≤ 8192 := by omega
            have hJe : (R).j.end_ ≤ 4096 := by show (R).f + (R).c ≤ 4096; rw [hRf, hRcc]; omega
            have hJa : (R).j.at_ ≤ 4096 := by show (R).f + (R).a ≤ 4096; rw [hRf]; omega
            obtain ⟨pk, hpk, -⟩ := hS.a2.seen hS.s2 0
            obtain ⟨pk2, hpk2, -⟩ := hS.a2.seen (Mem.sub.refl _) 0
            have hdv := hS.a1.seen hS.s1 0
            have hjs := jseen hS.a1 hS.s1 hS.cJ
            have hrs := rjseen hpk2 hS.s2 hS.cR
            have f25 := F25 D false false hD.some hD.most
            have f26 := F26 D pk false false hD.most
            have f12 := F12 R.j D false false
            have f27 := F27 R D pk2 false false
            have f15 := F15 R.j D false false hJe hJa
            have f28 := F28 R D pk2 false false hRc hRa
            have f29 := F29z a.n ha.2.2.1.2 ha.2.2.1.1
            have f30 := F30z a.n ha.2.2.1.2 ha.2.2.1.1
            have hjn : (R.j).next = R.n := rfl
            rw [hjn] at f12
            replace hS : Kept _ := hS
            clear hpk2
            repeat' first
              | simp -dsimp (disch := omega) only [↓rulesA, rulesB, rulesC, Int.reduceLT, nth, upd, put, storeN, AV.one, Nat.reduceBEq, Nat.reduceBNe, Int.reduceBEq, Int.reduceBNe, Int.reduceLE, Int.reduceEq, Int.reduceMod, Int.reduceNeg, boolBin, strBin, intBin, unA, fillA, ne_eq, reduceCtorEq, Nat.reduceAdd, Nat.reduceSub, Nat.reduceLeDiff, Nat.reduceLT, Nat.reduceEqDiff, Int.reduceToNat, eq_self, rulesT, rulesD, conv_img, bne_self_eq_false, Act.g0, Act.g1, Act.g2, Act.g3, Act.g4, Act.len, Act.take, Act.all, *]
              | (refine allK_intro fun n hn => ?_; try simp only [fresh_set] at hn)
              | (refine ifK_intro (fun h => ?_) (fun h => ?_) <;> (try simp only [rulesE] at h) <;> try (exfalso; (try simp only [rulesF] at h); omega))
              | (refine keeps_sub (Mem.sub_set ?_) ?_; focus (simp [Mem.set_at, nomem, *]; done))
              | (refine call_F (f25) (.one hdv) ?_)
              | (refine pure_F (f25) (.one hdv) ?_)
              | (refine call_F (f26) (.one hpk) ?_)
              | (refine pure_F (f26) (.one hpk) ?_)
              | (refine call_F (f12) (.one hjs) ?_)
              | (refine pure_F (f12) (.one hjs) ?_)
              | (refine call_F (f27) (.one hrs) ?_)
              | (refine pure_F (f27) (.one hrs) ?_)
              | (refine call_F (f15) (.one hjs) ?_)
              | (refine pure_F (f15) (.one hjs) ?_)
              | (refine call_F (f28) (.one hrs) ?_)
              | (refine pure_F (f28) (.one hrs) ?_)
              | (refine call_F (f29) (Seens.refl _ _) ?_)
              | (refine pure_F (f29) (Seens.refl _ _) ?_)
              | (refine call_F (f30) (Seens.refl _ _) ?_)
              | (refine pure_F (f30) (Seens.refl _ _) ?_)
            refine again_intro (l.length - (i + 1)) (by omega) _ (Mem.sub.refl _) ⟨i + 1, D, R, _, _, NJ, NR, by omega, rfl, hD, hDn, hDf, hRf, hRcc, hRa', hRn, hS, ?_, ?_, ?_, ?_, ?_, ?_, ?_, ?_, ?_, ?_⟩
            clear hdv hjs hrs hpk
            all_goals try (simp (disch := omega) only [nth_upd, pickB_true, pickB_false, inB_lt, upd_len, cast_succ, Int.cast_ofNat_Int, Nat.reduceBEq, beq_self_eq_true, reduceCtorEq, *]; done)
      · repeat' first
          | simp -dsimp (disch := omega) only [↓rulesA, rulesB, rulesC, Int.reduceLT, nth, upd, put, storeN, AV.one, Nat.reduceBEq, Nat.reduceBNe, Int.reduceBEq, Int.reduceBNe, Int.reduceLE, Int.reduceEq, Int.reduceMod, Int.reduceNeg, boolBin, strBin, intBin, unA, fillA, ne_eq, reduceCtorEq, Nat.reduceAdd, Nat.reduceSub, Nat.reduceLeDiff, Nat.reduceLT, Nat.reduceEqDiff, Int.reduceToNat, eq_self, rulesT, rulesD, *]
          | (refine allK_intro fun n hn => ?_; try simp only [fresh_set] at hn)
          | (refine ifK_intro (fun h => ?_) (fun h => ?_) <;> (try simp only [rulesE] at h) <;> try (exfalso; (try simp only [rulesF] at h); omega))
          | (refine keeps_sub (Mem.sub_set ?_) ?_; focus (simp [Mem.set_at, nomem, *]; done))
          | (refine call_F (F14) (Seens.refl _ _) ?_)
          | (refine pure_F (F14) (Seens.refl _ _) ?_)
        exact .val
    · refine call_at (C9_no d0 hok0.some hok0.most a1 fr0 cnt0 first0 hop) s1' fun r m3 M3 ⟨hr, hm3⟩ s3 l3 => ?_
      subst hr
      obtain ⟨s2', hap3⟩ := l3.keep s2 (Apart.symm hap)
      repeat' first
        | simp -dsimp (disch := omega) only [↓rulesA, rulesB, rulesC, Int.reduceLT, nth, upd, put, storeN, AV.one, Nat.reduceBEq, Nat.reduceBNe, Int.reduceBEq, Int.reduceBNe, Int.reduceLE, Int.reduceEq, Int.reduceMod, Int.reduceNeg, boolBin, strBin, intBin, unA, fillA, ne_eq, reduceCtorEq, Nat.reduceAdd, Nat.reduceSub, Nat.reduceLeDiff, Nat.reduceLT, Nat.reduceEqDiff, Int.reduceToNat, eq_self, rulesT, rulesD, *]
        | (refine allK_intro fun n hn => ?_; try simp only [fresh_set] at hn)
        | (refine ifK_intro (fun h => ?_) (fun h => ?_) <;> (try simp only [rulesE] at h) <;> try (exfalso; (try simp only [rulesF] at h); omega))
        | (refine keeps_sub (Mem.sub_set ?_) ?_; focus (simp [Mem.set_at, nomem, *]; done))
      refine call_at (C20_no d0 hok0.some hok0.most a2 fr0 cnt0 first0 hop) s2' fun r m4 M4 ⟨hr, hm4⟩ s4 l4 => ?_
      subst hr
      clear l3 l4 s3 s4 s2' hap3 hap a1 a2 hop hm3 hm4
      repeat' first
        | simp -dsimp (disch := omega) only [↓rulesA, rulesB, rulesC, Int.reduceLT, nth, upd, put, storeN, AV.one, Nat.reduceBEq, Nat.reduceBNe, Int.reduceBEq, Int.reduceBNe, Int.reduceLE, Int.reduceEq, Int.reduceMod, Int.reduceNeg, boolBin, strBin, intBin, unA, fillA, ne_eq, reduceCtorEq, Nat.reduceAdd, Nat.reduceSub, Nat.reduceLeDiff, Nat.reduceLT, Nat.reduceEqDiff, Int.reduceToNat, eq_self, rulesT, rulesD, decide_true, *]
        | (refine allK_intro fun n hn => ?_; try simp only [fresh_set] at hn)
        | (refine ifK_intro (fun h => ?_) (fun h => ?_) <;> (try simp only [rulesE] at h) <;> try (exfalso; (try simp only [rulesF] at h); omega))
        | (refine keeps_sub (Mem.sub_set ?_) ?_; focus (simp [Mem.set_at, nomem, *]; done))
        | (refine call_F (f13n) (.two .nilS .nilS) ?_)
        | (refine pure_F (f13n) (.two .nilS .nilS) ?_)
        | (refine call_F (F14) (Seens.refl _ _) ?_)
        | (refine pure_F (F14) (Seens.refl _ _) ?_)
      exact .val
  · repeat' first
      | simp -dsimp (disch := omega) only [↓rulesA, rulesB, rulesC, Int.reduceLT, nth, upd, put, storeN, AV.one, Nat.reduceBEq, Nat.reduceBNe, Int.reduceBEq, Int.reduceBNe, Int.reduceLE, Int.reduceEq, Int.reduceMod, Int.reduceNeg, boolBin, strBin, intBin, unA, fillA, ne_eq, reduceCtorEq, Nat.reduceAdd, Nat.reduceSub, Nat.reduceLeDiff, Nat.reduceLT, Nat.reduceEqDiff, Int.reduceToNat, eq_self, rulesT, rulesD, *]
      | (refine allK_intro fun n hn => ?_; try simp only [fresh_set] at hn)
      | (refine ifK_intro (fun h => ?_) (fun h => ?_) <;> (try simp only [rulesE] at h) <;> try (exfalso; (try simp only [rulesF] at h); omega))
      | (refine keeps_sub (Mem.sub_set ?_) ?_; focus (simp [Mem.set_at, nomem, *]; done))
    refine call_at (C18_no im false hk him) (nomem_sub _) fun r m1 M1 ⟨hr, _⟩ s1 _ => ?_
    subst hr
    repeat' first
      | simp -dsimp (disch := omega) only [↓rulesA, rulesB, rulesC, Int.reduceLT, nth, upd, put, storeN, AV.one, Nat.reduceBEq, Nat.reduceBNe, Int.reduceBEq, Int.reduceBNe, Int.reduceLE, Int.reduceEq, Int.reduceMod, Int.reduceNeg, boolBin, strBin, intBin, unA, fillA, ne_eq, reduceCtorEq, Nat.reduceAdd, Nat.reduceSub, Nat.reduceLeDiff, Nat.reduceLT, Nat.reduceEqDiff, Int.reduceToNat, eq_self, rulesT, rulesD, *]
      | (refine allK_intro fun n hn => ?_; try simp only [fresh_set] at hn)
      | (refine ifK_intro (fun h => ?_) (fun h => ?_) <;> (try simp only [rulesE] at h) <;> try (exfalso; (try simp only [rulesF] at h); omega))
      | (refine keeps_sub (Mem.sub_set ?_) ?_; focus (simp [Mem.set_at, nomem, *]; done))
    refine call_at (C19_no im false hk him) (nomem_sub _) fun r m2 M2 hr s2 hl2 => ?_
    subst hr
    repeat' first
      | simp -dsimp (disch := omega) only [↓rulesA, rulesB, rulesC, Int.reduceLT, nth, upd, put, storeN, AV.one, Nat.reduceBEq, Nat.reduceBNe, Int.reduceBEq, Int.reduceBNe, Int.reduceLE, Int.reduceEq, Int.reduceMod, Int.reduceNeg, boolBin, strBin, intBin, unA, fillA, ne_eq, reduceCtorEq, Nat.reduceAdd, Nat.reduceSub, Nat.reduceLeDiff, Nat.reduceLT, Nat.reduceEqDiff, Int.reduceToNat, eq_self, rulesT, rulesD, *]
      | (refine allK_intro fun n hn => ?_; try simp only [fresh_set] at hn)
      | (refine ifK_intro (fun h => ?_) (fun h => ?_) <;> (try simp only [rulesE] at h) <;> try (exfalso; (try simp only [rulesF] at h); omega))
      | (refine keeps_sub (Mem.sub_set ?_) ?_; focus (simp [Mem.set_at, nomem, *]; done))
      | (refine call_F (F14) (Seens.refl _ _) ?_)
      | (refine pure_F (F14) (Seens.refl _ _) ?_)
    exact .val
theorem plays_law : ∀ args, ShapedAll Try.prog Try.f7.params.toList args → F Try.prog 7 args (.val (.bool true)) := by
  intro args h
  have hp : Try.f7.params.toList = [44, 3, 3, 2, 45] := by kernel_rfl
  rw [hp] at h
  match args, h with
  | [a, b, c, d, e], ⟨h0, h1, h2, h3, h4, _⟩ =>
    obtain ⟨im, rfl, hi⟩ := Shaped.bytes ti_44 rfl ti_5 rfl rfl rfl (h0.one ti_44 rfl)
    obtain ⟨x, rfl, _⟩ := (h1.one ti_3 rfl).i64 ti_3 rfl
    obtain ⟨y, rfl, _⟩ := (h2.one ti_3 rfl).i64 ti_3 rfl
    obtain ⟨z, rfl, _⟩ := (h3.one ti_2 rfl).i64 ti_2 rfl
    obtain ⟨l, rfl, l1, _, l2⟩ := acts_of h4
    exact F7 im (by omega) x y z l l1 l2
end Go.Proofs.Ytlkeailgccbmbaa
