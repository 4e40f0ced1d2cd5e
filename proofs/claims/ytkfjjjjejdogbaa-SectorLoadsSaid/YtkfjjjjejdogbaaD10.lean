/- Package 05: the law SectorCut. -/
import Derived.Test.YtkfjjjjejdogbaaD9
set_option maxRecDepth 100000
set_option maxHeartbeats 1000000
set_option linter.unusedSimpArgs false
set_option linter.unusedVariables false
namespace Go.Proofs.Ytkfjjjjejdogbaa
open Go.Abs
attribute [local irreducible] C X CC Y CV CW binK litK AppK PureC PureCV againK loopV rangeV allK ifK got onB condK V stepsK planK opK firstK seeE keepsK

/-- A row of bytes, as an element. -/
def rowC (b : List UInt8) : List AV := [.vs (b.map byteC) false]
theorem ix_22 (l : List (List UInt8)) (x : Bool) (kk : IntKind) (k : Int) (h0 : 0 ≤ k) (h1 : k < l.length) : indexAddrA Try.prog 22 (.vs (l.map rowC) x) (.val (.int kk k)) = some (.vp (rowC (l.getD k.toNat default)) 0) := index_vs rowC ti_22 rfl ti_27 (fun _ => rfl) l x kk k h0 h1
theorem row_g0 (b : List UInt8) : (rowC b)[0]? = some (.vs (b.map byteC) false) := rfl
theorem tmod_nat (a b : Nat) : ((a : Int)).tmod (b : Int) = ((a % b : Nat) : Int) := rfl
theorem tmod8 (a : Nat) : ((a : Int)).tmod 8 = ((a % 8 : Nat) : Int) := rfl
theorem dup_of {x : AV} (h : ShapedV Try.prog 22 x) : ∃ l : List (List UInt8), x = .vs (l.map rowC) false ∧ l.length * 24 ≤ 140737488351232 ∧ ∀ b ∈ l, b.length ≤ 140737488351232 := by
  obtain ⟨l, e, h1, _, h2⟩ := Shaped.rows rowC (fun b => b.length ≤ 140737488351232) ti_22 rfl ti_27 rfl (fun x hx hl => by
    match x, hl with
    | [c], _ =>
      obtain ⟨b, rfl, hb⟩ := Shaped.bytes ti_27 rfl ti_5 rfl rfl rfl hx
      exact ⟨b, rfl, hb⟩) (h.one ti_22 rfl)
  exact ⟨l, e, h1, h2⟩
/-- The device behind i writes, where a cut was set behind c. -/
structure Cut (c i : Nat) (d : Dev) : Prop where
  ok : d.Ok
  n : d.laid.length = 8
  on : i ≤ c → d.dead = false ∧ d.set = true ∧ d.left = (c : Int) - i ∧ d.w = i
  off : c < i → d.dead = true ∧ d.w = c
theorem Cut.begin {c : Nat} (hc : c < 12) (p : Int) : Cut c 0 (cutD (newDev 8) c p) := by
  have e : cutD (newDev 8) c p = { newDev 8 with set := true, left := c, pick := p } := by
    unfold cutD; rw [if_neg (by decide), if_pos (by omega)]
  have hok : (newDev 8).Ok := newDev_ok (by decide) (by decide)
  refine ⟨Ok.cut hok (by omega), by rw [e]; rfl, fun _ => by rw [e]; exact ⟨rfl, rfl, by simp, rfl⟩, fun h => by omega⟩
theorem Cut.next {c i : Nat} {d : Dev} (h : Cut c i d) (b : List UInt8) : writeE d ((i % 8 : Nat) : Int) (fillS b).l = (if i < c then 0 else 22) ∧ Cut c (i + 1) (writeD d ((i % 8 : Nat) : Int) (fillS b).l) := by
  have hn := h.n
  have hr : ¬ (((i % 8 : Nat) : Int) < 0 ∨ (d.laid.length : Int) ≤ ((i % 8 : Nat) : Int)) := by omega
  have hl : ¬ (fillS b).l.length ≠ 64 := fun e => e (fillS b).h
  rcases Nat.lt_or_ge c i with hc | hc
  · obtain ⟨h1, h2⟩ := h.off hc
    have e : writeD d ((i % 8 : Nat) : Int) (fillS b).l = d := by unfold writeD; rw [if_pos h1]
    refine ⟨by unfold writeE; rw [if_pos h1, if_neg (by omega)], ?_⟩
    rw [e]
    exact ⟨h.ok, hn, fun h => by omega, fun _ => ⟨h1, h2⟩⟩
  · obtain ⟨h1, h2, h3, h4⟩ := h.on hc
    have h1' : ¬ d.dead = true := by rw [h1]; decide
    rcases Nat.lt_or_ge i c with hi | hi
    · have hs : ¬ (d.set = true ∧ d.left = 0) := fun e => by have := e.2; omega
      have e : writeD d ((i % 8 : Nat) : Int) (fillS b).l = countD (layD (lessD d) (i % 8) (fillS (fillS b).l)) := by unfold writeD; rw [if_neg h1', if_neg hr, if_neg hl, if_neg hs]; rfl
      have e2 : lessD d = { d with left := d.left - 1 } := by unfold lessD; rw [if_pos h2]
      refine ⟨by unfold writeE; rw [if_neg h1', if_neg hr, if_neg hl, if_neg hs, if_pos hi], Ok.write h.ok _ _, by rw [write_laid]; exact hn, fun _ => ?_, fun h => by omega⟩
      rw [e, e2]
      exact ⟨h1, h2, by show d.left - 1 = _; omega, by show d.w + 1 = _; omega⟩
    · have hic : i = c := by omega
      subst hic
      have hs : d.set = true ∧ d.left = 0 := ⟨h2, by omega⟩
      have e : writeD d ((i % 8 : Nat) : Int) (fillS b).l = loseD d d.pick := by unfold writeD; rw [if_neg h1', if_neg hr, if_neg hl, if_pos hs]
      refine ⟨by unfold writeE; rw [if_neg h1', if_neg hr, if_neg hl, if_pos hs, if_neg (by omega)], Ok.write h.ok _ _, by rw [write_laid]; exact hn, fun h => by omega, fun _ => ?_⟩
      rw [e]
      unfold loseD; rw [if_neg h1']
      exact ⟨rfl, h4⟩
theorem F3 (x : Int) (l : List (List UInt8)) (p : Int) (hl : l.length * 24 ≤ 140737488351232) (hb : ∀ b ∈ l, b.length ≤ 140737488351232) : F Try.prog 3 [.val (.int .i64 x), .vs (l.map rowC) false, .val (.int .u64 p)] (.val (.bool true)) := by
  obtain ⟨c, hc, ec⟩ : ∃ c : Nat, c < 12 ∧ (IntKind.u64.wrap x).tmod 12 = c := by
    rw [IntKind.wrap_u64]
    have h0 : 0 ≤ x % 18446744073709551616 := by omega
    have h1 := Int.tmod_nonneg 12 h0
    have h2 := Int.tmod_lt_of_pos (x % 18446744073709551616) (show (0 : Int) < 12 by decide)
    exact ⟨((x % 18446744073709551616).tmod 12).toNat, by omega, by omega⟩
  refine F3_of ?_
  unfold k3
  repeat' first
    | simp -dsimp (disch := omega) only [↓rulesA, rulesB, rulesC, Int.reduceLT, nth, upd, put, storeN, AV.one, Nat.reduceBEq, Nat.reduceBNe, Int.reduceBEq, Int.reduceBNe, Int.reduceLE, Int.reduceEq, Int.reduceMod, Int.reduceNeg, boolBin, strBin, intBin, unA, fillA, ne_eq, reduceCtorEq, Nat.reduceAdd, Nat.reduceSub, Nat.reduceLeDiff, Nat.reduceLT, Nat.reduceEqDiff, Int.reduceToNat, eq_self, rulesT, bne_self_eq_false, mm_min, mm_max, buOf_some, nilCheck_vp, nilCheck_ptr, nilCheck_yld, nilCheck_func, *]
    | (refine allK_intro fun n hn => ?_; try simp only [fresh_set] at hn)
    | (refine ifK_intro (fun h => ?_) (fun h => ?_) <;> (try simp only [decide_eq_true_eq, decide_eq_false_iff_not, Bool.not_eq_true', Bool.not_eq_false'] at h) <;> try (exfalso; (try simp only [beq_iff_eq, beq_eq_false_iff_ne, bne_iff_ne, bne_eq_false_iff_eq, ne_eq] at h); omega))
    | (refine keeps_sub (Mem.sub_set (by simp [Mem.set_at, nomem, *])) ?_)
  refine call_at (C8 8 (by decide) (by decide)) (nomem_sub _) fun r m1 M1 ⟨N, hr, a0⟩ s0 _ => ?_
  subst hr
  repeat' first
    | simp -dsimp (disch := omega) only [↓rulesA, rulesB, rulesC, Int.reduceLT, nth, upd, put, storeN, AV.one, Nat.reduceBEq, Nat.reduceBNe, Int.reduceBEq, Int.reduceBNe, Int.reduceLE, Int.reduceEq, Int.reduceMod, Int.reduceNeg, boolBin, strBin, intBin, unA, fillA, ne_eq, reduceCtorEq, Nat.reduceAdd, Nat.reduceSub, Nat.reduceLeDiff, Nat.reduceLT, Nat.reduceEqDiff, Int.reduceToNat, eq_self, rulesT, bne_self_eq_false, mm_min, mm_max, buOf_some, nilCheck_vp, nilCheck_ptr, nilCheck_yld, nilCheck_func, *]
    | (refine allK_intro fun n hn => ?_; try simp only [fresh_set] at hn)
    | (refine ifK_intro (fun h => ?_) (fun h => ?_) <;> (try simp only [decide_eq_true_eq, decide_eq_false_iff_not, Bool.not_eq_true', Bool.not_eq_false'] at h) <;> try (exfalso; (try simp only [beq_iff_eq, beq_eq_false_iff_ne, bne_iff_ne, bne_eq_false_iff_eq, ne_eq] at h); omega))
    | (refine keeps_sub (Mem.sub_set (by simp [Mem.set_at, nomem, *])) ?_)
  refine call_at (C9 _ (newDev_ok (by decide) (by decide) : (newDev 8).Ok).some a0 c p) s0 fun r m2 M2 ⟨hr, a1⟩ s1 _ => ?_
  subst hr
  repeat' first
    | simp -dsimp (disch := omega) only [↓rulesA, rulesB, rulesC, Int.reduceLT, nth, upd, put, storeN, AV.one, Nat.reduceBEq, Nat.reduceBNe, Int.reduceBEq, Int.reduceBNe, Int.reduceLE, Int.reduceEq, Int.reduceMod, Int.reduceNeg, boolBin, strBin, intBin, unA, fillA, ne_eq, reduceCtorEq, Nat.reduceAdd, Nat.reduceSub, Nat.reduceLeDiff, Nat.reduceLT, Nat.reduceEqDiff, Int.reduceToNat, eq_self, rulesT, bne_self_eq_false, mm_min, mm_max, buOf_some, nilCheck_vp, nilCheck_ptr, nilCheck_yld, nilCheck_func, *]
    | (refine allK_intro fun n hn => ?_; try simp only [fresh_set] at hn)
    | (refine ifK_intro (fun h => ?_) (fun h => ?_) <;> (try simp only [decide_eq_true_eq, decide_eq_false_iff_not, Bool.not_eq_true', Bool.not_eq_false'] at h) <;> try (exfalso; (try simp only [beq_iff_eq, beq_eq_false_iff_ne, bne_iff_ne, bne_eq_false_iff_eq, ne_eq] at h); omega))
    | (refine keeps_sub (Mem.sub_set (by simp [Mem.set_at, nomem, *])) ?_)
  refine loop_intro (fun j env m => ∃ (i : Nat) (d : Dev) (mI : Mem), i ≤ l.length ∧ j = l.length - i ∧ Cut c i d ∧ d.At N mI ∧ mI.sub m ∧ env.length = 81 ∧ nth env 0 = .val (.int .i64 c) ∧ nth env 1 = .vs (l.map rowC) false ∧ nth env 7 = .ptr N 0 ∧ nth env 8 = .val (.int .i64 ((min i c : Nat) : Int)) ∧
    nth env 25 = .vs (l.map rowC) false ∧ nth env 26 = .val (.int .i64 l.length) ∧ nth env 27 = .val (.int .i64 i)) l.length _ (Mem.sub.refl _) ⟨0, _, m2, by omega, by omega, Cut.begin hc p, a1, s1, rfl, rfl, rfl, rfl, by rw [Nat.zero_min]; rfl, rfl, rfl, rfl⟩ ?_
  clear a0 a1 s0 s1
  rintro j env m ⟨i, d, mI, hi, rfl, hcut, hat, hsub, hlen, e0, e1, e7, e8, e25, e26, e27⟩
  have hn := hcut.next (l.getD i default)
  have hw : d.w < 4611686018427387904 := by
    rcases Nat.lt_or_ge c i with h | h
    · have := (hcut.off h).2; omega
    · have := (hcut.on h).2.2.2; omega
  repeat' first
    | simp -dsimp (disch := omega) only [↓rulesA, rulesB, rulesC, Int.reduceLT, nth, upd, put, storeN, AV.one, Nat.reduceBEq, Nat.reduceBNe, Int.reduceBEq, Int.reduceBNe, Int.reduceLE, Int.reduceEq, Int.reduceMod, Int.reduceNeg, boolBin, strBin, intBin, unA, fillA, ne_eq, reduceCtorEq, Nat.reduceAdd, Nat.reduceSub, Nat.reduceLeDiff, Nat.reduceLT, Nat.reduceEqDiff, Int.reduceToNat, eq_self, rulesT, bne_self_eq_false, mm_min, mm_max, buOf_some, nilCheck_vp, nilCheck_ptr, nilCheck_yld, nilCheck_func, ix_22, row_g0, tmod8, *]
    | (refine allK_intro fun n hn => ?_; try simp only [fresh_set] at hn)
    | (refine ifK_intro (fun h => ?_) (fun h => ?_) <;> (try simp only [decide_eq_true_eq, decide_eq_false_iff_not, Bool.not_eq_true', Bool.not_eq_false'] at h) <;> try (exfalso; (try simp only [beq_iff_eq, beq_eq_false_iff_ne, bne_iff_ne, bne_eq_false_iff_eq, ne_eq] at h); omega))
    | (refine keeps_sub (Mem.sub_set (by simp [Mem.set_at, nomem, *])) ?_)
  · have hil : i < l.length := by omega
    refine call_F (F11 (l.getD i default) false) (Seens.refl _ _) ?_
    repeat' first
      | simp -dsimp (disch := omega) only [↓rulesA, rulesB, rulesC, Int.reduceLT, nth, upd, put, storeN, AV.one, Nat.reduceBEq, Nat.reduceBNe, Int.reduceBEq, Int.reduceBNe, Int.reduceLE, Int.reduceEq, Int.reduceMod, Int.reduceNeg, boolBin, strBin, intBin, unA, fillA, ne_eq, reduceCtorEq, Nat.reduceAdd, Nat.reduceSub, Nat.reduceLeDiff, Nat.reduceLT, Nat.reduceEqDiff, Int.reduceToNat, eq_self, rulesT, bne_self_eq_false, mm_min, mm_max, buOf_some, nilCheck_vp, nilCheck_ptr, nilCheck_yld, nilCheck_func, *]
      | (refine allK_intro fun n hn => ?_; try simp only [fresh_set] at hn)
      | (refine ifK_intro (fun h => ?_) (fun h => ?_) <;> (try simp only [decide_eq_true_eq, decide_eq_false_iff_not, Bool.not_eq_true', Bool.not_eq_false'] at h) <;> try (exfalso; (try simp only [beq_iff_eq, beq_eq_false_iff_ne, bne_iff_ne, bne_eq_false_iff_eq, ne_eq] at h); omega))
      | (refine keeps_sub (Mem.sub_set (by simp [Mem.set_at, nomem, *])) ?_)
    refine call_at (C10 d hcut.ok hat hw ((i % 8 : Nat) : Int) (fillS (l.getD i default)).l false (by rw [(fillS _).h]; decide)) hsub fun r m3 M3 ⟨hr, hat'⟩ hsub' _ => ?_
    subst hr
    have hcut' : Kept _ := hn.2
    rw [hn.1]
    clear hn hat hsub
    by_cases hic : i < c
    · rw [if_pos hic]
      have hdc : decide ((i : Int) < (c : Int)) = true := decide_eq_true (by omega)
      repeat' first
        | simp -dsimp (disch := omega) only [↓rulesA, rulesB, rulesC, Int.reduceLT, nth, upd, put, storeN, AV.one, Nat.reduceBEq, Nat.reduceBNe, Int.reduceBEq, Int.reduceBNe, Int.reduceLE, Int.reduceEq, Int.reduceMod, Int.reduceNeg, boolBin, strBin, intBin, unA, fillA, ne_eq, reduceCtorEq, Nat.reduceAdd, Nat.reduceSub, Nat.reduceLeDiff, Nat.reduceLT, Nat.reduceEqDiff, Int.reduceToNat, eq_self, rulesT, bne_self_eq_false, mm_min, mm_max, buOf_some, nilCheck_vp, nilCheck_ptr, nilCheck_yld, nilCheck_func, *]
        | (refine allK_intro fun n hn => ?_; try simp only [fresh_set] at hn)
        | (refine ifK_intro (fun h => ?_) (fun h => ?_) <;> (try simp only [decide_eq_true_eq, decide_eq_false_iff_not, Bool.not_eq_true', Bool.not_eq_false'] at h) <;> try (exfalso; (try simp only [beq_iff_eq, beq_eq_false_iff_ne, bne_iff_ne, bne_eq_false_iff_eq, ne_eq] at h); omega))
        | (refine keeps_sub (Mem.sub_set (by simp [Mem.set_at, nomem, *])) ?_)
      have em : ((min i c : Nat) : Int) + 1 = ((min (i + 1) c : Nat) : Int) := by omega
      refine again_intro (l.length - (i + 1)) (by omega) M3 (Mem.sub.refl _) ⟨i + 1, _, m3, by omega, rfl, hcut', hat', hsub', ?_, ?_, ?_, ?_, ?_, ?_, ?_, ?_⟩
      all_goals try (simp (disch := omega) only [nth_upd, pickB_true, pickB_false, inB_lt, upd_len, cast_succ, Nat.reduceBEq, beq_self_eq_true, reduceCtorEq, *]; done)
    · rw [if_neg hic]
      have hoff := hcut'.off (by omega)
      have hdc : decide ((i : Int) < (c : Int)) = false := decide_eq_false (by omega)
      repeat' first
        | simp -dsimp (disch := omega) only [↓rulesA, rulesB, rulesC, Int.reduceLT, nth, upd, put, storeN, AV.one, Nat.reduceBEq, Nat.reduceBNe, Int.reduceBEq, Int.reduceBNe, Int.reduceLE, Int.reduceEq, Int.reduceMod, Int.reduceNeg, boolBin, strBin, intBin, unA, fillA, ne_eq, reduceCtorEq, Nat.reduceAdd, Nat.reduceSub, Nat.reduceLeDiff, Nat.reduceLT, Nat.reduceEqDiff, Int.reduceToNat, eq_self, rulesT, bne_self_eq_false, mm_min, mm_max, buOf_some, nilCheck_vp, nilCheck_ptr, nilCheck_yld, nilCheck_func, *]
        | (refine allK_intro fun n hn => ?_; try simp only [fresh_set] at hn)
        | (refine ifK_intro (fun h => ?_) (fun h => ?_) <;> (try simp only [decide_eq_true_eq, decide_eq_false_iff_not, Bool.not_eq_true', Bool.not_eq_false'] at h) <;> try (exfalso; (try simp only [beq_iff_eq, beq_eq_false_iff_ne, bne_iff_ne, bne_eq_false_iff_eq, ne_eq] at h); omega))
        | (refine keeps_sub (Mem.sub_set (by simp [Mem.set_at, nomem, *])) ?_)
      refine call_F (F12 _ false false hcut'.ok.some) (.one (hat'.seen hsub' 0)) ?_
      rw [hoff.1]
      repeat' first
        | simp -dsimp (disch := omega) only [↓rulesA, rulesB, rulesC, Int.reduceLT, nth, upd, put, storeN, AV.one, Nat.reduceBEq, Nat.reduceBNe, Int.reduceBEq, Int.reduceBNe, Int.reduceLE, Int.reduceEq, Int.reduceMod, Int.reduceNeg, boolBin, strBin, intBin, unA, fillA, ne_eq, reduceCtorEq, Nat.reduceAdd, Nat.reduceSub, Nat.reduceLeDiff, Nat.reduceLT, Nat.reduceEqDiff, Int.reduceToNat, eq_self, rulesT, bne_self_eq_false, mm_min, mm_max, buOf_some, nilCheck_vp, nilCheck_ptr, nilCheck_yld, nilCheck_func, *]
        | (refine allK_intro fun n hn => ?_; try simp only [fresh_set] at hn)
        | (refine ifK_intro (fun h => ?_) (fun h => ?_) <;> (try simp only [decide_eq_true_eq, decide_eq_false_iff_not, Bool.not_eq_true', Bool.not_eq_false'] at h) <;> try (exfalso; (try simp only [beq_iff_eq, beq_eq_false_iff_ne, bne_iff_ne, bne_eq_false_iff_eq, ne_eq] at h); omega))
        | (refine keeps_sub (Mem.sub_set (by simp [Mem.set_at, nomem, *])) ?_)
      have em : ((min i c : Nat) : Int) = ((min (i + 1) c : Nat) : Int) := by omega
      refine again_intro (l.length - (i + 1)) (by omega) M3 (Mem.sub.refl _) ⟨i + 1, _, m3, by omega, rfl, hcut', hat', hsub', ?_, ?_, ?_, ?_, ?_, ?_, ?_, ?_⟩
      all_goals try (simp (disch := omega) only [nth_upd, pickB_true, pickB_false, inB_lt, upd_len, cast_succ, Nat.reduceBEq, beq_self_eq_true, reduceCtorEq, *]; done)
  · have hil : i = l.length := by omega
    subst hil
    refine call_F (F13 d false false hcut.ok.some) (.one (hat.seen hsub 0)) ?_
    have hw2 : (d.w : Int) = ((min l.length c : Nat) : Int) := by
      rcases Nat.lt_or_ge c l.length with h | h
      · have := (hcut.off h).2; omega
      · have := (hcut.on h).2.2.2; omega
    rw [hw2]
    have hmm : (if (l.length : Int) < (c : Int) then (l.length : Int) else (c : Int)) = ((min l.length c : Nat) : Int) := by split <;> omega
    repeat' first
      | simp -dsimp (disch := omega) only [↓rulesA, rulesB, rulesC, Int.reduceLT, nth, upd, put, storeN, AV.one, Nat.reduceBEq, Nat.reduceBNe, Int.reduceBEq, Int.reduceBNe, Int.reduceLE, Int.reduceEq, Int.reduceMod, Int.reduceNeg, boolBin, strBin, intBin, unA, fillA, ne_eq, reduceCtorEq, Nat.reduceAdd, Nat.reduceSub, Nat.reduceLeDiff, Nat.reduceLT, Nat.reduceEqDiff, Int.reduceToNat, eq_self, rulesT, bne_self_eq_false, mm_min, mm_max, buOf_some, nilCheck_vp, nilCheck_ptr, nilCheck_yld, nilCheck_func, *]
      | (refine allK_intro fun n hn => ?_; try simp only [fresh_set] at hn)
      | (refine ifK_intro (fun h => ?_) (fun h => ?_) <;> (try simp only [decide_eq_true_eq, decide_eq_false_iff_not, Bool.not_eq_true', Bool.not_eq_false'] at h) <;> try (exfalso; (try simp only [beq_iff_eq, beq_eq_false_iff_ne, bne_iff_ne, bne_eq_false_iff_eq, ne_eq] at h); omega))
      | (refine keeps_sub (Mem.sub_set (by simp [Mem.set_at, nomem, *])) ?_)
      | (refine call_F (F14) (Seens.refl _ _) ?_)
      | (refine pure_F (F14) (Seens.refl _ _) ?_)
    exact .val
theorem cut_law : ∀ args, ShapedAll Try.prog Try.f3.params.toList args → F Try.prog 3 args (.val (.bool true)) := by
  intro args h
  have hp : Try.f3.params.toList = [3, 22, 23] := by kernel_rfl
  rw [hp] at h
  match args, h with
  | [a, b, c], ⟨h0, h1, h2, _⟩ =>
    obtain ⟨x, rfl, _⟩ := (h0.one ti_3 rfl).i64 ti_3 rfl
    obtain ⟨l, rfl, l1, l2⟩ := dup_of h1
    obtain ⟨p, rfl, _⟩ := (h2.one ti_23 rfl).u64 ti_23 rfl
    exact F3 x l p l1 l2
end Go.Proofs.Ytkfjjjjejdogbaa

