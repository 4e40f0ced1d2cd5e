/- Package 20: the law DupPlays. -/
import Derived.Test.YtoankcclbnnfiaaD16
set_option maxRecDepth 100000
set_option maxHeartbeats 1000000
set_option linter.unusedSimpArgs false
set_option linter.unusedVariables false
namespace Go.Proofs.Ytoankcclbnnfiaa
open Go.Abs
attribute [local irreducible] C X CC Y CV CW binK litK AppK PureC PureCV againK loopV rangeV allK ifK got onB condK V stepsK planK opK firstK seeE keepsK

theorem ix_47 (l : List Int) (x : Bool) (kk : IntKind) (k : Int) (h0 : 0 ≤ k) (h1 : k < l.length) : indexAddrA Try.prog 47 (.vs (l.map ic) x) (.val (.int kk k)) = some (.vp (ic (l.getD k.toNat default)) 0) := index_vs ic ti_47 rfl ti_3 (fun _ => rfl) l x kk k h0 h1
theorem ic0 (v : Int) : (ic v)[0]? = some (.val (.int .i64 v)) := rfl
theorem F24 (l : List Int) (x x' : Bool) (hl : l.length ≤ 140737488355328) : F Try.prog 24 [.vs (l.map ic) x, .vs (l.map ic) x'] (.val (.bool true)) := by
  refine F24_of ?_
  unfold k24
  repeat' first
    | simp -dsimp (disch := omega) only [↓rulesA, rulesB, rulesC, Int.reduceLT, nth, upd, put, storeN, AV.one, Nat.reduceBEq, Nat.reduceBNe, Int.reduceBEq, Int.reduceBNe, Int.reduceLE, boolBin, strBin, intBin, unA, buildA, placesA, fillA, ne_eq, reduceCtorEq, Nat.reduceAdd, Nat.reduceSub, Nat.reduceLeDiff, Nat.reduceLT, Nat.reduceEqDiff, Int.reduceToNat, eq_self, rulesT, bne_self_eq_false, *]
    | (refine allK_intro fun n hn => ?_; try simp only [fresh_set] at hn)
    | (refine ifK_intro (fun h => ?_) (fun h => ?_) <;> (try simp only [decide_eq_true_eq, decide_eq_false_iff_not, Bool.not_eq_true', Bool.not_eq_false'] at h) <;> try (exfalso; (try simp only [beq_iff_eq, beq_eq_false_iff_ne, bne_iff_ne, bne_eq_false_iff_eq, ne_eq] at h); omega))
    | (refine keeps_sub (Mem.sub_set (by simp [Mem.set_at, nomem, *])) ?_)
  refine loop_intro (fun j env m => ∃ i : Nat, i ≤ l.length ∧ j = l.length - i ∧ m = nomem ∧ env.length = 26 ∧ nth env 0 = .vs (l.map ic) x ∧ nth env 1 = .vs (l.map ic) x' ∧ nth env 5 = .val (.int .i64 i)) l.length nomem (fun _ _ h => h) ⟨0, by omega, by omega, rfl, rfl, rfl, rfl, rfl⟩ ?_
  rintro j env m ⟨i, hi, rfl, rfl, hlen, e0, e1, e5⟩
  repeat' first
    | simp -dsimp (disch := omega) only [↓rulesA, rulesB, rulesC, Int.reduceLT, nth, upd, put, storeN, AV.one, Nat.reduceBEq, Nat.reduceBNe, Int.reduceBEq, Int.reduceBNe, Int.reduceLE, boolBin, strBin, intBin, unA, buildA, placesA, fillA, ne_eq, reduceCtorEq, Nat.reduceAdd, Nat.reduceSub, Nat.reduceLeDiff, Nat.reduceLT, Nat.reduceEqDiff, Int.reduceToNat, eq_self, rulesT, ix_47, ic0, bne_self_eq_false, *]
    | (refine allK_intro fun n hn => ?_; try simp only [fresh_set] at hn)
    | (refine ifK_intro (fun h => ?_) (fun h => ?_) <;> (try simp only [decide_eq_true_eq, decide_eq_false_iff_not, Bool.not_eq_true', Bool.not_eq_false'] at h) <;> try (exfalso; (try simp only [beq_iff_eq, beq_eq_false_iff_ne, bne_iff_ne, bne_eq_false_iff_eq, ne_eq] at h); omega))
    | (refine keeps_sub (Mem.sub_set (by simp [Mem.set_at, nomem, *])) ?_)
  · refine again_intro (l.length - (i + 1)) (by omega) nomem (nomem_sub _) ⟨i + 1, by omega, rfl, rfl, ?_, ?_, ?_, ?_⟩
    all_goals try (simp (disch := omega) only [nth_upd, pickB_true, pickB_false, inB_lt, upd_len, cast_succ, Nat.reduceBEq, beq_self_eq_true, reduceCtorEq, *]; done)
  · exact .val
theorem F6 (l : List Dup) (x : Bool) (rs : List Req) (y : Bool) (ress : List Res) (z : Bool) (hl : l.length ≤ 140737488355328) (hrs : rs.length * 8 ≤ 140737488355320) : F Try.prog 6 [.vs (l.map Dup.cells) x, .vs (rs.map Req.cells) y, .vs (ress.map Res.cells) z] (.val (.bool true)) := by
  have h9 := F9 l x hl
  have h11 := F11
  cases hfit : fitB l with
  | false =>
    refine F6_of ?_
    unfold k6
    repeat' first
      | simp -dsimp (disch := omega) only [↓rulesA, rulesB, rulesC, Int.reduceLT, nth, upd, put, storeN, AV.one, Nat.reduceBEq, Nat.reduceBNe, Int.reduceBEq, Int.reduceBNe, Int.reduceLE, boolBin, strBin, intBin, unA, buildA, placesA, fillA, ne_eq, reduceCtorEq, Nat.reduceAdd, Nat.reduceSub, Nat.reduceLeDiff, Nat.reduceLT, Nat.reduceEqDiff, Int.reduceToNat, eq_self, rulesT, *]
      | (refine allK_intro fun n hn => ?_; try simp only [fresh_set] at hn)
      | (refine ifK_intro (fun h => ?_) (fun h => ?_) <;> (try simp only [decide_eq_true_eq, decide_eq_false_iff_not, Bool.not_eq_true', Bool.not_eq_false'] at h) <;> try (exfalso; (try simp only [beq_iff_eq, beq_eq_false_iff_ne, bne_iff_ne, bne_eq_false_iff_eq, ne_eq] at h); omega))
      | (refine keeps_sub (Mem.sub_set (by simp [Mem.set_at, nomem, *])) ?_)
      | (refine call_F (h9) (Seens.refl _ _) ?_)
      | (refine pure_F (h9) (Seens.refl _ _) ?_)
      | (refine call_F (h11) (Seens.refl _ _) ?_)
      | (refine pure_F (h11) (Seens.refl _ _) ?_)
    exact .val
  | true =>
  have hf := (fit_iff l).1 hfit
  have h22 := F22 hf x rs y ress z hrs
  have h23 := F23 hf x rs y ress z hrs
  have hpf := play_fit hf rs ress rs.length
  have h16 := F16 (playTo l rs ress rs.length).1 (playTo l rs ress rs.length).1 false false hpf.small.2
  rw [samesB_self] at h16
  have h24 := F24 (playTo l rs ress rs.length).2 false false (by rw [play_len]; omega)
  refine F6_of ?_
  unfold k6
  repeat' first
    | simp -dsimp (disch := omega) only [↓rulesA, rulesB, rulesC, Int.reduceLT, nth, upd, put, storeN, AV.one, Nat.reduceBEq, Nat.reduceBNe, Int.reduceBEq, Int.reduceBNe, Int.reduceLE, boolBin, strBin, intBin, unA, buildA, placesA, fillA, ne_eq, reduceCtorEq, Nat.reduceAdd, Nat.reduceSub, Nat.reduceLeDiff, Nat.reduceLT, Nat.reduceEqDiff, Int.reduceToNat, eq_self, rulesT, *]
    | (refine allK_intro fun n hn => ?_; try simp only [fresh_set] at hn)
    | (refine ifK_intro (fun h => ?_) (fun h => ?_) <;> (try simp only [decide_eq_true_eq, decide_eq_false_iff_not, Bool.not_eq_true', Bool.not_eq_false'] at h) <;> try (exfalso; (try simp only [beq_iff_eq, beq_eq_false_iff_ne, bne_iff_ne, bne_eq_false_iff_eq, ne_eq] at h); omega))
    | (refine keeps_sub (Mem.sub_set (by simp [Mem.set_at, nomem, *])) ?_)
    | (refine call_F (h9) (Seens.refl _ _) ?_)
    | (refine pure_F (h9) (Seens.refl _ _) ?_)
    | (refine call_F (h11) (Seens.refl _ _) ?_)
    | (refine pure_F (h11) (Seens.refl _ _) ?_)
    | (refine call_F (h22) (Seens.refl _ _) ?_)
    | (refine pure_F (h22) (Seens.refl _ _) ?_)
    | (refine call_F (h23) (Seens.refl _ _) ?_)
    | (refine pure_F (h23) (Seens.refl _ _) ?_)
    | (refine call_F (h16) (Seens.refl _ _) ?_)
    | (refine pure_F (h16) (Seens.refl _ _) ?_)
    | (refine call_F (h24) (Seens.refl _ _) ?_)
    | (refine pure_F (h24) (Seens.refl _ _) ?_)
  exact .val
theorem reqs_of {c : AV} (h : ShapedV Try.prog 41 c) : ∃ l : List Req, c = .vs (l.map Req.cells) false ∧ l.length * 80 ≤ 140737488351232 ∧ l.length ≤ 9223372036854775807 ∧ ∀ d ∈ l, d.ok :=
  Shaped.rows Req.cells Req.ok ti_41 rfl ti_26 rfl (fun _ h => Req.of_shaped h) (h.one ti_41 rfl)
theorem ress_of {c : AV} (h : ShapedV Try.prog 42 c) : ∃ l : List Res, c = .vs (l.map Res.cells) false ∧ l.length * 40 ≤ 140737488351232 ∧ l.length ≤ 9223372036854775807 ∧ ∀ d ∈ l, d.ok :=
  Shaped.rows Res.cells Res.ok ti_42 rfl ti_29 rfl (fun _ h => Res.of_shaped h) (h.one ti_42 rfl)
theorem plays_law : ∀ args, ShapedAll Try.prog Try.f6.params.toList args → F Try.prog 6 args (.val (.bool true)) := by
  intro args h
  have hp : Try.f6.params.toList = [22, 41, 42] := by kernel_rfl
  rw [hp] at h
  match args, h with
  | [a, b, c], ⟨h0, h1, h2, _⟩ =>
    obtain ⟨l, rfl, l1, _⟩ := dups_of h0
    obtain ⟨rs, rfl, l2, _⟩ := reqs_of h1
    obtain ⟨res, rfl, _⟩ := ress_of h2
    exact F6 l false rs false res false (by omega) (by omega)
end Go.Proofs.Ytoankcclbnnfiaa

