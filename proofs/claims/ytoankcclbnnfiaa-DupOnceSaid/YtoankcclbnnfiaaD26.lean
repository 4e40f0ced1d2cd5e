/- Package 20: a request is new once: the plain law. -/
import Derived.Test.YtoankcclbnnfiaaD25
set_option maxRecDepth 100000
set_option maxHeartbeats 1000000
set_option linter.unusedSimpArgs false
set_option linter.unusedVariables false
namespace Go.Proofs.Ytoankcclbnnfiaa
open Go.Abs
attribute [local irreducible] C X CC Y CV CW binK litK AppK PureC PureCV againK loopV rangeV allK ifK got onB condK V stepsK planK opK firstK seeE keepsK

def fnd (l : List Dup) (c : Int) : Bool := foundB l c (pl l c)
def fnx (l : List Dup) (c : Int) : Dup := findB l c (pl l c)
theorem fnd_nil (c : Int) : fnd [] c = false := by simp [fnd, found_nil]
theorem fnd_lt {y : Dup} {c : Int} (l : List Dup) (h : y.client < c) : fnd (y :: l) c = fnd l c := by unfold fnd; rw [pl_lt l h, found_succ]
theorem fnd_eq {y : Dup} {c : Int} (l : List Dup) (h : y.client = c) : fnd (y :: l) c = true := by unfold fnd; rw [pl_ge l (by omega), found_zero, h]; simp
theorem fnd_gt {y : Dup} {c : Int} (l : List Dup) (h : c < y.client) : fnd (y :: l) c = false := by unfold fnd; rw [pl_ge l (by omega), found_zero]; simp; omega
theorem fnx_lt {y : Dup} {c : Int} (l : List Dup) (h : y.client < c) : fnx (y :: l) c = fnx l c := by unfold fnx; rw [pl_lt l h, find_succ]
theorem fnx_eq {y : Dup} {c : Int} (l : List Dup) (h : y.client = c) : fnx (y :: l) c = y := by unfold fnx; rw [pl_ge l (by omega), find_zero l h]
theorem put_own (d : Dup) : ∀ l : List Dup, fnd (putd l d) d.client = true ∧ fnx (putd l d) d.client = d
  | [] => by rw [put_nil]; exact ⟨fnd_eq _ rfl, fnx_eq _ rfl⟩
  | y :: l => by
    rcases Int.lt_trichotomy y.client d.client with g | g | g
    · rw [put_lt l g, fnd_lt _ g, fnx_lt _ g]; exact put_own d l
    · rw [put_eq l g.symm]; exact ⟨fnd_eq _ rfl, fnx_eq _ rfl⟩
    · rw [put_gt l g]; exact ⟨fnd_eq _ rfl, fnx_eq _ rfl⟩
theorem put_keeps (d : Dup) : ∀ {l : List Dup}, fnd l d.client = true → (putd l d).length = l.length ∧ ∀ c, fnd (putd l d) c = fnd l c
  | [], h => by rw [fnd_nil] at h; cases h
  | y :: l, h => by
    rcases Int.lt_trichotomy y.client d.client with g | g | g
    · rw [fnd_lt _ g] at h
      obtain ⟨h1, h2⟩ := put_keeps d h
      rw [put_lt l g]
      refine ⟨by simp [h1], fun c => ?_⟩
      rcases Int.lt_trichotomy y.client c with k | k | k
      · rw [fnd_lt _ k, fnd_lt _ k, h2]
      · rw [fnd_eq _ k, fnd_eq _ k]
      · rw [fnd_gt _ k, fnd_gt _ k]
    · rw [put_eq l g.symm]
      refine ⟨rfl, fun c => ?_⟩
      rcases Int.lt_trichotomy y.client c with k | k | k
      · rw [fnd_lt _ (by omega), fnd_lt _ k]
      · rw [fnd_eq _ (by omega), fnd_eq _ k]
      · rw [fnd_gt _ (by omega), fnd_gt _ k]
    · rw [fnd_gt _ g] at h; cases h
theorem put_cond {d e : Dup} : ∀ {l : List Dup}, condB l e = false → condB l d = true → condB (putd l d) e = false
  | [], h, _ => by rw [cond_nil] at h; cases h
  | y :: l, h, hd => by
    rcases Int.lt_trichotomy y.client e.client with k | k | k
    · rw [cond_lt l k] at h
      rcases Int.lt_trichotomy y.client d.client with g | g | g
      · rw [put_lt l g, cond_lt _ k]
        rw [cond_lt l g] at hd
        exact put_cond h hd
      · rw [put_eq l g.symm, cond_lt _ (by omega)]; exact h
      · rw [put_gt l g, cond_lt _ (by omega), cond_lt _ k]; exact h
    · rw [cond_eq l k.symm] at h
      rcases Int.lt_trichotomy y.client d.client with g | g | g
      · rw [put_lt l g, cond_eq _ k.symm]; exact h
      · rw [put_eq l g.symm, cond_eq _ (by omega)]
        rw [cond_eq l g.symm] at hd
        cases hq : laterB e.inst e.tid d.inst d.tid with
        | false => rfl
        | true => rw [later_trans hq hd] at h; cases h
      · rw [put_gt l g, cond_lt _ (by omega), cond_eq _ k.symm]; exact h
    · rw [cond_gt l k] at h; cases h
theorem put_self {d e : Dup} (h1 : e.client = d.client) (h2 : e.inst = d.inst) (h3 : e.tid = d.tid) : ∀ l : List Dup, condB (putd l d) e = false
  | [] => by rw [put_nil, cond_eq _ h1, h2, h3, later_irrefl]
  | y :: l => by
    rcases Int.lt_trichotomy y.client d.client with g | g | g
    · rw [put_lt l g, cond_lt _ (by omega)]; exact put_self h1 h2 h3 l
    · rw [put_eq l g.symm, cond_eq _ h1, h2, h3, later_irrefl]
    · rw [put_gt l g, cond_eq _ h1, h2, h3, later_irrefl]
theorem what_iff (l : List Dup) (q : Req) : what l q = 1 ↔ condB l (dupOf q r0) = true ∧ (fnd l q.client = true ∨ l.length < 16) := by
  show whatB l.length (fnd l q.client) (fnx l q.client) q = 1 ↔ (!fnd l q.client || laterB q.inst q.tid (fnx l q.client).inst (fnx l q.client).tid) = true ∧ _
  unfold whatB
  cases fnd l q.client <;> cases laterB q.inst q.tid (fnx l q.client).inst (fnx l q.client).tid <;> simp
  · omega
  · omega
  · split <;> simp
/-- What is not new stays so. -/
theorem once_keeps {l : List Dup} {q r : Req} {res : Res} (h : what l q ≠ 1) : what (note l r res) q ≠ 1 := by
  by_cases hr : what l r = 1
  · rw [note_new hr]
    have hc := what_cond (res := res) hr
    intro h'
    rw [what_iff] at h'
    obtain ⟨a, b⟩ := h'
    cases hq : condB l (dupOf q r0) with
    | false => rw [put_cond hq hc] at a; cases a
    | true =>
      have hn : ¬ (fnd l q.client = true ∨ l.length < 16) := fun g => h ((what_iff l q).2 ⟨hq, g⟩)
      rcases ((what_iff l r).1 hr).2 with g | g
      · obtain ⟨k1, k2⟩ := put_keeps (dupOf r res) g
        rw [k1, k2] at b
        exact hn b
      · exact hn (.inr g)
  · rw [note_same hr]; exact h
theorem once_noted (l : List Dup) {q r : Req} (res : Res) (h1 : q.client = r.client) (h2 : q.inst = r.inst) (h3 : q.tid = r.tid) : what (note l r res) q ≠ 1 := by
  have e : what l q = what l r := by
    unfold what whatB; rw [h1, h2, h3]
  by_cases hr : what l r = 1
  · rw [note_new hr]
    intro h'
    rw [what_iff] at h'
    rw [put_self (d := dupOf r res) h1 h2 h3] at h'
    cases h'.1
  · rw [note_same hr, e]; exact hr
/-- Every request that came before is not new now. -/
theorem once_all (l : List Dup) (rs : List Req) (ress : List Res) : ∀ i k, k < i → reqB (rs.getD k default) = true → what (playTo l rs ress i).1 (rs.getD k default) ≠ 1
  | 0, k, h, _ => by omega
  | i + 1, k, h, hq => by
    by_cases e : k = i
    · subst e
      unfold playTo
      rw [if_pos hq]
      exact once_noted _ _ rfl rfl rfl
    · have := once_all l rs ress i k (by omega) hq
      unfold playTo
      split
      · exact once_keeps this
      · exact this
theorem what_same {l : List Dup} {q r : Req} (h1 : q.client = r.client) (h2 : q.inst = r.inst) (h3 : q.tid = r.tid) : what l q = what l r := by unfold what whatB; rw [h1, h2, h3]
theorem what_all (l : List Dup) (r : Req) : what l r = 1 ∨ what l r = 2 ∨ what l r = 3 ∨ what l r = 4 := by
  unfold what whatB
  split
  · simp
  · split
    · simp
    · split <;> simp
theorem what_two {l : List Dup} {r : Req} (h : what l r = 2) : fnd l r.client = true ∧ (fnx l r.client).res = was l r := by
  constructor
  · cases hf : fnd l r.client with
    | true => rfl
    | false =>
      have : what l r = whatB l.length (fnd l r.client) (fnx l r.client) r := rfl
      rw [this, hf] at h
      unfold whatB at h
      split at h
      · cases h
      · simp at h
  · show _ = wasB l.length (fnd l r.client) (fnx l r.client) r
    unfold wasB
    rw [if_pos (show whatB l.length (fnd l r.client) (fnx l r.client) r = 2 from h)]
def Holds (m : Mem) (v : AV) (l : List Dup) : Prop := (m = nomem ∧ v = .vs (l.map Dup.cells) false) ∨ (∃ n, m = nomem.set n (.cells true 39 (l.map Dup.cells).flatten) ∧ v = .sl n 0 l.length l.length)
theorem Holds.seen {m M : Mem} {v : AV} {l : List Dup} (h : Holds m v l) (hs : m.sub M) : Seen M v (.vs (l.map Dup.cells) false) := by
  rcases h with ⟨rfl, rfl⟩ | ⟨n, rfl, rfl⟩
  · exact .same
  · exact Seen.row Dup.cells (s := 7) (opn := true) (t := 39) (fun _ => rfl) _ (hs _ _ (Mem.set_same _ _ _))
theorem J19 {l : List Dup} (h : Fit l) (x : Bool) (c : Int) : F Try.prog 19 [.vs (l.map Dup.cells) x, .val (.int .i64 c)] (.tup [.agg (fnx l c).cells, .val (.bool (fnd l c))]) := let ⟨a, b, k⟩ := pl_spec h c; F19 l x c h.small.2 _ a b k
theorem rsame_self (d : Res) : d.same d = true := by unfold Res.same; simp
theorem F4 (l : List Dup) (x : Bool) (rs : List Req) (y : Bool) (ress : List Res) (z : Bool) (hl : l.length * 64 ≤ 140737488351232) (hrs : rs.length * 8 ≤ 140737488355320) : F Try.prog 4 [.vs (l.map Dup.cells) x, .vs (rs.map Req.cells) y, .vs (ress.map Res.cells) z] (.val (.bool true)) := by
  have h9 := F9 l x (by omega)
  have h11 := F11
  have h12 := F12 l x (by omega)
  cases hfit : fitB l with
  | false =>
    rw [hfit] at h9
    refine F4_of ?_
    unfold k4
    repeat' first
      | simp -dsimp (disch := omega) only [↓rulesA, rulesB, rulesC, Int.reduceLT, nth, upd, put, storeN, AV.one, Nat.reduceBEq, Nat.reduceBNe, Int.reduceBEq, Int.reduceBNe, Int.reduceLE, boolBin, strBin, intBin, unA, buildA, placesA, fillA, ne_eq, reduceCtorEq, Nat.reduceAdd, Nat.reduceSub, Nat.reduceLeDiff, Nat.reduceLT, Nat.reduceEqDiff, Int.reduceToNat, eq_self, rulesT, *]
      | (refine allK_intro fun n hn => ?_; try simp only [fresh_set] at hn)
      | (refine ifK_intro (fun h => ?_) (fun h => ?_) <;> (try simp only [decide_eq_true_eq, decide_eq_false_iff_not, Bool.not_eq_true', Bool.not_eq_false'] at h) <;> try (exfalso; (try simp only [beq_iff_eq, beq_eq_false_iff_ne, bne_iff_ne, bne_eq_false_iff_eq, ne_eq] at h); omega))
      | (refine keeps_sub (Mem.sub_set (by simp [Mem.set_at, nomem, *])) ?_)
      | (refine call_F (h9) (Seens.refl _ _) ?_)
      | (refine pure_F (h9) (Seens.refl _ _) ?_)
      | (refine call_F (h11) (Seens.refl _ _) ?_)
      | (refine pure_F (h11) (Seens.refl _ _) ?_)
    exact .val
  | true =>
  rw [hfit] at h9
  have hf := (fit_iff l).1 hfit
  refine F4_of ?_
  unfold k4
  repeat' first
    | simp -dsimp (disch := omega) only [↓rulesA, rulesB, rulesC, Int.reduceLT, nth, upd, put, storeN, AV.one, Nat.reduceBEq, Nat.reduceBNe, Int.reduceBEq, Int.reduceBNe, Int.reduceLE, boolBin, strBin, intBin, unA, buildA, placesA, fillA, ne_eq, reduceCtorEq, Nat.reduceAdd, Nat.reduceSub, Nat.reduceLeDiff, Nat.reduceLT, Nat.reduceEqDiff, Int.reduceToNat, eq_self, rulesT, *]
    | (refine allK_intro fun n hn => ?_; try simp only [fresh_set] at hn)
    | (refine ifK_intro (fun h => ?_) (fun h => ?_) <;> (try simp only [decide_eq_true_eq, decide_eq_false_iff_not, Bool.not_eq_true', Bool.not_eq_false'] at h) <;> try (exfalso; (try simp only [beq_iff_eq, beq_eq_false_iff_ne, bne_iff_ne, bne_eq_false_iff_eq, ne_eq] at h); omega))
    | (refine keeps_sub (Mem.sub_set (by simp [Mem.set_at, nomem, *])) ?_)
    | (refine call_F (h9) (Seens.refl _ _) ?_)
    | (refine pure_F (h9) (Seens.refl _ _) ?_)
    | (refine call_F (h12) (Seens.refl _ _) ?_)
    | (refine pure_F (h12) (Seens.refl _ _) ?_)
  refine loop_intro (fun j env m => ∃ (i : Nat), i ≤ rs.length ∧ j = rs.length - i ∧ Holds m (nth env 7) (playTo l rs ress i).1 ∧ env.length = 141 ∧ nth env 1 = .vs (rs.map Req.cells) y ∧ nth env 2 = .vs (ress.map Res.cells) z ∧ nth env 8 = .val (.int .i64 i)) rs.length nomem (fun _ _ h => h) ⟨0, by omega, by omega, .inl ⟨rfl, rfl⟩, rfl, rfl, rfl, rfl⟩ ?_
  rintro j env m ⟨i, hi, rfl, hh, hlen, e1, e2, e8⟩
  have hpf := play_fit hf rs ress i
  obtain ⟨v, e7⟩ : ∃ v, nth env 7 = v := ⟨_, rfl⟩
  rw [e7] at hh
  repeat' first
    | simp -dsimp (disch := omega) only [↓rulesA, rulesB, rulesC, Int.reduceLT, nth, upd, put, storeN, AV.one, Nat.reduceBEq, Nat.reduceBNe, Int.reduceBEq, Int.reduceBNe, Int.reduceLE, boolBin, strBin, intBin, unA, buildA, placesA, fillA, ne_eq, reduceCtorEq, Nat.reduceAdd, Nat.reduceSub, Nat.reduceLeDiff, Nat.reduceLT, Nat.reduceEqDiff, Int.reduceToNat, eq_self, rulesT, ix_41, ix_42, Req.g0, Req.g1, Req.g2, Req.g3, Req.g4, Req.g5, Req.g6, Req.g7, Req.len, Req.take, Req.all, Req.drop, Req.sall, Req.slit, Res.g0, Res.g1, Res.g2, Res.g3, Res.len, Res.all, Res.take, Res.drop, Res.sall, Res.slit, *]
    | (refine allK_intro fun n hn => ?_; try simp only [fresh_set] at hn)
    | (refine ifK_intro (fun h => ?_) (fun h => ?_) <;> (try simp only [decide_eq_true_eq, decide_eq_false_iff_not, Bool.not_eq_true', Bool.not_eq_false'] at h) <;> try (exfalso; (try simp only [beq_iff_eq, beq_eq_false_iff_ne, bne_iff_ne, bne_eq_false_iff_eq, ne_eq] at h); omega))
    | (refine keeps_sub (Mem.sub_set (by simp [Mem.set_at, nomem, *])) ?_)
    | (refine call_F (F10 _) (Seens.refl _ _) ?_)
    | (refine pure_F (F10 _) (Seens.refl _ _) ?_)
  · have e := playTo_no (l := l) (ress := ress) (show reqB (rs.getD i default) = false from ‹_›)
    refine again_intro (rs.length - (i + 1)) (by omega) m (Mem.sub_set (by assumption)) ⟨i + 1, by omega, rfl, ?_, ?_, ?_, ?_, ?_⟩
    · rw [e]
      show Holds m _ (playTo l rs ress i).1
      simp (disch := omega) only [nth_upd, pickB_true, pickB_false, inB_lt, upd_len, Nat.reduceBEq, beq_self_eq_true, *]
    all_goals try (simp (disch := omega) only [nth_upd, pickB_true, pickB_false, inB_lt, upd_len, cast_succ, Nat.reduceBEq, beq_self_eq_true, reduceCtorEq, *]; done)
  · have e := playTo_yes (l := l) (ress := ress) (show reqB (rs.getD i default) = true from ‹_›)
    obtain ⟨n9, e9⟩ : ∃ q, q = n := ⟨n, rfl⟩
    subst e9
    have hn9 := hn
    clear hn
    refine call_F (J13 hpf false (rs.getD i default)) (Seens.cons (hh.seen (Mem.sub_set hn9)) (Seens.refl _ _)) ?_
    repeat' first
      | simp -dsimp (disch := omega) only [↓rulesA, rulesB, rulesC, Int.reduceLT, nth, upd, put, storeN, AV.one, Nat.reduceBEq, Nat.reduceBNe, Int.reduceBEq, Int.reduceBNe, Int.reduceLE, boolBin, strBin, intBin, unA, buildA, placesA, fillA, ne_eq, reduceCtorEq, Nat.reduceAdd, Nat.reduceSub, Nat.reduceLeDiff, Nat.reduceLT, Nat.reduceEqDiff, Int.reduceToNat, eq_self, rulesT, ix_41, ix_42, Req.g0, Req.g1, Req.g2, Req.g3, Req.g4, Req.g5, Req.g6, Req.g7, Req.len, Req.take, Req.all, Req.drop, Req.sall, Req.slit, Res.g0, Res.g1, Res.g2, Res.g3, Res.len, Res.all, Res.take, Res.drop, Res.sall, Res.slit, *]
      | (refine allK_intro fun n hn => ?_; try simp only [fresh_set] at hn)
      | (refine ifK_intro (fun h => ?_) (fun h => ?_) <;> (try simp only [decide_eq_true_eq, decide_eq_false_iff_not, Bool.not_eq_true', Bool.not_eq_false'] at h) <;> try (exfalso; (try simp only [beq_iff_eq, beq_eq_false_iff_ne, bne_iff_ne, bne_eq_false_iff_eq, ne_eq] at h); omega))
      | (refine keeps_sub (Mem.sub_set (by simp [Mem.set_at, nomem, *])) ?_)
    obtain ⟨n11, e11⟩ : ∃ q, q = n := ⟨n, rfl⟩
    subst e11
    obtain ⟨hne, hne', hn11⟩ := hn
    have hia : i < rs.length := by omega
    refine loop_intro (fun j env mm => ∃ (k : Nat), k ≤ i ∧ j = i - k ∧ mm = (m.set n9 (.cells false 26 (rs.getD i default).cells)).set n11 (.cells false 29 (was (playTo l rs ress i).1 (rs.getD i default)).cells) ∧ env.length = 141 ∧ nth env 1 = .vs (rs.map Req.cells) y ∧ nth env 2 = .vs (ress.map Res.cells) z ∧ nth env 7 = v ∧ nth env 8 = .val (.int .i64 i) ∧ nth env 9 = .ptr n9 0 ∧
      nth env 10 = .val (.int .i64 (what (playTo l rs ress i).1 (rs.getD i default))) ∧ nth env 11 = .ptr n11 0 ∧ nth env 12 = .val (.int .i64 k)) i _ (Mem.sub.refl _) ⟨0, by omega, by omega, rfl, ?_, ?_, ?_, ?_, ?_, ?_, ?_, ?_, ?_⟩ ?_
    · simp only [upd_len]; exact hlen
    all_goals try (simp (disch := omega) only [nth_upd, pickB_true, pickB_false, inB_lt, upd_len, cast_succ, Nat.reduceBEq, beq_self_eq_true, reduceCtorEq, *]; done)
    · rw [show ((0 : Nat) : Int) = 0 from rfl]
      all_goals try (simp (disch := omega) only [nth_upd, pickB_true, pickB_false, inB_lt, upd_len, cast_succ, Nat.reduceBEq, beq_self_eq_true, reduceCtorEq, *]; done)
    clear hlen e1 e2 e7 e8 env
    rintro j env mm ⟨k, hk, rfl, rfl, hlen, e1, e2, e7, e8, e9, e10, e11, e12⟩
    repeat' first
      | simp -dsimp (disch := omega) only [↓rulesA, rulesB, rulesC, Int.reduceLT, nth, upd, put, storeN, AV.one, Nat.reduceBEq, Nat.reduceBNe, Int.reduceBEq, Int.reduceBNe, Int.reduceLE, boolBin, strBin, intBin, unA, buildA, placesA, fillA, ne_eq, reduceCtorEq, Nat.reduceAdd, Nat.reduceSub, Nat.reduceLeDiff, Nat.reduceLT, Nat.reduceEqDiff, Int.reduceToNat, eq_self, rulesT, ix_41, ix_42, Req.g0, Req.g1, Req.g2, Req.g3, Req.g4, Req.g5, Req.g6, Req.g7, Req.len, Req.take, Req.all, Req.drop, Req.sall, Req.slit, Res.g0, Res.g1, Res.g2, Res.g3, Res.len, Res.all, Res.take, Res.drop, Res.sall, Res.slit, *]
      | (refine allK_intro fun n hn => ?_; try simp only [fresh_set] at hn)
      | (refine ifK_intro (fun h => ?_) (fun h => ?_) <;> (try simp only [decide_eq_true_eq, decide_eq_false_iff_not, Bool.not_eq_true', Bool.not_eq_false'] at h) <;> try (exfalso; (try simp only [beq_iff_eq, beq_eq_false_iff_ne, bne_iff_ne, bne_eq_false_iff_eq, ne_eq] at h); omega))
      | (refine keeps_sub (Mem.sub_set (by simp [Mem.set_at, nomem, *])) ?_)
      | (refine call_F (F10 _) (Seens.refl _ _) ?_)
      | (refine pure_F (F10 _) (Seens.refl _ _) ?_)
    · exfalso
      have hq : reqB (rs.getD k default) = true := ‹_›
      have h1 : (rs.getD k default).client = (rs.getD i default).client := by simpa using ‹((rs.getD k default).client == (rs.getD i default).client) = true›
      have h2 : (rs.getD k default).inst = (rs.getD i default).inst := by simpa using ‹((rs.getD k default).inst == (rs.getD i default).inst) = true›
      have h3 : (rs.getD k default).tid = (rs.getD i default).tid := by simpa using ‹((rs.getD k default).tid == (rs.getD i default).tid) = true›
      have hw : what (playTo l rs ress i).1 (rs.getD i default) = 1 := by simpa using ‹(what (playTo l rs ress i).1 (rs.getD i default) == 1) = true›
      exact once_all l rs ress i k (by omega) hq ((what_same h1 h2 h3).trans hw)
    iterate 5
      · refine again_intro (i - (k + 1)) (by omega) ((m.set n9 (.cells false 26 (rs.getD i default).cells)).set n11 (.cells false 29 (was (playTo l rs ress i).1 (rs.getD i default)).cells)) (Mem.sub_set (by simp [Mem.set_at, *])) ⟨k + 1, by omega, rfl, rfl, ?_, ?_, ?_, ?_, ?_, ?_, ?_, ?_, ?_⟩
        all_goals try (simp (disch := omega) only [nth_upd, pickB_true, pickB_false, inB_lt, upd_len, cast_succ, Nat.reduceBEq, beq_self_eq_true, reduceCtorEq, *]; done)
    · have er : ress.getD i r0 = ress.getD i default := rfl
      rw [er] at e
      have hnf := note_Fit hpf (res := (ress.getD i default)) (show reqB (rs.getD i default) = true from ‹_›)
      have hs3 : m.sub ((((m.set n9 (.cells false 26 (rs.getD i default).cells)).set n11 (.cells false 29 (was (playTo l rs ress i).1 (rs.getD i default)).cells)).set n (.cells false 29 (ress.getD i default).cells))) := Mem.sub_set_new (Mem.sub_set_new (Mem.sub_set_new (Mem.sub.refl m) hn9) hn11) (by simp [hn])
      refine call_O (N15 hpf false (rs.getD i default) (ress.getD i default)) (Seens.cons (hh.seen hs3) (Seens.refl _ _)) (dup_vals _) fun n4 hn4 => ?_
      simp only [fresh_set] at hn4
      repeat' first
        | simp -dsimp (disch := omega) only [↓rulesA, rulesB, rulesC, Int.reduceLT, nth, upd, put, storeN, AV.one, Nat.reduceBEq, Nat.reduceBNe, Int.reduceBEq, Int.reduceBNe, Int.reduceLE, boolBin, strBin, intBin, unA, buildA, placesA, fillA, ne_eq, reduceCtorEq, Nat.reduceAdd, Nat.reduceSub, Nat.reduceLeDiff, Nat.reduceLT, Nat.reduceEqDiff, Int.reduceToNat, eq_self, rulesT, Req.g0, Req.g1, Req.g2, Req.g3, Req.g4, Req.g5, Req.g6, Req.g7, Req.len, Req.take, Req.all, Req.drop, Req.sall, Req.slit, Res.g0, Res.g1, Res.g2, Res.g3, Res.len, Res.all, Res.take, Res.drop, Res.sall, Res.slit, *]
        | (refine allK_intro fun n hn => ?_; try simp only [fresh_set] at hn)
        | (refine ifK_intro (fun h => ?_) (fun h => ?_) <;> (try simp only [decide_eq_true_eq, decide_eq_false_iff_not, Bool.not_eq_true', Bool.not_eq_false'] at h) <;> try (exfalso; (try simp only [beq_iff_eq, beq_eq_false_iff_ne, bne_iff_ne, bne_eq_false_iff_eq, ne_eq] at h); omega))
        | (refine keeps_sub (Mem.sub_set (by simp [Mem.set_at, nomem, *])) ?_)
      refine call_F (J19 hnf false (rs.getD i default).client) (Seens.cons (Seen.row Dup.cells (s := 7) (opn := true) (t := 39) (fun _ => rfl) _ (by simp [Mem.set_at, *])) (Seens.refl _ _)) ?_
      rcases what_all (playTo l rs ress i).1 (rs.getD i default) with hw | hw | hw | hw
      · obtain ⟨o1, o2⟩ : fnd (note (playTo l rs ress i).1 (rs.getD i default) (ress.getD i default)) (rs.getD i default).client = true ∧ fnx (note (playTo l rs ress i).1 (rs.getD i default) (ress.getD i default)) (rs.getD i default).client = dupOf (rs.getD i default) (ress.getD i default) := by
          rw [note_new hw]; exact put_own (dupOf (rs.getD i default) (ress.getD i default)) _
        rw [o1, o2]
        have hsm : ∀ d : Dup, d.same d = true := same_self
        repeat' first
          | simp -dsimp (disch := omega) only [↓rulesA, rulesB, rulesC, Int.reduceLT, nth, upd, put, storeN, AV.one, Nat.reduceBEq, Nat.reduceBNe, Int.reduceBEq, Int.reduceBNe, Int.reduceLE, boolBin, strBin, intBin, unA, buildA, placesA, fillA, ne_eq, reduceCtorEq, Nat.reduceAdd, Nat.reduceSub, Nat.reduceLeDiff, Nat.reduceLT, Nat.reduceEqDiff, Int.reduceToNat, eq_self, rulesT, Req.g0, Req.g1, Req.g2, Req.g3, Req.g4, Req.g5, Req.g6, Req.g7, Req.len, Req.take, Req.all, Req.drop, Req.sall, Req.slit, Res.g0, Res.g1, Res.g2, Res.g3, Res.len, Res.all, Res.take, Res.drop, Res.sall, Res.slit, Dup.g0, Dup.g1, Dup.g2, Dup.g3, Dup.g4, Dup.g5, Dup.g6, Dup.len, Dup.take, Dup.all, Dup.drop, Dup.rlen, Dup.rat, Dup.rat0, Dup.rpart, Dup.rin, Dup.rset, Dup.sall, Dup.slit, Dup.part3, Dup.join, Dup.join, ne_39, hsm, *]
          | (refine allK_intro fun n hn => ?_; try simp only [fresh_set] at hn)
          | (refine ifK_intro (fun h => ?_) (fun h => ?_) <;> (try simp only [decide_eq_true_eq, decide_eq_false_iff_not, Bool.not_eq_true', Bool.not_eq_false'] at h) <;> try (exfalso; (try simp only [beq_iff_eq, beq_eq_false_iff_ne, bne_iff_ne, bne_eq_false_iff_eq, ne_eq] at h); omega))
          | (refine keeps_sub (Mem.sub_set (by simp [Mem.set_at, nomem, *])) ?_)
        · exfalso
          have h' : Dup.same (dupOf (rs.getD i default) (ress.getD i default)) (dupOf (rs.getD i default) (ress.getD i default)) = false := h
          rw [same_self] at h'
          cases h'
        refine again_intro (rs.length - (i + 1)) (by omega) (nomem.set n4 (.cells true 39 ((playTo l rs ress (i + 1)).1.map Dup.cells).flatten)) (nomem_set_sub (by simp [Mem.set_at, *])) ⟨i + 1, by omega, rfl, .inr ⟨n4, rfl, ?_⟩, ?_, ?_, ?_, ?_⟩
        all_goals try (simp (disch := omega) only [nth_upd, pickB_true, pickB_false, inB_lt, upd_len, cast_succ, Nat.reduceBEq, beq_self_eq_true, reduceCtorEq, *]; done)
      · have en := note_same (l := (playTo l rs ress i).1) (r := rs.getD i default) (res := (ress.getD i default)) (by omega)
        obtain ⟨o1, o2⟩ := what_two hw
        have hsm : ∀ d : Res, d.same d = true := rsame_self
        have h16 := F16 (playTo l rs ress i).1 (playTo l rs ress i).1 false false hpf.small.2
        rw [samesB_self] at h16
        rw [en] at e hnf ⊢
        rw [o1]
        repeat' first
          | simp -dsimp (disch := omega) only [↓rulesA, rulesB, rulesC, Int.reduceLT, nth, upd, put, storeN, AV.one, Nat.reduceBEq, Nat.reduceBNe, Int.reduceBEq, Int.reduceBNe, Int.reduceLE, boolBin, strBin, intBin, unA, buildA, placesA, fillA, ne_eq, reduceCtorEq, Nat.reduceAdd, Nat.reduceSub, Nat.reduceLeDiff, Nat.reduceLT, Nat.reduceEqDiff, Int.reduceToNat, eq_self, rulesT, Req.g0, Req.g1, Req.g2, Req.g3, Req.g4, Req.g5, Req.g6, Req.g7, Req.len, Req.take, Req.all, Req.drop, Req.sall, Req.slit, Res.g0, Res.g1, Res.g2, Res.g3, Res.len, Res.all, Res.take, Res.drop, Res.sall, Res.slit, Dup.g0, Dup.g1, Dup.g2, Dup.g3, Dup.g4, Dup.g5, Dup.g6, Dup.len, Dup.take, Dup.all, Dup.drop, Dup.rlen, Dup.rat, Dup.rat0, Dup.rpart, Dup.rin, Dup.rset, Dup.sall, Dup.slit, Dup.part3, Dup.join, ne_29, o2, hsm, *]
          | (refine allK_intro fun n hn => ?_; try simp only [fresh_set] at hn)
          | (refine ifK_intro (fun h => ?_) (fun h => ?_) <;> (try simp only [decide_eq_true_eq, decide_eq_false_iff_not, Bool.not_eq_true', Bool.not_eq_false'] at h) <;> try (exfalso; (try simp only [beq_iff_eq, beq_eq_false_iff_ne, bne_iff_ne, bne_eq_false_iff_eq, ne_eq] at h); omega))
          | (refine keeps_sub (Mem.sub_set (by simp [Mem.set_at, nomem, *])) ?_)
        refine call_F h16 (Seens.cons (Seen.row Dup.cells (s := 7) (opn := true) (t := 39) (fun _ => rfl) _ (by simp [Mem.set_at, *])) (Seens.cons (hh.seen (Mem.sub_set_new (Mem.sub_set_new hs3 (by simp [hn4])) (by simp [hn]))) (Seens.refl _ _))) ?_
        repeat' first
          | simp -dsimp (disch := omega) only [↓rulesA, rulesB, rulesC, Int.reduceLT, nth, upd, put, storeN, AV.one, Nat.reduceBEq, Nat.reduceBNe, Int.reduceBEq, Int.reduceBNe, Int.reduceLE, boolBin, strBin, intBin, unA, buildA, placesA, fillA, ne_eq, reduceCtorEq, Nat.reduceAdd, Nat.reduceSub, Nat.reduceLeDiff, Nat.reduceLT, Nat.reduceEqDiff, Int.reduceToNat, eq_self, rulesT, *]
          | (refine allK_intro fun n hn => ?_; try simp only [fresh_set] at hn)
          | (refine ifK_intro (fun h => ?_) (fun h => ?_) <;> (try simp only [decide_eq_true_eq, decide_eq_false_iff_not, Bool.not_eq_true', Bool.not_eq_false'] at h) <;> try (exfalso; (try simp only [beq_iff_eq, beq_eq_false_iff_ne, bne_iff_ne, bne_eq_false_iff_eq, ne_eq] at h); omega))
          | (refine keeps_sub (Mem.sub_set (by simp [Mem.set_at, nomem, *])) ?_)
        refine again_intro (rs.length - (i + 1)) (by omega) (nomem.set n4 (.cells true 39 ((playTo l rs ress (i + 1)).1.map Dup.cells).flatten)) (nomem_set_sub (by simp [Mem.set_at, *])) ⟨i + 1, by omega, rfl, .inr ⟨n4, rfl, ?_⟩, ?_, ?_, ?_, ?_⟩
        all_goals try (simp (disch := omega) only [nth_upd, pickB_true, pickB_false, inB_lt, upd_len, cast_succ, Nat.reduceBEq, beq_self_eq_true, reduceCtorEq, *]; done)
      · have en := note_same (l := (playTo l rs ress i).1) (r := rs.getD i default) (res := (ress.getD i default)) (by omega)
        have h16 := F16 (playTo l rs ress i).1 (playTo l rs ress i).1 false false hpf.small.2
        rw [samesB_self] at h16
        rw [en] at e hnf ⊢
        repeat' first
          | simp -dsimp (disch := omega) only [↓rulesA, rulesB, rulesC, Int.reduceLT, nth, upd, put, storeN, AV.one, Nat.reduceBEq, Nat.reduceBNe, Int.reduceBEq, Int.reduceBNe, Int.reduceLE, boolBin, strBin, intBin, unA, buildA, placesA, fillA, ne_eq, reduceCtorEq, Nat.reduceAdd, Nat.reduceSub, Nat.reduceLeDiff, Nat.reduceLT, Nat.reduceEqDiff, Int.reduceToNat, eq_self, rulesT, Req.g0, Req.g1, Req.g2, Req.g3, Req.g4, Req.g5, Req.g6, Req.g7, Req.len, Req.take, Req.all, Req.drop, Req.sall, Req.slit, Res.g0, Res.g1, Res.g2, Res.g3, Res.len, Res.all, Res.take, Res.drop, Res.sall, Res.slit, Dup.g0, Dup.g1, Dup.g2, Dup.g3, Dup.g4, Dup.g5, Dup.g6, Dup.len, Dup.take, Dup.all, Dup.drop, Dup.rlen, Dup.rat, Dup.rat0, Dup.rpart, Dup.rin, Dup.rset, Dup.sall, Dup.slit, Dup.part3, Dup.join, *]
          | (refine allK_intro fun n hn => ?_; try simp only [fresh_set] at hn)
          | (refine ifK_intro (fun h => ?_) (fun h => ?_) <;> (try simp only [decide_eq_true_eq, decide_eq_false_iff_not, Bool.not_eq_true', Bool.not_eq_false'] at h) <;> try (exfalso; (try simp only [beq_iff_eq, beq_eq_false_iff_ne, bne_iff_ne, bne_eq_false_iff_eq, ne_eq] at h); omega))
          | (refine keeps_sub (Mem.sub_set (by simp [Mem.set_at, nomem, *])) ?_)
        refine call_F h16 (Seens.cons (Seen.row Dup.cells (s := 7) (opn := true) (t := 39) (fun _ => rfl) _ (by simp [Mem.set_at, *])) (Seens.cons (hh.seen (Mem.sub_set_new (Mem.sub_set_new hs3 (by simp [hn4])) (by simp [hn]))) (Seens.refl _ _))) ?_
        repeat' first
          | simp -dsimp (disch := omega) only [↓rulesA, rulesB, rulesC, Int.reduceLT, nth, upd, put, storeN, AV.one, Nat.reduceBEq, Nat.reduceBNe, Int.reduceBEq, Int.reduceBNe, Int.reduceLE, boolBin, strBin, intBin, unA, buildA, placesA, fillA, ne_eq, reduceCtorEq, Nat.reduceAdd, Nat.reduceSub, Nat.reduceLeDiff, Nat.reduceLT, Nat.reduceEqDiff, Int.reduceToNat, eq_self, rulesT, *]
          | (refine allK_intro fun n hn => ?_; try simp only [fresh_set] at hn)
          | (refine ifK_intro (fun h => ?_) (fun h => ?_) <;> (try simp only [decide_eq_true_eq, decide_eq_false_iff_not, Bool.not_eq_true', Bool.not_eq_false'] at h) <;> try (exfalso; (try simp only [beq_iff_eq, beq_eq_false_iff_ne, bne_iff_ne, bne_eq_false_iff_eq, ne_eq] at h); omega))
          | (refine keeps_sub (Mem.sub_set (by simp [Mem.set_at, nomem, *])) ?_)
        refine again_intro (rs.length - (i + 1)) (by omega) (nomem.set n4 (.cells true 39 ((playTo l rs ress (i + 1)).1.map Dup.cells).flatten)) (nomem_set_sub (by simp [Mem.set_at, *])) ⟨i + 1, by omega, rfl, .inr ⟨n4, rfl, ?_⟩, ?_, ?_, ?_, ?_⟩
        all_goals try (simp (disch := omega) only [nth_upd, pickB_true, pickB_false, inB_lt, upd_len, cast_succ, Nat.reduceBEq, beq_self_eq_true, reduceCtorEq, *]; done)
      · have en := note_same (l := (playTo l rs ress i).1) (r := rs.getD i default) (res := (ress.getD i default)) (by omega)
        have h16 := F16 (playTo l rs ress i).1 (playTo l rs ress i).1 false false hpf.small.2
        rw [samesB_self] at h16
        rw [en] at e hnf ⊢
        repeat' first
          | simp -dsimp (disch := omega) only [↓rulesA, rulesB, rulesC, Int.reduceLT, nth, upd, put, storeN, AV.one, Nat.reduceBEq, Nat.reduceBNe, Int.reduceBEq, Int.reduceBNe, Int.reduceLE, boolBin, strBin, intBin, unA, buildA, placesA, fillA, ne_eq, reduceCtorEq, Nat.reduceAdd, Nat.reduceSub, Nat.reduceLeDiff, Nat.reduceLT, Nat.reduceEqDiff, Int.reduceToNat, eq_self, rulesT, Req.g0, Req.g1, Req.g2, Req.g3, Req.g4, Req.g5, Req.g6, Req.g7, Req.len, Req.take, Req.all, Req.drop, Req.sall, Req.slit, Res.g0, Res.g1, Res.g2, Res.g3, Res.len, Res.all, Res.take, Res.drop, Res.sall, Res.slit, Dup.g0, Dup.g1, Dup.g2, Dup.g3, Dup.g4, Dup.g5, Dup.g6, Dup.len, Dup.take, Dup.all, Dup.drop, Dup.rlen, Dup.rat, Dup.rat0, Dup.rpart, Dup.rin, Dup.rset, Dup.sall, Dup.slit, Dup.part3, Dup.join, *]
          | (refine allK_intro fun n hn => ?_; try simp only [fresh_set] at hn)
          | (refine ifK_intro (fun h => ?_) (fun h => ?_) <;> (try simp only [decide_eq_true_eq, decide_eq_false_iff_not, Bool.not_eq_true', Bool.not_eq_false'] at h) <;> try (exfalso; (try simp only [beq_iff_eq, beq_eq_false_iff_ne, bne_iff_ne, bne_eq_false_iff_eq, ne_eq] at h); omega))
          | (refine keeps_sub (Mem.sub_set (by simp [Mem.set_at, nomem, *])) ?_)
        refine call_F h16 (Seens.cons (Seen.row Dup.cells (s := 7) (opn := true) (t := 39) (fun _ => rfl) _ (by simp [Mem.set_at, *])) (Seens.cons (hh.seen (Mem.sub_set_new (Mem.sub_set_new hs3 (by simp [hn4])) (by simp [hn]))) (Seens.refl _ _))) ?_
        repeat' first
          | simp -dsimp (disch := omega) only [↓rulesA, rulesB, rulesC, Int.reduceLT, nth, upd, put, storeN, AV.one, Nat.reduceBEq, Nat.reduceBNe, Int.reduceBEq, Int.reduceBNe, Int.reduceLE, boolBin, strBin, intBin, unA, buildA, placesA, fillA, ne_eq, reduceCtorEq, Nat.reduceAdd, Nat.reduceSub, Nat.reduceLeDiff, Nat.reduceLT, Nat.reduceEqDiff, Int.reduceToNat, eq_self, rulesT, *]
          | (refine allK_intro fun n hn => ?_; try simp only [fresh_set] at hn)
          | (refine ifK_intro (fun h => ?_) (fun h => ?_) <;> (try simp only [decide_eq_true_eq, decide_eq_false_iff_not, Bool.not_eq_true', Bool.not_eq_false'] at h) <;> try (exfalso; (try simp only [beq_iff_eq, beq_eq_false_iff_ne, bne_iff_ne, bne_eq_false_iff_eq, ne_eq] at h); omega))
          | (refine keeps_sub (Mem.sub_set (by simp [Mem.set_at, nomem, *])) ?_)
        refine again_intro (rs.length - (i + 1)) (by omega) (nomem.set n4 (.cells true 39 ((playTo l rs ress (i + 1)).1.map Dup.cells).flatten)) (nomem_set_sub (by simp [Mem.set_at, *])) ⟨i + 1, by omega, rfl, .inr ⟨n4, rfl, ?_⟩, ?_, ?_, ?_, ?_⟩
        all_goals try (simp (disch := omega) only [nth_upd, pickB_true, pickB_false, inB_lt, upd_len, cast_succ, Nat.reduceBEq, beq_self_eq_true, reduceCtorEq, *]; done)
    · have er : ress.getD i r0 = r0 := by rw [List.getD_eq_getElem?_getD, List.getElem?_eq_none (by omega)]; rfl
      rw [er] at e
      change CC Try.prog 15 [v, .agg (rs.getD i default).cells, .agg r0.cells] ((((m.set n9 (.cells false 26 (rs.getD i default).cells)).set n11 (.cells false 29 (was (playTo l rs ress i).1 (rs.getD i default)).cells)).set n (.cells false 29 r0.cells))) _
      have hnf := note_Fit hpf (res := r0) (show reqB (rs.getD i default) = true from ‹_›)
      have hs3 : m.sub ((((m.set n9 (.cells false 26 (rs.getD i default).cells)).set n11 (.cells false 29 (was (playTo l rs ress i).1 (rs.getD i default)).cells)).set n (.cells false 29 r0.cells))) := Mem.sub_set_new (Mem.sub_set_new (Mem.sub_set_new (Mem.sub.refl m) hn9) hn11) (by simp [hn])
      refine call_O (N15 hpf false (rs.getD i default) r0) (Seens.cons (hh.seen hs3) (Seens.refl _ _)) (dup_vals _) fun n4 hn4 => ?_
      simp only [fresh_set] at hn4
      repeat' first
        | simp -dsimp (disch := omega) only [↓rulesA, rulesB, rulesC, Int.reduceLT, nth, upd, put, storeN, AV.one, Nat.reduceBEq, Nat.reduceBNe, Int.reduceBEq, Int.reduceBNe, Int.reduceLE, boolBin, strBin, intBin, unA, buildA, placesA, fillA, ne_eq, reduceCtorEq, Nat.reduceAdd, Nat.reduceSub, Nat.reduceLeDiff, Nat.reduceLT, Nat.reduceEqDiff, Int.reduceToNat, eq_self, rulesT, Req.g0, Req.g1, Req.g2, Req.g3, Req.g4, Req.g5, Req.g6, Req.g7, Req.len, Req.take, Req.all, Req.drop, Req.sall, Req.slit, Res.g0, Res.g1, Res.g2, Res.g3, Res.len, Res.all, Res.take, Res.drop, Res.sall, Res.slit, *]
        | (refine allK_intro fun n hn => ?_; try simp only [fresh_set] at hn)
        | (refine ifK_intro (fun h => ?_) (fun h => ?_) <;> (try simp only [decide_eq_true_eq, decide_eq_false_iff_not, Bool.not_eq_true', Bool.not_eq_false'] at h) <;> try (exfalso; (try simp only [beq_iff_eq, beq_eq_false_iff_ne, bne_iff_ne, bne_eq_false_iff_eq, ne_eq] at h); omega))
        | (refine keeps_sub (Mem.sub_set (by simp [Mem.set_at, nomem, *])) ?_)
      refine call_F (J19 hnf false (rs.getD i default).client) (Seens.cons (Seen.row Dup.cells (s := 7) (opn := true) (t := 39) (fun _ => rfl) _ (by simp [Mem.set_at, *])) (Seens.refl _ _)) ?_
      rcases what_all (playTo l rs ress i).1 (rs.getD i default) with hw | hw | hw | hw
      · obtain ⟨o1, o2⟩ : fnd (note (playTo l rs ress i).1 (rs.getD i default) r0) (rs.getD i default).client = true ∧ fnx (note (playTo l rs ress i).1 (rs.getD i default) r0) (rs.getD i default).client = dupOf (rs.getD i default) r0 := by
          rw [note_new hw]; exact put_own (dupOf (rs.getD i default) r0) _
        rw [o1, o2]
        have hsm : ∀ d : Dup, d.same d = true := same_self
        repeat' first
          | simp -dsimp (disch := omega) only [↓rulesA, rulesB, rulesC, Int.reduceLT, nth, upd, put, storeN, AV.one, Nat.reduceBEq, Nat.reduceBNe, Int.reduceBEq, Int.reduceBNe, Int.reduceLE, boolBin, strBin, intBin, unA, buildA, placesA, fillA, ne_eq, reduceCtorEq, Nat.reduceAdd, Nat.reduceSub, Nat.reduceLeDiff, Nat.reduceLT, Nat.reduceEqDiff, Int.reduceToNat, eq_self, rulesT, Req.g0, Req.g1, Req.g2, Req.g3, Req.g4, Req.g5, Req.g6, Req.g7, Req.len, Req.take, Req.all, Req.drop, Req.sall, Req.slit, Res.g0, Res.g1, Res.g2, Res.g3, Res.len, Res.all, Res.take, Res.drop, Res.sall, Res.slit, Dup.g0, Dup.g1, Dup.g2, Dup.g3, Dup.g4, Dup.g5, Dup.g6, Dup.len, Dup.take, Dup.all, Dup.drop, Dup.rlen, Dup.rat, Dup.rat0, Dup.rpart, Dup.rin, Dup.rset, Dup.sall, Dup.slit, Dup.part3, Dup.join, Dup.join, ne_39, hsm, *]
          | (refine allK_intro fun n hn => ?_; try simp only [fresh_set] at hn)
          | (refine ifK_intro (fun h => ?_) (fun h => ?_) <;> (try simp only [decide_eq_true_eq, decide_eq_false_iff_not, Bool.not_eq_true', Bool.not_eq_false'] at h) <;> try (exfalso; (try simp only [beq_iff_eq, beq_eq_false_iff_ne, bne_iff_ne, bne_eq_false_iff_eq, ne_eq] at h); omega))
          | (refine keeps_sub (Mem.sub_set (by simp [Mem.set_at, nomem, *])) ?_)
        · exfalso
          have h' : Dup.same (dupOf (rs.getD i default) r0) (dupOf (rs.getD i default) r0) = false := h
          rw [same_self] at h'
          cases h'
        refine again_intro (rs.length - (i + 1)) (by omega) (nomem.set n4 (.cells true 39 ((playTo l rs ress (i + 1)).1.map Dup.cells).flatten)) (nomem_set_sub (by simp [Mem.set_at, *])) ⟨i + 1, by omega, rfl, .inr ⟨n4, rfl, ?_⟩, ?_, ?_, ?_, ?_⟩
        all_goals try (simp (disch := omega) only [nth_upd, pickB_true, pickB_false, inB_lt, upd_len, cast_succ, Nat.reduceBEq, beq_self_eq_true, reduceCtorEq, *]; done)
      · have en := note_same (l := (playTo l rs ress i).1) (r := rs.getD i default) (res := r0) (by omega)
        obtain ⟨o1, o2⟩ := what_two hw
        have hsm : ∀ d : Res, d.same d = true := rsame_self
        have h16 := F16 (playTo l rs ress i).1 (playTo l rs ress i).1 false false hpf.small.2
        rw [samesB_self] at h16
        rw [en] at e hnf ⊢
        rw [o1]
        repeat' first
          | simp -dsimp (disch := omega) only [↓rulesA, rulesB, rulesC, Int.reduceLT, nth, upd, put, storeN, AV.one, Nat.reduceBEq, Nat.reduceBNe, Int.reduceBEq, Int.reduceBNe, Int.reduceLE, boolBin, strBin, intBin, unA, buildA, placesA, fillA, ne_eq, reduceCtorEq, Nat.reduceAdd, Nat.reduceSub, Nat.reduceLeDiff, Nat.reduceLT, Nat.reduceEqDiff, Int.reduceToNat, eq_self, rulesT, Req.g0, Req.g1, Req.g2, Req.g3, Req.g4, Req.g5, Req.g6, Req.g7, Req.len, Req.take, Req.all, Req.drop, Req.sall, Req.slit, Res.g0, Res.g1, Res.g2, Res.g3, Res.len, Res.all, Res.take, Res.drop, Res.sall, Res.slit, Dup.g0, Dup.g1, Dup.g2, Dup.g3, Dup.g4, Dup.g5, Dup.g6, Dup.len, Dup.take, Dup.all, Dup.drop, Dup.rlen, Dup.rat, Dup.rat0, Dup.rpart, Dup.rin, Dup.rset, Dup.sall, Dup.slit, Dup.part3, Dup.join, ne_29, o2, hsm, *]
          | (refine allK_intro fun n hn => ?_; try simp only [fresh_set] at hn)
          | (refine ifK_intro (fun h => ?_) (fun h => ?_) <;> (try simp only [decide_eq_true_eq, decide_eq_false_iff_not, Bool.not_eq_true', Bool.not_eq_false'] at h) <;> try (exfalso; (try simp only [beq_iff_eq, beq_eq_false_iff_ne, bne_iff_ne, bne_eq_false_iff_eq, ne_eq] at h); omega))
          | (refine keeps_sub (Mem.sub_set (by simp [Mem.set_at, nomem, *])) ?_)
        refine call_F h16 (Seens.cons (Seen.row Dup.cells (s := 7) (opn := true) (t := 39) (fun _ => rfl) _ (by simp [Mem.set_at, *])) (Seens.cons (hh.seen (Mem.sub_set_new (Mem.sub_set_new hs3 (by simp [hn4])) (by simp [hn]))) (Seens.refl _ _))) ?_
        repeat' first
          | simp -dsimp (disch := omega) only [↓rulesA, rulesB, rulesC, Int.reduceLT, nth, upd, put, storeN, AV.one, Nat.reduceBEq, Nat.reduceBNe, Int.reduceBEq, Int.reduceBNe, Int.reduceLE, boolBin, strBin, intBin, unA, buildA, placesA, fillA, ne_eq, reduceCtorEq, Nat.reduceAdd, Nat.reduceSub, Nat.reduceLeDiff, Nat.reduceLT, Nat.reduceEqDiff, Int.reduceToNat, eq_self, rulesT, *]
          | (refine allK_intro fun n hn => ?_; try simp only [fresh_set] at hn)
          | (refine ifK_intro (fun h => ?_) (fun h => ?_) <;> (try simp only [decide_eq_true_eq, decide_eq_false_iff_not, Bool.not_eq_true', Bool.not_eq_false'] at h) <;> try (exfalso; (try simp only [beq_iff_eq, beq_eq_false_iff_ne, bne_iff_ne, bne_eq_false_iff_eq, ne_eq] at h); omega))
          | (refine keeps_sub (Mem.sub_set (by simp [Mem.set_at, nomem, *])) ?_)
        refine again_intro (rs.length - (i + 1)) (by omega) (nomem.set n4 (.cells true 39 ((playTo l rs ress (i + 1)).1.map Dup.cells).flatten)) (nomem_set_sub (by simp [Mem.set_at, *])) ⟨i + 1, by omega, rfl, .inr ⟨n4, rfl, ?_⟩, ?_, ?_, ?_, ?_⟩
        all_goals try (simp (disch := omega) only [nth_upd, pickB_true, pickB_false, inB_lt, upd_len, cast_succ, Nat.reduceBEq, beq_self_eq_true, reduceCtorEq, *]; done)
      · have en := note_same (l := (playTo l rs ress i).1) (r := rs.getD i default) (res := r0) (by omega)
        have h16 := F16 (playTo l rs ress i).1 (playTo l rs ress i).1 false false hpf.small.2
        rw [samesB_self] at h16
        rw [en] at e hnf ⊢
        repeat' first
          | simp -dsimp (disch := omega) only [↓rulesA, rulesB, rulesC, Int.reduceLT, nth, upd, put, storeN, AV.one, Nat.reduceBEq, Nat.reduceBNe, Int.reduceBEq, Int.reduceBNe, Int.reduceLE, boolBin, strBin, intBin, unA, buildA, placesA, fillA, ne_eq, reduceCtorEq, Nat.reduceAdd, Nat.reduceSub, Nat.reduceLeDiff, Nat.reduceLT, Nat.reduceEqDiff, Int.reduceToNat, eq_self, rulesT, Req.g0, Req.g1, Req.g2, Req.g3, Req.g4, Req.g5, Req.g6, Req.g7, Req.len, Req.take, Req.all, Req.drop, Req.sall, Req.slit, Res.g0, Res.g1, Res.g2, Res.g3, Res.len, Res.all, Res.take, Res.drop, Res.sall, Res.slit, Dup.g0, Dup.g1, Dup.g2, Dup.g3, Dup.g4, Dup.g5, Dup.g6, Dup.len, Dup.take, Dup.all, Dup.drop, Dup.rlen, Dup.rat, Dup.rat0, Dup.rpart, Dup.rin, Dup.rset, Dup.sall, Dup.slit, Dup.part3, Dup.join, *]
          | (refine allK_intro fun n hn => ?_; try simp only [fresh_set] at hn)
          | (refine ifK_intro (fun h => ?_) (fun h => ?_) <;> (try simp only [decide_eq_true_eq, decide_eq_false_iff_not, Bool.not_eq_true', Bool.not_eq_false'] at h) <;> try (exfalso; (try simp only [beq_iff_eq, beq_eq_false_iff_ne, bne_iff_ne, bne_eq_false_iff_eq, ne_eq] at h); omega))
          | (refine keeps_sub (Mem.sub_set (by simp [Mem.set_at, nomem, *])) ?_)
        refine call_F h16 (Seens.cons (Seen.row Dup.cells (s := 7) (opn := true) (t := 39) (fun _ => rfl) _ (by simp [Mem.set_at, *])) (Seens.cons (hh.seen (Mem.sub_set_new (Mem.sub_set_new hs3 (by simp [hn4])) (by simp [hn]))) (Seens.refl _ _))) ?_
        repeat' first
          | simp -dsimp (disch := omega) only [↓rulesA, rulesB, rulesC, Int.reduceLT, nth, upd, put, storeN, AV.one, Nat.reduceBEq, Nat.reduceBNe, Int.reduceBEq, Int.reduceBNe, Int.reduceLE, boolBin, strBin, intBin, unA, buildA, placesA, fillA, ne_eq, reduceCtorEq, Nat.reduceAdd, Nat.reduceSub, Nat.reduceLeDiff, Nat.reduceLT, Nat.reduceEqDiff, Int.reduceToNat, eq_self, rulesT, *]
          | (refine allK_intro fun n hn => ?_; try simp only [fresh_set] at hn)
          | (refine ifK_intro (fun h => ?_) (fun h => ?_) <;> (try simp only [decide_eq_true_eq, decide_eq_false_iff_not, Bool.not_eq_true', Bool.not_eq_false'] at h) <;> try (exfalso; (try simp only [beq_iff_eq, beq_eq_false_iff_ne, bne_iff_ne, bne_eq_false_iff_eq, ne_eq] at h); omega))
          | (refine keeps_sub (Mem.sub_set (by simp [Mem.set_at, nomem, *])) ?_)
        refine again_intro (rs.length - (i + 1)) (by omega) (nomem.set n4 (.cells true 39 ((playTo l rs ress (i + 1)).1.map Dup.cells).flatten)) (nomem_set_sub (by simp [Mem.set_at, *])) ⟨i + 1, by omega, rfl, .inr ⟨n4, rfl, ?_⟩, ?_, ?_, ?_, ?_⟩
        all_goals try (simp (disch := omega) only [nth_upd, pickB_true, pickB_false, inB_lt, upd_len, cast_succ, Nat.reduceBEq, beq_self_eq_true, reduceCtorEq, *]; done)
      · have en := note_same (l := (playTo l rs ress i).1) (r := rs.getD i default) (res := r0) (by omega)
        have h16 := F16 (playTo l rs ress i).1 (playTo l rs ress i).1 false false hpf.small.2
        rw [samesB_self] at h16
        rw [en] at e hnf ⊢
        repeat' first
          | simp -dsimp (disch := omega) only [↓rulesA, rulesB, rulesC, Int.reduceLT, nth, upd, put, storeN, AV.one, Nat.reduceBEq, Nat.reduceBNe, Int.reduceBEq, Int.reduceBNe, Int.reduceLE, boolBin, strBin, intBin, unA, buildA, placesA, fillA, ne_eq, reduceCtorEq, Nat.reduceAdd, Nat.reduceSub, Nat.reduceLeDiff, Nat.reduceLT, Nat.reduceEqDiff, Int.reduceToNat, eq_self, rulesT, Req.g0, Req.g1, Req.g2, Req.g3, Req.g4, Req.g5, Req.g6, Req.g7, Req.len, Req.take, Req.all, Req.drop, Req.sall, Req.slit, Res.g0, Res.g1, Res.g2, Res.g3, Res.len, Res.all, Res.take, Res.drop, Res.sall, Res.slit, Dup.g0, Dup.g1, Dup.g2, Dup.g3, Dup.g4, Dup.g5, Dup.g6, Dup.len, Dup.take, Dup.all, Dup.drop, Dup.rlen, Dup.rat, Dup.rat0, Dup.rpart, Dup.rin, Dup.rset, Dup.sall, Dup.slit, Dup.part3, Dup.join, *]
          | (refine allK_intro fun n hn => ?_; try simp only [fresh_set] at hn)
          | (refine ifK_intro (fun h => ?_) (fun h => ?_) <;> (try simp only [decide_eq_true_eq, decide_eq_false_iff_not, Bool.not_eq_true', Bool.not_eq_false'] at h) <;> try (exfalso; (try simp only [beq_iff_eq, beq_eq_false_iff_ne, bne_iff_ne, bne_eq_false_iff_eq, ne_eq] at h); omega))
          | (refine keeps_sub (Mem.sub_set (by simp [Mem.set_at, nomem, *])) ?_)
        refine call_F h16 (Seens.cons (Seen.row Dup.cells (s := 7) (opn := true) (t := 39) (fun _ => rfl) _ (by simp [Mem.set_at, *])) (Seens.cons (hh.seen (Mem.sub_set_new (Mem.sub_set_new hs3 (by simp [hn4])) (by simp [hn]))) (Seens.refl _ _))) ?_
        repeat' first
          | simp -dsimp (disch := omega) only [↓rulesA, rulesB, rulesC, Int.reduceLT, nth, upd, put, storeN, AV.one, Nat.reduceBEq, Nat.reduceBNe, Int.reduceBEq, Int.reduceBNe, Int.reduceLE, boolBin, strBin, intBin, unA, buildA, placesA, fillA, ne_eq, reduceCtorEq, Nat.reduceAdd, Nat.reduceSub, Nat.reduceLeDiff, Nat.reduceLT, Nat.reduceEqDiff, Int.reduceToNat, eq_self, rulesT, *]
          | (refine allK_intro fun n hn => ?_; try simp only [fresh_set] at hn)
          | (refine ifK_intro (fun h => ?_) (fun h => ?_) <;> (try simp only [decide_eq_true_eq, decide_eq_false_iff_not, Bool.not_eq_true', Bool.not_eq_false'] at h) <;> try (exfalso; (try simp only [beq_iff_eq, beq_eq_false_iff_ne, bne_iff_ne, bne_eq_false_iff_eq, ne_eq] at h); omega))
          | (refine keeps_sub (Mem.sub_set (by simp [Mem.set_at, nomem, *])) ?_)
        refine again_intro (rs.length - (i + 1)) (by omega) (nomem.set n4 (.cells true 39 ((playTo l rs ress (i + 1)).1.map Dup.cells).flatten)) (nomem_set_sub (by simp [Mem.set_at, *])) ⟨i + 1, by omega, rfl, .inr ⟨n4, rfl, ?_⟩, ?_, ?_, ?_, ?_⟩
        all_goals try (simp (disch := omega) only [nth_upd, pickB_true, pickB_false, inB_lt, upd_len, cast_succ, Nat.reduceBEq, beq_self_eq_true, reduceCtorEq, *]; done)
  · repeat' first
      | simp -dsimp (disch := omega) only [↓rulesA, rulesB, rulesC, Int.reduceLT, nth, upd, put, storeN, AV.one, Nat.reduceBEq, Nat.reduceBNe, Int.reduceBEq, Int.reduceBNe, Int.reduceLE, boolBin, strBin, intBin, unA, buildA, placesA, fillA, ne_eq, reduceCtorEq, Nat.reduceAdd, Nat.reduceSub, Nat.reduceLeDiff, Nat.reduceLT, Nat.reduceEqDiff, Int.reduceToNat, eq_self, rulesT, *]
      | (refine allK_intro fun n hn => ?_; try simp only [fresh_set] at hn)
      | (refine ifK_intro (fun h => ?_) (fun h => ?_) <;> (try simp only [decide_eq_true_eq, decide_eq_false_iff_not, Bool.not_eq_true', Bool.not_eq_false'] at h) <;> try (exfalso; (try simp only [beq_iff_eq, beq_eq_false_iff_ne, bne_iff_ne, bne_eq_false_iff_eq, ne_eq] at h); omega))
      | (refine keeps_sub (Mem.sub_set (by simp [Mem.set_at, nomem, *])) ?_)
      | (refine call_F (h11) (Seens.refl _ _) ?_)
      | (refine pure_F (h11) (Seens.refl _ _) ?_)
    exact .val
theorem once_law : ∀ args, ShapedAll Try.prog Try.f4.params.toList args → F Try.prog 4 args (.val (.bool true)) := by
  intro args h
  have hp : Try.f4.params.toList = [22, 41, 42] := by kernel_rfl
  rw [hp] at h
  match args, h with
  | [a, b, c], ⟨h0, h1, h2, _⟩ =>
    obtain ⟨l, rfl, l1, _⟩ := dups_of h0
    obtain ⟨rs, rfl, l2, _⟩ := reqs_of h1
    obtain ⟨res, rfl, _⟩ := ress_of h2
    exact F4 l false rs false res false (by omega) (by omega)
end Go.Proofs.Ytoankcclbnnfiaa

