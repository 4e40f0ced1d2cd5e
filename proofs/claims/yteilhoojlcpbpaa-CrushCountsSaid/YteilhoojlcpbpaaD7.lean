/- Package 11: counting. -/
import Derived.Test.YteilhoojlcpbpaaD6
set_option maxRecDepth 100000
set_option maxHeartbeats 1000000
set_option linter.unusedSimpArgs false
set_option linter.unusedVariables false
namespace Go.Proofs.Yteilhoojlcpbpaa
open Go.Abs
attribute [local irreducible] C X CC Y CV CW binK litK AppK PureC PureCV againK loopV rangeV allK ifK got onB condK V stepsK planK opK firstK seeE keepsK

/-- How many are asked. -/
def askN (n : Int) : Nat := (min (max n 0) 100000).toNat
theorem askN_le (n : Int) : askN n ≤ 100000 := by unfold askN; omega
def askAt (fr i : Nat) : Nat := (fr + i) % 4294967296
theorem askAt_lt (fr i : Nat) : askAt fr i < 4294967296 := Nat.mod_lt _ (by decide)
def askR (fr : Nat) (n : Int) : List (List AV) := (List.range (askN n)).map fun i => [.val (.int .u32 (askAt fr i))]
theorem askR_len (fr : Nat) (n : Int) : (askR fr n).length = askN n := by simp [askR]
theorem askR_at (fr : Nat) (n : Int) (i : Nat) (h' : i < (askR fr n).length) : (askR fr n)[i] = [.val (.int .u32 (askAt fr i))] := by simp [askR]
theorem wrap32_small (i : Nat) (h : i < 4294967296) : IntKind.u32.wrap (i : Int) = (i : Int) := by rw [IntKind.wrap_u32']; omega
theorem add32_mod (a b : Nat) : IntKind.u32.wrap ((a : Int) + (b : Int)) = ((askAt a b : Nat) : Int) := by rw [IntKind.wrap_u32']; unfold askAt; omega
theorem I36 (fr : Nat) (n : Int) : Iter Try.prog 36 [] [.vp [.val (.int .i64 n)] 0, .vp [.val (.int .u32 fr)] 0] nomem (askR fr n) := by
  intro ny M I S K' _ h0 hY hend hstop
  refine C.turn (C36_of ?_)
  unfold k36
  have hN := askN_le n
  have e1 : (if (100000 : Int) < (if n < 0 then 0 else n) then 100000 else (if n < 0 then 0 else n)) = (askN n : Int) := by unfold askN; omega
  repeat' first
    | simp -dsimp (disch := omega) only [↓rulesA, rulesB, rulesC, Int.reduceLT, nth, upd, put, storeN, AV.one, Nat.reduceBEq, Nat.reduceBNe, Int.reduceBEq, Int.reduceBNe, Int.reduceLE, Int.reduceEq, Int.reduceMod, Int.reduceNeg, boolBin, strBin, intBin, unA, fillA, ne_eq, reduceCtorEq, Nat.reduceAdd, Nat.reduceSub, Nat.reduceLeDiff, Nat.reduceLT, Nat.reduceEqDiff, Int.reduceToNat, eq_self, rulesT, bne_self_eq_false, mm_min, mm_max, buOf_some, nilCheck_vp, nilCheck_ptr, nilCheck_yld, nilCheck_func, e1, *]
    | (refine allK_intro fun n hn => ?_; try simp only [fresh_set] at hn)
    | (refine ifK_intro (fun h => ?_) (fun h => ?_) <;> (try simp only [decide_eq_true_eq, decide_eq_false_iff_not, Bool.not_eq_true', Bool.not_eq_false'] at h) <;> try (exfalso; (try simp only [beq_iff_eq, beq_eq_false_iff_ne, bne_iff_ne, bne_eq_false_iff_eq, ne_eq] at h); omega))
    | (refine keeps_sub (Mem.sub_set (by simp [Mem.set_at, nomem, *])) ?_)
  refine loop_intro (fun j env m => ∃ (i : Nat) (mI : Mem), i ≤ askN n ∧ j = askN n - i ∧ I i mI ∧ mI.sub m ∧ env.length = 19 ∧ nth env 0 = .yld ny ∧ nth env 2 = .vp [.val (.int .u32 fr)] 0 ∧ nth env 7 = .val (.int .i64 (askN n)) ∧ nth env 8 = .val (.int .i64 i)) (askN n) _ (Mem.sub.refl _) ⟨0, M, by omega, by omega, h0, Mem.sub.refl _, rfl, rfl, rfl, rfl, rfl⟩ ?_
  rintro j env m ⟨i, mI, hi, rfl, hI, hsub, hlen, e0, e2, e7, e8⟩
  by_cases hil : i < askN n
  · have hk : i < (askR fr n).length := by rw [askR_len]; exact hil
    have hY' := hY i hk mI hI
    rw [askR_at fr n i hk] at hY'
    replace hY' : Kept _ := hY'
    repeat' first
      | simp -dsimp (disch := omega) only [↓rulesA, rulesB, rulesC, Int.reduceLT, nth, upd, put, storeN, AV.one, Nat.reduceBEq, Nat.reduceBNe, Int.reduceBEq, Int.reduceBNe, Int.reduceLE, Int.reduceEq, Int.reduceMod, Int.reduceNeg, boolBin, strBin, intBin, unA, fillA, ne_eq, reduceCtorEq, Nat.reduceAdd, Nat.reduceSub, Nat.reduceLeDiff, Nat.reduceLT, Nat.reduceEqDiff, Int.reduceToNat, eq_self, rulesT, bne_self_eq_false, mm_min, mm_max, buOf_some, nilCheck_vp, nilCheck_ptr, nilCheck_yld, nilCheck_func, wrap32_small, add32_mod, *]
      | (refine allK_intro fun n hn => ?_; try simp only [fresh_set] at hn)
      | (refine ifK_intro (fun h => ?_) (fun h => ?_) <;> (try simp only [decide_eq_true_eq, decide_eq_false_iff_not, Bool.not_eq_true', Bool.not_eq_false'] at h) <;> try (exfalso; (try simp only [beq_iff_eq, beq_eq_false_iff_ne, bne_iff_ne, bne_eq_false_iff_eq, ne_eq] at h); omega))
      | (refine keeps_sub (Mem.sub_set (by simp [Mem.set_at, nomem, *])) ?_)
    refine yield_on hY' hsub fun r m' M' h hs' hf => ?_
    rcases h with ⟨rfl, h⟩ | ⟨rfl, h⟩
    · repeat' first
        | simp -dsimp (disch := omega) only [↓rulesA, rulesB, rulesC, Int.reduceLT, nth, upd, put, storeN, AV.one, Nat.reduceBEq, Nat.reduceBNe, Int.reduceBEq, Int.reduceBNe, Int.reduceLE, Int.reduceEq, Int.reduceMod, Int.reduceNeg, boolBin, strBin, intBin, unA, fillA, ne_eq, reduceCtorEq, Nat.reduceAdd, Nat.reduceSub, Nat.reduceLeDiff, Nat.reduceLT, Nat.reduceEqDiff, Int.reduceToNat, eq_self, rulesT, bne_self_eq_false, mm_min, mm_max, buOf_some, nilCheck_vp, nilCheck_ptr, nilCheck_yld, nilCheck_func, *]
        | (refine allK_intro fun n hn => ?_; try simp only [fresh_set] at hn)
        | (refine ifK_intro (fun h => ?_) (fun h => ?_) <;> (try simp only [decide_eq_true_eq, decide_eq_false_iff_not, Bool.not_eq_true', Bool.not_eq_false'] at h) <;> try (exfalso; (try simp only [beq_iff_eq, beq_eq_false_iff_ne, bne_iff_ne, bne_eq_false_iff_eq, ne_eq] at h); omega))
        | (refine keeps_sub (Mem.sub_set (by simp [Mem.set_at, nomem, *])) ?_)
      refine again_intro (askN n - (i + 1)) (by omega) M' (Mem.sub.refl _) ⟨i + 1, m', by omega, rfl, h, hs', ?_, ?_, ?_, ?_, ?_⟩
      all_goals try (simp (disch := omega) only [nth_upd, pickB_true, pickB_false, inB_lt, upd_len, cast_succ, Int.cast_ofNat_Int, Nat.reduceBEq, beq_self_eq_true, reduceCtorEq, *]; done)
    · repeat' first
        | simp -dsimp (disch := omega) only [↓rulesA, rulesB, rulesC, Int.reduceLT, nth, upd, put, storeN, AV.one, Nat.reduceBEq, Nat.reduceBNe, Int.reduceBEq, Int.reduceBNe, Int.reduceLE, Int.reduceEq, Int.reduceMod, Int.reduceNeg, boolBin, strBin, intBin, unA, fillA, ne_eq, reduceCtorEq, Nat.reduceAdd, Nat.reduceSub, Nat.reduceLeDiff, Nat.reduceLT, Nat.reduceEqDiff, Int.reduceToNat, eq_self, rulesT, bne_self_eq_false, mm_min, mm_max, buOf_some, nilCheck_vp, nilCheck_ptr, nilCheck_yld, nilCheck_func, *]
        | (refine allK_intro fun n hn => ?_; try simp only [fresh_set] at hn)
        | (refine ifK_intro (fun h => ?_) (fun h => ?_) <;> (try simp only [decide_eq_true_eq, decide_eq_false_iff_not, Bool.not_eq_true', Bool.not_eq_false'] at h) <;> try (exfalso; (try simp only [beq_iff_eq, beq_eq_false_iff_ne, bne_iff_ne, bne_eq_false_iff_eq, ne_eq] at h); omega))
        | (refine keeps_sub (Mem.sub_set (by simp [Mem.set_at, nomem, *])) ?_)
      exact Turns.sub hs' (hstop _ h)
  · have : i = askN n := by omega
    subst this
    repeat' first
      | simp -dsimp (disch := omega) only [↓rulesA, rulesB, rulesC, Int.reduceLT, nth, upd, put, storeN, AV.one, Nat.reduceBEq, Nat.reduceBNe, Int.reduceBEq, Int.reduceBNe, Int.reduceLE, Int.reduceEq, Int.reduceMod, Int.reduceNeg, boolBin, strBin, intBin, unA, fillA, ne_eq, reduceCtorEq, Nat.reduceAdd, Nat.reduceSub, Nat.reduceLeDiff, Nat.reduceLT, Nat.reduceEqDiff, Int.reduceToNat, eq_self, rulesT, bne_self_eq_false, mm_min, mm_max, buOf_some, nilCheck_vp, nilCheck_ptr, nilCheck_yld, nilCheck_func, *]
      | (refine allK_intro fun n hn => ?_; try simp only [fresh_set] at hn)
      | (refine ifK_intro (fun h => ?_) (fun h => ?_) <;> (try simp only [decide_eq_true_eq, decide_eq_false_iff_not, Bool.not_eq_true', Bool.not_eq_false'] at h) <;> try (exfalso; (try simp only [beq_iff_eq, beq_eq_false_iff_ne, bne_iff_ne, bne_eq_false_iff_eq, ne_eq] at h); omega))
      | (refine keeps_sub (Mem.sub_set (by simp [Mem.set_at, nomem, *])) ?_)
    refine Turns.sub hsub (hend _ ?_)
    rw [askR_len]; exact hI
theorem C25 (fr : Nat) (n : Int) : C Try.prog 25 [.val (.int .u32 fr), .val (.int .i64 n)] nomem (fun q m' => q = .fn (.func 36) [] [.vp [.val (.int .i64 n)] 0, .vp [.val (.int .u32 fr)] 0] ∧ m' = nomem) := by
  refine C.turn (C25_of ?_)
  unfold k25
  repeat' first
    | simp -dsimp (disch := omega) only [↓rulesA, rulesB, rulesC, Int.reduceLT, nth, upd, put, storeN, AV.one, Nat.reduceBEq, Nat.reduceBNe, Int.reduceBEq, Int.reduceBNe, Int.reduceLE, Int.reduceEq, Int.reduceMod, Int.reduceNeg, boolBin, strBin, intBin, unA, fillA, ne_eq, reduceCtorEq, Nat.reduceAdd, Nat.reduceSub, Nat.reduceLeDiff, Nat.reduceLT, Nat.reduceEqDiff, Int.reduceToNat, eq_self, rulesT, bne_self_eq_false, mm_min, mm_max, buOf_some, nilCheck_vp, nilCheck_ptr, nilCheck_yld, nilCheck_func, mkFnA, staticFn, *]
    | (refine allK_intro fun n hn => ?_; try simp only [fresh_set] at hn)
    | (refine ifK_intro (fun h => ?_) (fun h => ?_) <;> (try simp only [decide_eq_true_eq, decide_eq_false_iff_not, Bool.not_eq_true', Bool.not_eq_false'] at h) <;> try (exfalso; (try simp only [beq_iff_eq, beq_eq_false_iff_ne, bne_iff_ne, bne_eq_false_iff_eq, ne_eq] at h); omega))
    | (refine keeps_sub (Mem.sub_set (by simp [Mem.set_at, nomem, *])) ?_)
  refine Turns.freeze (.fnOf (Seens.refl _ _) (.two (.var (Mem.set_same _ _ _)) (.var (opn := false) (t := 23) ?_))) ⟨rfl, rfl⟩
  simp [Mem.set_at, *]
def chooseS (l : List Item) (x : Nat) (r : Int) : Option Straw := bestTo (strawTo l x r l.length) (strawTo l x r l.length).length
theorem strawTo_at {l : List Item} {x : Nat} {r : Int} : ∀ i, ∀ s ∈ strawTo l x r i, ∃ q, q < i ∧ s = strawAt l x r q ∧ 1 ≤ capW (l.getD q default).weight
  | 0, s, hs => by cases hs
  | i + 1, s, hs => by
    by_cases h : 1 ≤ capW (l.getD i default).weight
    · rw [strawTo_yes h] at hs
      rcases List.mem_append.1 hs with hs | hs
      · obtain ⟨q, a, b, c⟩ := strawTo_at i s hs; exact ⟨q, by omega, b, c⟩
      · rw [List.mem_singleton] at hs; exact ⟨i, by omega, hs, h⟩
    · rw [strawTo_no h] at hs
      obtain ⟨q, a, b, c⟩ := strawTo_at i s hs; exact ⟨q, by omega, b, c⟩
/-- Where the chosen one stands. -/
def choP (l : List Item) (x : Nat) (r : Int) : Nat := ((chooseS l x r).getD default).place.toNat
def choB (l : List Item) (x : Nat) (r : Int) : Bool := (chooseS l x r).isSome
theorem choP_eq (l : List Item) (x : Nat) (r : Int) : ((chooseS l x r).getD default).place = (choP l x r : Int) := by
  unfold choP
  cases h : chooseS l x r with
  | none => rfl
  | some s =>
    obtain ⟨q, _, e, _⟩ := strawTo_at _ s (best_mem _ (Nat.le_refl _) s h)
    rw [Option.getD_some, e]; rfl
theorem choP_lt {l : List Item} {x : Nat} {r : Int} (h : choB l x r = true) : choP l x r < l.length := by
  unfold choB at h
  unfold choP
  cases hc : chooseS l x r with
  | none => rw [hc] at h; cases h
  | some s =>
    obtain ⟨q, hq, e, _⟩ := strawTo_at _ s (best_mem _ (Nat.le_refl _) s hc)
    rw [Option.getD_some, e]; exact hq
theorem G10 (l : List Item) (y : Bool) (hl : l.length ≤ 140737488355328) (x : Nat) (hx : x < 4294967296) (r : Int) : F Try.prog 10 [.vs (l.map Item.cells) y, .val (.int .u32 x), .val (.int .i64 r)] (.tup [.val (.int .i64 (choP l x r)), .val (.bool (choB l x r))]) := by
  have := F10 l y hl x hx r
  rw [← choP_eq]; exact this
def natC (k : Nat) : List AV := [.val (.int .i64 k)]
theorem nat_g0 (b : Nat) : (natC b)[0]? = some (.val (.int .i64 b)) := rfl
theorem nat_at (l : List Nat) (k : Nat) (hk : k < l.length) : (l.map natC).flatten[k]? = some (.val (.int .i64 (l.getD k default))) := by
  have := row_at natC (s := 1) (fun _ => rfl) l (k := k) (j := 0) hk (by decide)
  simpa [natC] using this
theorem nat_set (l : List Nat) (k : Nat) (hk : k < l.length) (c : Nat) : setRange (l.map natC).flatten k [.val (.int .i64 ((c : Int) + 1))] = ((l.set k (c + 1)).map natC).flatten := by
  have := row_set natC (s := 1) (fun _ => rfl) l hk (c + 1)
  simpa [natC] using this
theorem nat_len (l : List Nat) : (l.map natC).flatten.length = l.length := by rw [row_len natC (s := 1) (fun _ => rfl) l, Nat.mul_one]
def countTo (l : List Item) (fr : Nat) : Nat → List Nat
  | 0 => List.replicate l.length 0
  | k + 1 => if choB l (askAt fr k) 0 then (countTo l fr k).set (choP l (askAt fr k) 0) ((countTo l fr k).getD (choP l (askAt fr k) 0) default + 1) else countTo l fr k
theorem countTo_len (l : List Item) (fr : Nat) : ∀ k, (countTo l fr k).length = l.length
  | 0 => List.length_replicate
  | k + 1 => by unfold countTo; split <;> simp [countTo_len l fr k]
theorem countTo_le (l : List Item) (fr : Nat) (q : Nat) : ∀ k, (countTo l fr k).getD q default ≤ k
  | 0 => by
    unfold countTo
    rw [List.getD_eq_getElem?_getD, List.getElem?_replicate]; split <;> simp
  | k + 1 => by
    have ih := fun q => countTo_le l fr q k
    unfold countTo
    split
    · rw [List.getD_eq_getElem?_getD, List.getElem?_set]
      split
      · split
        · have := ih (choP l (askAt fr k) 0); simp only [Option.getD_some]; omega
        · simp
      · have := ih q; rw [List.getD_eq_getElem?_getD] at this; omega
    · have := ih q; omega
theorem map_rep {α β : Type} (f : α → β) (n : Nat) (a : α) : List.replicate n (f a) = (List.replicate n a).map f := by simp
theorem mk_35 (n : Nat) (h : n ≤ 140737488355320) (h2 : n * 16 ≤ 140737488355328) : mkSliceA Try.prog 35 (.val (.int .i64 n)) (.val (.int .i64 n)) = some (3, n, n, ((List.replicate n 0).map natC).flatten) := by
  simp only [mkSliceA, ti_35, ti_3, z_3]
  rw [if_pos ⟨by omega, by omega, by omega, by omega, rfl, by decide⟩]
  simp only [Int.toNat_natCast, ← map_rep]
  rfl
theorem F13 (l : List Item) (y : Bool) (hl : l.length * 16 ≤ 140737488355328) (fr : Nat) (hfr : fr < 4294967296) (cnt : Int) : F Try.prog 13 [.vs (l.map Item.cells) y, .val (.int .u32 fr), .val (.int .i64 cnt)] (.vs ((countTo l fr (askN cnt)).map natC) false) := by
  have mk := mk_35 l.length (by omega) hl
  have hN := askN_le cnt
  refine F13_of ?_
  unfold k13
  repeat' first
    | simp -dsimp (disch := omega) only [↓rulesA, rulesB, rulesC, Int.reduceLT, nth, upd, put, storeN, AV.one, Nat.reduceBEq, Nat.reduceBNe, Int.reduceBEq, Int.reduceBNe, Int.reduceLE, Int.reduceEq, Int.reduceMod, Int.reduceNeg, boolBin, strBin, intBin, unA, fillA, ne_eq, reduceCtorEq, Nat.reduceAdd, Nat.reduceSub, Nat.reduceLeDiff, Nat.reduceLT, Nat.reduceEqDiff, Int.reduceToNat, eq_self, rulesT, bne_self_eq_false, mm_min, mm_max, buOf_some, nilCheck_vp, nilCheck_ptr, nilCheck_yld, nilCheck_func, *]
    | (refine allK_intro fun n hn => ?_; try simp only [fresh_set] at hn)
    | (refine ifK_intro (fun h => ?_) (fun h => ?_) <;> (try simp only [decide_eq_true_eq, decide_eq_false_iff_not, Bool.not_eq_true', Bool.not_eq_false'] at h) <;> try (exfalso; (try simp only [beq_iff_eq, beq_eq_false_iff_ne, bne_iff_ne, bne_eq_false_iff_eq, ne_eq] at h); omega))
    | (refine keeps_sub (Mem.sub_set (by simp [Mem.set_at, nomem, *])) ?_)
  rename_i n3 _ nO hnO
  obtain ⟨n7, e7⟩ : ∃ q, q = n := ⟨n, rfl⟩
  subst e7
  obtain ⟨a1, a2, -⟩ := hnO
  obtain ⟨b1, b2, b3, b4, -⟩ := hn
  refine call_on (C25 fr cnt) (nomem_sub _) fun q m' ⟨hq, hm⟩ _ => ?_
  subst hq
  subst hm
  rw [Mem.plus_nomem nomem _ fun n h => absurd rfl h]
  repeat' first
    | simp -dsimp (disch := omega) only [↓rulesA, rulesB, rulesC, Int.reduceLT, nth, upd, put, storeN, AV.one, Nat.reduceBEq, Nat.reduceBNe, Int.reduceBEq, Int.reduceBNe, Int.reduceLE, Int.reduceEq, Int.reduceMod, Int.reduceNeg, boolBin, strBin, intBin, unA, fillA, ne_eq, reduceCtorEq, Nat.reduceAdd, Nat.reduceSub, Nat.reduceLeDiff, Nat.reduceLT, Nat.reduceEqDiff, Int.reduceToNat, eq_self, rulesT, bne_self_eq_false, mm_min, mm_max, buOf_some, nilCheck_vp, nilCheck_ptr, nilCheck_yld, nilCheck_func, *]
    | (refine allK_intro fun n hn => ?_; try simp only [fresh_set] at hn)
    | (refine ifK_intro (fun h => ?_) (fun h => ?_) <;> (try simp only [decide_eq_true_eq, decide_eq_false_iff_not, Bool.not_eq_true', Bool.not_eq_false'] at h) <;> try (exfalso; (try simp only [beq_iff_eq, beq_eq_false_iff_ne, bne_iff_ne, bne_eq_false_iff_eq, ne_eq] at h); omega))
    | (refine keeps_sub (Mem.sub_set (by simp [Mem.set_at, nomem, *])) ?_)
  refine range_iter mixed la13_0_is lb13_0_is (I36 fr cnt) (nomem_sub _) ?_ (fun n h => by cases h)
    (fun k m1 => k ≤ askN cnt ∧ m1 = ((nomem.set n3 (.cells false 22 [.vs (l.map Item.cells) y])).set nO (.cells false 3 ((countTo l fr k).map natC).flatten)).set n7 (.cells false 35 [.sl nO 0 l.length l.length])) _ (Mem.sub.refl _) ⟨by omega, rfl⟩ ?_ ?_
  · intro q hq
    obtain ⟨d, _, rfl⟩ := List.mem_map.1 hq
    rfl
  · rintro k hk nl m1 ⟨hk', rfl⟩ hnl
    rw [askR_at fr cnt k hk]
    rw [askR_len] at hk
    simp only [fresh_set] at hnl
    obtain ⟨c1, c2, c3, c4, c5, c6, -⟩ := hnl
    have hlen := countTo_len l fr k
    have hle := countTo_le l fr (choP l (askAt fr k) 0) k
    have hg := G10 l y (by omega) (askAt fr k) (askAt_lt fr k) 0
    unfold la13_0 lb13_0
    cases hb : choB l (askAt fr k) 0 with
    | false =>
      have hst : countTo l fr (k + 1) = countTo l fr k := by rw [countTo, hb]; rfl
      repeat' first
        | simp -dsimp (disch := omega) only [↓rulesA, rulesB, rulesC, Int.reduceLT, nth, upd, put, storeN, AV.one, Nat.reduceBEq, Nat.reduceBNe, Int.reduceBEq, Int.reduceBNe, Int.reduceLE, Int.reduceEq, Int.reduceMod, Int.reduceNeg, boolBin, strBin, intBin, unA, fillA, ne_eq, reduceCtorEq, Nat.reduceAdd, Nat.reduceSub, Nat.reduceLeDiff, Nat.reduceLT, Nat.reduceEqDiff, Int.reduceToNat, eq_self, rulesT, bne_self_eq_false, mm_min, mm_max, buOf_some, nilCheck_vp, nilCheck_ptr, nilCheck_yld, nilCheck_func, startA_one, *]
        | (refine allK_intro fun n hn => ?_; try simp only [fresh_set] at hn)
        | (refine ifK_intro (fun h => ?_) (fun h => ?_) <;> (try simp only [decide_eq_true_eq, decide_eq_false_iff_not, Bool.not_eq_true', Bool.not_eq_false'] at h) <;> try (exfalso; (try simp only [beq_iff_eq, beq_eq_false_iff_ne, bne_iff_ne, bne_eq_false_iff_eq, ne_eq] at h); omega))
        | (refine keeps_sub (Mem.sub_set (by simp [Mem.set_at, nomem, *])) ?_)
        | (refine call_F (hg) (Seens.refl _ _) ?_)
        | (refine pure_F (hg) (Seens.refl _ _) ?_)
      rw [roundV_normal]
      refine ⟨by simp [Mem.set_at, *], _, ?_, ⟨hk, rfl⟩⟩
      refine Mem.set_sub (Mem.set_sub (nomem_set_sub ?_) ?_) ?_ <;> simp [Mem.set_at, Mem.del_at, *]
    | true =>
      have hp := choP_lt hb
      have hst : Kept (countTo l fr (k + 1) = (countTo l fr k).set (choP l (askAt fr k) 0) ((countTo l fr k).getD (choP l (askAt fr k) 0) default + 1)) := by show countTo l fr (k + 1) = _; rw [countTo, hb]; rfl
      repeat' first
        | simp -dsimp (disch := omega) only [↓rulesA, rulesB, rulesC, Int.reduceLT, nth, upd, put, storeN, AV.one, Nat.reduceBEq, Nat.reduceBNe, Int.reduceBEq, Int.reduceBNe, Int.reduceLE, Int.reduceEq, Int.reduceMod, Int.reduceNeg, boolBin, strBin, intBin, unA, fillA, ne_eq, reduceCtorEq, Nat.reduceAdd, Nat.reduceSub, Nat.reduceLeDiff, Nat.reduceLT, Nat.reduceEqDiff, Int.reduceToNat, eq_self, rulesT, bne_self_eq_false, mm_min, mm_max, buOf_some, nilCheck_vp, nilCheck_ptr, nilCheck_yld, nilCheck_func, startA_one, nat_at, nat_set, nat_len, Nat.mul_one, *]
        | (refine allK_intro fun n hn => ?_; try simp only [fresh_set] at hn)
        | (refine ifK_intro (fun h => ?_) (fun h => ?_) <;> (try simp only [decide_eq_true_eq, decide_eq_false_iff_not, Bool.not_eq_true', Bool.not_eq_false'] at h) <;> try (exfalso; (try simp only [beq_iff_eq, beq_eq_false_iff_ne, bne_iff_ne, bne_eq_false_iff_eq, ne_eq] at h); omega))
        | (refine keeps_sub (Mem.sub_set (by simp [Mem.set_at, nomem, *])) ?_)
        | (refine call_F (hg) (Seens.refl _ _) ?_)
        | (refine pure_F (hg) (Seens.refl _ _) ?_)
      rw [roundV_normal]
      refine ⟨by simp [Mem.set_at, *], _, ?_, ⟨hk, rfl⟩⟩
      rw [(hst : _ = _)]
      refine Mem.set_sub (Mem.set_sub (nomem_set_sub ?_) ?_) ?_
      · simp [Mem.set_at, Mem.del_at, *]
      · rw [Mem.del_at, if_neg c4, Mem.set_same]
      · simp [Mem.set_at, Mem.del_at, *]
  · rintro m1 ⟨-, rfl⟩
    rw [askR_len]
    have hlen := countTo_len l fr (askN cnt)
    repeat' first
      | simp -dsimp (disch := omega) only [↓rulesA, rulesB, rulesC, Int.reduceLT, nth, upd, put, storeN, AV.one, Nat.reduceBEq, Nat.reduceBNe, Int.reduceBEq, Int.reduceBNe, Int.reduceLE, Int.reduceEq, Int.reduceMod, Int.reduceNeg, boolBin, strBin, intBin, unA, fillA, ne_eq, reduceCtorEq, Nat.reduceAdd, Nat.reduceSub, Nat.reduceLeDiff, Nat.reduceLT, Nat.reduceEqDiff, Int.reduceToNat, eq_self, rulesT, bne_self_eq_false, mm_min, mm_max, buOf_some, nilCheck_vp, nilCheck_ptr, nilCheck_yld, nilCheck_func, *]
      | (refine allK_intro fun n hn => ?_; try simp only [fresh_set] at hn)
      | (refine ifK_intro (fun h => ?_) (fun h => ?_) <;> (try simp only [decide_eq_true_eq, decide_eq_false_iff_not, Bool.not_eq_true', Bool.not_eq_false'] at h) <;> try (exfalso; (try simp only [beq_iff_eq, beq_eq_false_iff_ne, bne_iff_ne, bne_eq_false_iff_eq, ne_eq] at h); omega))
      | (refine keeps_sub (Mem.sub_set (by simp [Mem.set_at, nomem, *])) ?_)
    have := New.row natC (s := 1) (fun _ => rfl) (fun _ => rfl) (countTo l fr (askN cnt)) (n := nO) (cap := l.length) (opn := false) (t := 3) (m := ((nomem.set n3 (.cells false 22 [.vs (l.map Item.cells) y])).set nO (.cells false 3 ((countTo l fr (askN cnt)).map natC).flatten)).set n7 (.cells false 35 [.sl nO 0 l.length l.length])) ((Mem.set_ne _ _ b2).trans (Mem.set_same _ _ _))
    rwa [hlen] at this
end Go.Proofs.Yteilhoojlcpbpaa

