/- Package 05: the reference's device: what makes and changes it. -/
import Derived.Test.YtkfjjjjejdogbaaD14
set_option maxRecDepth 100000
set_option maxHeartbeats 1000000
set_option linter.unusedSimpArgs false
set_option linter.unusedVariables false
namespace Go.Proofs.Ytkfjjjjejdogbaa
open Go.Abs
attribute [local irreducible] C X CC Y CV CW binK litK AppK PureC PureCV againK loopV rangeV allK ifK got onB condK V stepsK planK opK firstK seeE keepsK

theorem img_zero : ∀ n, imgL (List.replicate n Sec.zero) = List.replicate (n * 64) 0
  | 0 => rfl
  | n + 1 => by
    rw [List.replicate_succ, img_cons, img_zero n]
    show List.replicate 64 0 ++ _ = _
    rw [List.replicate_append_replicate]; congr 1; omega
theorem mk_27b (n : Nat) (h : n ≤ 4096) : mkSliceA Try.prog 27 (.val (.int .i64 ((n : Int) * 64))) (.val (.int .i64 ((n : Int) * 64))) = some (5, n * 64, n * 64, ((imgL (List.replicate n Sec.zero)).map byteC).flatten) := by
  have e : ((n : Int) * 64).toNat = n * 64 := by omega
  simp only [mkSliceA, ti_27, ti_5, z_5]
  rw [if_pos ⟨by omega, by omega, by omega, by omega, rfl, by decide⟩]
  simp only [e, img_zero, ← map_rep]
  rfl
theorem C21 (q : Nat) (h1 : 1 ≤ q) (h2 : q ≤ 4096) : C Try.prog 21 [.val (.int .i64 q)] nomem (fun r m' => ∃ N, r = .ptr N 0 ∧ (newDev q).RAt N m') := by
  have mk := mk_27b q h2
  refine C.turn (C21_of ?_)
  unfold k21
  repeat' first
    | simp -dsimp (disch := omega) only [↓rulesA, rulesB, rulesC, Int.reduceLT, nth, upd, put, storeN, AV.one, Nat.reduceBEq, Nat.reduceBNe, Int.reduceBEq, Int.reduceBNe, Int.reduceLE, Int.reduceEq, Int.reduceMod, Int.reduceNeg, boolBin, strBin, intBin, unA, fillA, ne_eq, reduceCtorEq, Nat.reduceAdd, Nat.reduceSub, Nat.reduceLeDiff, Nat.reduceLT, Nat.reduceEqDiff, Int.reduceToNat, eq_self, rulesT, bne_self_eq_false, mm_min, mm_max, buOf_some, nilCheck_vp, nilCheck_ptr, nilCheck_yld, nilCheck_func, *]
    | (refine allK_intro fun n hn => ?_; try simp only [fresh_set] at hn)
    | (refine ifK_intro (fun h => ?_) (fun h => ?_) <;> (try simp only [decide_eq_true_eq, decide_eq_false_iff_not, Bool.not_eq_true', Bool.not_eq_false'] at h) <;> try (exfalso; (try simp only [beq_iff_eq, beq_eq_false_iff_ne, bne_iff_ne, bne_eq_false_iff_eq, ne_eq] at h); omega))
    | (refine keeps_sub (Mem.sub_set (by simp [Mem.set_at, nomem, *])) ?_)
  obtain ⟨hne, hne', -⟩ := hn
  refine Turns.cellNil 81 2 (Mem.set_same _ _ _) rfl fun n3 hn3 => ?_
  simp only [fresh_set] at hn3
  obtain ⟨a1, a2, a3, a4, -⟩ := hn3
  have e : (newDev q).laid.length = q := by simp [newDev]
  refine .sub (m' := (newDev q).rmem n n3 _ 0) ?_ ⟨_, rfl, n3, _, 0, a2, hne, a3, fun h => (by cases h), rfl⟩
  unfold Dev.rmem
  refine Mem.set_sub (Mem.set_sub (Mem.set_sub (nomem_sub _) ?_) ?_) ?_
  · simp [Mem.set_at, *, newDev]
  · simp [Mem.set_at, *, newDev]
  · simp [Mem.set_at, *, newDev, Dev.ro, Dev.rl, Dev.rrow, leftI]
theorem C21_no (k : Int) (h : ¬ (1 ≤ k ∧ k ≤ 4096)) : C Try.prog 21 [.val (.int .i64 k)] nomem (fun r m' => r = .val (.pointer none) ∧ m' = nomem) := by
  refine C21_of ?_
  unfold k21
  repeat' first
    | simp -dsimp (disch := omega) only [↓rulesA, rulesB, rulesC, Int.reduceLT, nth, upd, put, storeN, AV.one, Nat.reduceBEq, Nat.reduceBNe, Int.reduceBEq, Int.reduceBNe, Int.reduceLE, Int.reduceEq, Int.reduceMod, Int.reduceNeg, boolBin, strBin, intBin, unA, fillA, ne_eq, reduceCtorEq, Nat.reduceAdd, Nat.reduceSub, Nat.reduceLeDiff, Nat.reduceLT, Nat.reduceEqDiff, Int.reduceToNat, eq_self, rulesT, bne_self_eq_false, mm_min, mm_max, buOf_some, nilCheck_vp, nilCheck_ptr, nilCheck_yld, nilCheck_func, *]
    | (refine allK_intro fun n hn => ?_; try simp only [fresh_set] at hn)
    | (refine ifK_intro (fun h => ?_) (fun h => ?_) <;> (try simp only [decide_eq_true_eq, decide_eq_false_iff_not, Bool.not_eq_true', Bool.not_eq_false'] at h) <;> try (exfalso; (try simp only [beq_iff_eq, beq_eq_false_iff_ne, bne_iff_ne, bne_eq_false_iff_eq, ne_eq] at h); omega))
    | (refine keeps_sub (Mem.sub_set (by simp [Mem.set_at, nomem, *])) ?_)
  all_goals first | exact ⟨rfl, rfl⟩ | (exfalso; omega)
theorem C34 (d : Dev) {N : Nat} {m : Mem} (hat : d.RAt N m) : C Try.prog 34 [.ptr N 0] m (fun r m' => r = .tup [] ∧ (onD d).RAt N m') := by
  obtain ⟨nC, nD, pk, h1, h2, h3, h4, rfl⟩ := hat
  refine C.turn (C34_of ?_)
  unfold k34
  unfold Dev.rmem
  repeat' first
    | simp -dsimp (disch := omega) only [↓rulesA, rulesB, rulesC, Int.reduceLT, nth, upd, put, storeN, AV.one, Nat.reduceBEq, Nat.reduceBNe, Int.reduceBEq, Int.reduceBNe, Int.reduceLE, Int.reduceEq, Int.reduceMod, Int.reduceNeg, boolBin, strBin, intBin, unA, fillA, ne_eq, reduceCtorEq, Nat.reduceAdd, Nat.reduceSub, Nat.reduceLeDiff, Nat.reduceLT, Nat.reduceEqDiff, Int.reduceToNat, eq_self, rulesT, bne_self_eq_false, mm_min, mm_max, buOf_some, nilCheck_vp, nilCheck_ptr, nilCheck_yld, nilCheck_func, Dev.rrow, Dev.ro, Dev.t4, Dev.p0, Dev.p1, Dev.p2, Dev.p3, Dev.p4, Dev.p5, Dev.p6, Dev.p7, Dev.plen, Dev.t2, Dev.t3, Dev.t5, Dev.t6, Dev.t7, *]
    | (refine allK_intro fun n hn => ?_; try simp only [fresh_set] at hn)
    | (refine ifK_intro (fun h => ?_) (fun h => ?_) <;> (try simp only [decide_eq_true_eq, decide_eq_false_iff_not, Bool.not_eq_true', Bool.not_eq_false'] at h) <;> try (exfalso; (try simp only [beq_iff_eq, beq_eq_false_iff_ne, bne_iff_ne, bne_eq_false_iff_eq, ne_eq] at h); omega))
    | (refine keeps_sub (Mem.sub_set (by simp [Mem.set_at, nomem, *])) ?_)
  exact Turns.id ⟨rfl, nC, nD, pk, h1, h2, h3, h4, rfl⟩
theorem C33 (d : Dev) {N : Nat} {m : Mem} (hat : d.RAt N m) (c p : Int) : C Try.prog 33 [.ptr N 0, .val (.int .i64 c), .val (.int .u64 p)] m (fun r m' => r = .tup [] ∧ (cutD d c p).RAt N m') := by
  have hat0 := hat
  obtain ⟨nC, nD, pk, h1, h2, h3, h4, rfl⟩ := hat
  refine C.turn (C33_of ?_)
  unfold k33
  unfold Dev.rmem at hat0 ⊢
  rcases hdd : d.dead
  · by_cases h0 : 0 ≤ c
    · have hc : (c < -1) = False := eq_false (by omega)
      have e : Kept (cutD d c p = { d with set := true, left := c, pick := p }) := by
        show cutD d c p = _
        unfold cutD; rw [if_neg (by rw [hdd]; decide), if_pos h0]
      repeat' first
        | simp -dsimp (disch := omega) only [↓rulesA, rulesB, rulesC, Int.reduceLT, nth, upd, put, storeN, AV.one, Nat.reduceBEq, Nat.reduceBNe, Int.reduceBEq, Int.reduceBNe, Int.reduceLE, Int.reduceEq, Int.reduceMod, Int.reduceNeg, boolBin, strBin, intBin, unA, fillA, ne_eq, reduceCtorEq, Nat.reduceAdd, Nat.reduceSub, Nat.reduceLeDiff, Nat.reduceLT, Nat.reduceEqDiff, Int.reduceToNat, eq_self, rulesT, bne_self_eq_false, mm_min, mm_max, buOf_some, nilCheck_vp, nilCheck_ptr, nilCheck_yld, nilCheck_func, Dev.rrow, Dev.ro, Dev.t4, Dev.p0, Dev.p1, Dev.p2, Dev.p3, Dev.p4, Dev.p5, Dev.p6, Dev.p7, Dev.plen, Dev.t2, Dev.t3, Dev.t5, Dev.t6, Dev.t7, *]
        | (refine allK_intro fun n hn => ?_; try simp only [fresh_set] at hn)
        | (refine ifK_intro (fun h => ?_) (fun h => ?_) <;> (try simp only [decide_eq_true_eq, decide_eq_false_iff_not, Bool.not_eq_true', Bool.not_eq_false'] at h) <;> try (exfalso; (try simp only [beq_iff_eq, beq_eq_false_iff_ne, bne_iff_ne, bne_eq_false_iff_eq, ne_eq] at h); omega))
        | (refine keeps_sub (Mem.sub_set (by simp [Mem.set_at, nomem, *])) ?_)
      exact Turns.id ⟨rfl, Dev.RAt.eq (d := { d with set := true, left := c, pick := p }) ⟨nC, nD, p, h1, h2, h3, fun _ => rfl, rfl⟩ (e : _ = _).symm⟩
    · have hc : (if c < -1 then -1 else c) = -1 := by split <;> omega
      have e : Kept (cutD d c p = { d with set := false, left := 0, pick := 0 }) := by
        show cutD d c p = _
        unfold cutD; rw [if_neg (by rw [hdd]; decide), if_neg h0]
      repeat' first
        | simp -dsimp (disch := omega) only [↓rulesA, rulesB, rulesC, Int.reduceLT, nth, upd, put, storeN, AV.one, Nat.reduceBEq, Nat.reduceBNe, Int.reduceBEq, Int.reduceBNe, Int.reduceLE, Int.reduceEq, Int.reduceMod, Int.reduceNeg, boolBin, strBin, intBin, unA, fillA, ne_eq, reduceCtorEq, Nat.reduceAdd, Nat.reduceSub, Nat.reduceLeDiff, Nat.reduceLT, Nat.reduceEqDiff, Int.reduceToNat, eq_self, rulesT, bne_self_eq_false, mm_min, mm_max, buOf_some, nilCheck_vp, nilCheck_ptr, nilCheck_yld, nilCheck_func, Dev.rrow, Dev.ro, Dev.t4, Dev.p0, Dev.p1, Dev.p2, Dev.p3, Dev.p4, Dev.p5, Dev.p6, Dev.p7, Dev.plen, Dev.t2, Dev.t3, Dev.t5, Dev.t6, Dev.t7, *]
        | (refine allK_intro fun n hn => ?_; try simp only [fresh_set] at hn)
        | (refine ifK_intro (fun h => ?_) (fun h => ?_) <;> (try simp only [decide_eq_true_eq, decide_eq_false_iff_not, Bool.not_eq_true', Bool.not_eq_false'] at h) <;> try (exfalso; (try simp only [beq_iff_eq, beq_eq_false_iff_ne, bne_iff_ne, bne_eq_false_iff_eq, ne_eq] at h); omega))
        | (refine keeps_sub (Mem.sub_set (by simp [Mem.set_at, nomem, *])) ?_)
      exact Turns.id ⟨rfl, Dev.RAt.eq (d := { d with set := false, left := 0, pick := 0 }) ⟨nC, nD, p, h1, h2, h3, fun h => (by cases h), rfl⟩ (e : _ = _).symm⟩
  · repeat' first
      | simp -dsimp (disch := omega) only [↓rulesA, rulesB, rulesC, Int.reduceLT, nth, upd, put, storeN, AV.one, Nat.reduceBEq, Nat.reduceBNe, Int.reduceBEq, Int.reduceBNe, Int.reduceLE, Int.reduceEq, Int.reduceMod, Int.reduceNeg, boolBin, strBin, intBin, unA, fillA, ne_eq, reduceCtorEq, Nat.reduceAdd, Nat.reduceSub, Nat.reduceLeDiff, Nat.reduceLT, Nat.reduceEqDiff, Int.reduceToNat, eq_self, rulesT, bne_self_eq_false, mm_min, mm_max, buOf_some, nilCheck_vp, nilCheck_ptr, nilCheck_yld, nilCheck_func, Dev.rrow, Dev.ro, Dev.t4, Dev.p0, Dev.p1, Dev.p2, Dev.p3, Dev.p4, Dev.p5, Dev.p6, Dev.p7, Dev.plen, Dev.t2, Dev.t3, Dev.t5, Dev.t6, Dev.t7, *]
      | (refine allK_intro fun n hn => ?_; try simp only [fresh_set] at hn)
      | (refine ifK_intro (fun h => ?_) (fun h => ?_) <;> (try simp only [decide_eq_true_eq, decide_eq_false_iff_not, Bool.not_eq_true', Bool.not_eq_false'] at h) <;> try (exfalso; (try simp only [beq_iff_eq, beq_eq_false_iff_ne, bne_iff_ne, bne_eq_false_iff_eq, ne_eq] at h); omega))
      | (refine keeps_sub (Mem.sub_set (by simp [Mem.set_at, nomem, *])) ?_)
    refine Turns.id ⟨rfl, hat0.eq ?_⟩
    unfold cutD; rw [if_pos hdd]
/-! ### A sector is laid down, byte by byte -/
def upTo (L : List UInt8) (a : Nat) (s : List UInt8) (i : Nat) : List UInt8 := L.take a ++ s.take i ++ L.drop (a + i)
theorem upTo_zero (L : List UInt8) (a : Nat) (s : List UInt8) : upTo L a s 0 = L := by simp [upTo]
theorem upTo_len {L s : List UInt8} {a i : Nat} (h : a + i ≤ L.length) (hs : i ≤ s.length) : (upTo L a s i).length = L.length := by simp [upTo]; omega
theorem upTo_set {L s : List UInt8} {a i : Nat} (h : a + i < L.length) (hs : i < s.length) : (upTo L a s i).set (a + i) (s.getD i default) = upTo L a s (i + 1) := by
  unfold upTo
  have h1 : (L.take a ++ s.take i).length = a + i := by simp; omega
  have h2 : s.take (i + 1) = s.take i ++ [s[i]] := by rw [List.take_add_one, List.getElem?_eq_getElem hs]; rfl
  rw [List.set_append_right _ _ (by omega), h1, Nat.sub_self, List.drop_eq_getElem_cons h, List.set_cons_zero, List.getD_eq_getElem?_getD, List.getElem?_eq_getElem hs, h2]
  simp only [List.append_assoc, List.cons_append, List.nil_append, Nat.add_assoc, Option.getD_some]
theorem upTo_img : ∀ (L : List Sec) (k : Nat) (s : Sec), k < L.length → upTo (imgL L) (k * 64) s.l 64 = imgL (L.set k s)
  | [], k, s, h => by simp at h
  | t :: L, 0, s, _ => by
    unfold upTo
    rw [img_cons, List.set_cons_zero, img_cons, Nat.zero_mul, List.take_zero, List.nil_append, List.take_of_length_le (by rw [s.h]; exact Nat.le_refl _)]
    congr 1
    rw [Nat.zero_add, ← t.h, List.drop_left]
  | t :: L, k + 1, s, h => by
    have ih := upTo_img L k s (by simpa using h)
    rw [List.set_cons_succ, img_cons t L, img_cons t (L.set k s), ← ih]
    unfold upTo
    have e1 : (k + 1) * 64 = t.l.length + k * 64 := by rw [t.h]; omega
    have e2 : (k + 1) * 64 + 64 = t.l.length + (k * 64 + 64) := by rw [t.h]; omega
    rw [e2, e1, List.take_length_add_append, List.drop_length_add_append]
    simp
theorem byte_set (l : List UInt8) (k : Nat) (hk : k < l.length) (b : UInt8) : setRange (l.map byteC).flatten k [.val (.int .u8 (b.toNat : Int))] = ((l.set k b).map byteC).flatten := by
  have := row_set byteC (s := 1) byteC_len l hk b
  simpa [byteC] using this
theorem index_9 (l : List UInt8) (kk : IntKind) (k : Int) (h0 : 0 ≤ k) (h1 : k < l.length) : indexA Try.prog 9 (.val (.string ⟨l.toArray⟩)) (.val (.int kk k)) = some (.val (.int .u8 ((l.getD k.toNat default).toNat : Int))) := index_text ti_9 rfl l kk k h0 h1
theorem C42 (d : Dev) (w : Wr) (hw : w.at_ < d.laid.length) (hm : d.laid.length ≤ 4096) {N : Nat} {m : Mem} (hat : d.RAt N m) : C Try.prog 42 [.ptr N 0, .agg (slotC w)] m (fun r m' => r = .tup [] ∧ ({ d with laid := d.laid.set w.at_ w.s } : Dev).RAt N m') := by
  obtain ⟨nC, nD, pk, h1, h2, h3, h4, rfl⟩ := hat
  have h1' := Ne.symm h1
  have h2' := Ne.symm h2
  have h3' := Ne.symm h3
  refine C.turn (C42_of ?_)
  unfold k42
  unfold Dev.rmem
  repeat' first
    | simp -dsimp (disch := omega) only [↓rulesA, rulesB, rulesC, Int.reduceLT, nth, upd, put, storeN, AV.one, Nat.reduceBEq, Nat.reduceBNe, Int.reduceBEq, Int.reduceBNe, Int.reduceLE, Int.reduceEq, Int.reduceMod, Int.reduceNeg, boolBin, strBin, intBin, unA, fillA, ne_eq, reduceCtorEq, Nat.reduceAdd, Nat.reduceSub, Nat.reduceLeDiff, Nat.reduceLT, Nat.reduceEqDiff, Int.reduceToNat, eq_self, rulesT, bne_self_eq_false, mm_min, mm_max, buOf_some, nilCheck_vp, nilCheck_ptr, nilCheck_yld, nilCheck_func, Slot.len, Slot.rat0, Slot.rat1, Slot.rin, Slot.rin1, Slot.rpart, Slot.rset1, Slot.slen, Slot.all, Slot.g0, Slot.g1, Slot.take, *]
    | (refine allK_intro fun n hn => ?_; try simp only [fresh_set] at hn)
    | (refine ifK_intro (fun h => ?_) (fun h => ?_) <;> (try simp only [decide_eq_true_eq, decide_eq_false_iff_not, Bool.not_eq_true', Bool.not_eq_false'] at h) <;> try (exfalso; (try simp only [beq_iff_eq, beq_eq_false_iff_ne, bne_iff_ne, bne_eq_false_iff_eq, ne_eq] at h); omega))
    | (refine keeps_sub (Mem.sub_set (by simp [Mem.set_at, nomem, *])) ?_)
  obtain ⟨nb, enb⟩ : ∃ q, q = n := ⟨n, rfl⟩
  subst enb
  obtain ⟨b1, b2, b3, b4, b5, b6, -⟩ := hn
  have hil := imgL_len d.laid
  refine loop_intro (fun j env m => ∃ i : Nat, i ≤ 64 ∧ j = 64 - i ∧ m = (((nomem.set nD (.cells false 5 ((upTo (imgL d.laid) (w.at_ * 64) w.s.l i).map byteC).flatten)).set nC (.cells true 81 (d.list.map slotC).flatten)).set N (.cells false 73 (d.ro nD (d.rrow nC) pk))).set nb (.cells false 81 (slotC w)) ∧
    env.length = 23 ∧ nth env 0 = .ptr N 0 ∧ nth env 3 = .ptr nb 0 ∧ nth env 4 = .val (.int .i64 i)) 64 _ (fun _ _ h => h) ⟨0, by omega, by omega, by rw [upTo_zero], rfl, rfl, rfl, rfl⟩ ?_
  rintro j env m ⟨i, hi, rfl, rfl, hlen, e0, e3, e4⟩
  have hul := upTo_len (L := imgL d.laid) (s := w.s.l) (a := w.at_ * 64) (i := i) (by omega) (by rw [w.s.h]; omega)
  have hsl := w.s.h
  have k1 : (w.at_ : Int) * 64 + (i : Int) = ((w.at_ * 64 + i : Nat) : Int) := by omega
  repeat' first
    | simp -dsimp (disch := omega) only [↓rulesA, rulesB, rulesC, Int.reduceLT, nth, upd, put, storeN, AV.one, Nat.reduceBEq, Nat.reduceBNe, Int.reduceBEq, Int.reduceBNe, Int.reduceLE, Int.reduceEq, Int.reduceMod, Int.reduceNeg, boolBin, strBin, intBin, unA, fillA, ne_eq, reduceCtorEq, Nat.reduceAdd, Nat.reduceSub, Nat.reduceLeDiff, Nat.reduceLT, Nat.reduceEqDiff, Int.reduceToNat, eq_self, rulesT, bne_self_eq_false, mm_min, mm_max, buOf_some, nilCheck_vp, nilCheck_ptr, nilCheck_yld, nilCheck_func, Slot.len, Slot.rat0, Slot.rat1, Slot.rin, Slot.rin1, Slot.rpart, Slot.rset1, Slot.slen, Slot.all, Slot.g0, Slot.g1, Slot.take, Dev.rrow, Dev.ro, Dev.t4, Dev.p0, Dev.p1, Dev.p2, Dev.p3, Dev.p4, Dev.p5, Dev.p6, Dev.p7, Dev.plen, Dev.t2, Dev.t3, Dev.t5, Dev.t6, Dev.t7, index_9, byte_set, flatten_one, Nat.mul_one, *]
    | (refine allK_intro fun n hn => ?_; try simp only [fresh_set] at hn)
    | (refine ifK_intro (fun h => ?_) (fun h => ?_) <;> (try simp only [decide_eq_true_eq, decide_eq_false_iff_not, Bool.not_eq_true', Bool.not_eq_false'] at h) <;> try (exfalso; (try simp only [beq_iff_eq, beq_eq_false_iff_ne, bne_iff_ne, bne_eq_false_iff_eq, ne_eq] at h); omega))
    | (refine keeps_sub (Mem.sub_set (by simp [Mem.set_at, nomem, *])) ?_)
  · have e := upTo_set (L := imgL d.laid) (s := w.s.l) (a := w.at_ * 64) (i := i) (by omega) (by omega)
    rw [e]
    refine again_intro (64 - (i + 1)) (by omega) ((((nomem.set nD (.cells false 5 ((upTo (imgL d.laid) (w.at_ * 64) w.s.l (i + 1)).map byteC).flatten)).set nC (.cells true 81 (d.list.map slotC).flatten)).set N (.cells false 73 (d.ro nD (d.rrow nC) pk))).set nb (.cells false 81 (slotC w))) ?_ ⟨i + 1, by omega, rfl, rfl, ?_, ?_, ?_, ?_⟩
    · refine Mem.set_sub (Mem.set_sub (Mem.set_sub (Mem.set_sub (nomem_sub _) ?_) ?_) ?_) ?_ <;> simp [Mem.set_at, Dev.ro, Dev.rrow, *]
    all_goals try (simp (disch := omega) only [nth_upd, pickB_true, pickB_false, inB_lt, upd_len, cast_succ, Nat.reduceBEq, beq_self_eq_true, reduceCtorEq, *]; done)
  · have : i = 64 := by omega
    subst this
    rw [upTo_img d.laid w.at_ w.s hw]
    refine .sub (m' := ({ d with laid := d.laid.set w.at_ w.s } : Dev).rmem N nC nD pk) ?_ ⟨rfl, nC, nD, pk, h1, h2, h3, h4, rfl⟩
    unfold Dev.rmem
    have e : (d.laid.set w.at_ w.s).length = d.laid.length := by simp
    refine Mem.set_sub (Mem.set_sub (Mem.set_sub (nomem_sub _) ?_) ?_) ?_
    · simp [Mem.set_at, *]
    · simp [Mem.set_at, *]
    · simp [Mem.set_at, *, Dev.ro, Dev.rl, Dev.rrow, leftI]
end Go.Proofs.Ytkfjjjjejdogbaa

