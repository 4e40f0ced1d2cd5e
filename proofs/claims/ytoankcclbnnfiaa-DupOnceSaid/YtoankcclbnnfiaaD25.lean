/- Package 20: the law DupMerges. -/
import Derived.Test.YtoankcclbnnfiaaD24
set_option maxRecDepth 100000
set_option maxHeartbeats 1000000
set_option linter.unusedSimpArgs false
set_option linter.unusedVariables false
namespace Go.Proofs.Ytoankcclbnnfiaa
open Go.Abs
attribute [local irreducible] C X CC Y CV CW binK litK AppK PureC PureCV againK loopV rangeV allK ifK got onB condK V stepsK planK opK firstK seeE keepsK

theorem fit_nil : Fit [] := ⟨by simp, by simp, by simp⟩
def ofs (R : List Entry) : List Dup := ofTo [] R R.length
theorem ofs_fit (R : List Entry) : Fit (ofs R) := of_fit fit_nil R _
/-- Where the row of rising entries lies. -/
def Lies (m : Mem) (v : AV) (R : List Entry) : Prop := (R = [] ∧ m = nomem ∧ v = .val (.slice none 0 0)) ∨ (0 < R.length ∧ ∃ n, m = nomem.set n (.cells true 58 (R.map Entry.cells).flatten) ∧ v = .sl n 0 R.length R.length)
theorem cv_3_59 (m : Mem) (kk : IntKind) (n : Int) : convA Try.prog m 3 59 (.val (.int kk n)) = some (.val (.int .u64 (IntKind.u64.wrap n))) := by simp only [convA, ti_3, ti_59]
theorem cv_59_3 (m : Mem) (kk : IntKind) (n : Int) : convA Try.prog m 59 3 (.val (.int kk n)) = some (.val (.int .i64 (IntKind.i64.wrap n))) := by simp only [convA, ti_3, ti_59]
theorem src_51 (m : Mem) (l : List Entry) (x : Bool) : srcA Try.prog m 51 14 (.vs (l.map Entry.cells) x) = some (l.length, (l.map Entry.cells).flatten) := src_vs Entry.cells ti_51 rfl (fun _ => ⟨rfl, rfl⟩) m l x
theorem lit1_51 (d : Entry) : litA Try.prog 51 1 [(0, .agg d.cells)] = some (58, 14, d.cells) := by
  simp only [litA, ti_51, ti_58, z_58, fillA, cells_agg, Entry.all, Entry.len, if_true]
  rfl
theorem u64_pos (n : Int) : 0 ≤ IntKind.u64.wrap n := by
  have : IntKind.u64.wrap n = n % 18446744073709551616 := rfl
  omega
theorem rem_k (c : Int) (n : Nat) : ∃ k : Nat, k ≤ n ∧ (IntKind.u64.wrap c).tmod ((n : Int) + 1) = k := by
  have h := u64_pos c
  refine ⟨((IntKind.u64.wrap c).tmod ((n : Int) + 1)).toNat, ?_, ?_⟩
  · rw [Int.tmod_eq_emod_of_nonneg h]
    have := Int.emod_lt_of_pos (IntKind.u64.wrap c) (show (0 : Int) < (n : Int) + 1 by omega)
    have := Int.emod_nonneg (IntKind.u64.wrap c) (show (n : Int) + 1 ≠ 0 by omega)
    omega
  · rw [Int.tmod_eq_emod_of_nonneg h]
    have := Int.emod_nonneg (IntKind.u64.wrap c) (show (n : Int) + 1 ≠ 0 by omega)
    omega
theorem Seen.rowTake (l : List Entry) {m : Mem} {n cap q : Nat} {opn : Bool} {t : TypeId} (hm : m n = some (.cells opn t (l.map Entry.cells).flatten)) (hq : q ≤ l.length) : Seen m (.sl n 0 q cap) (.vs ((l.take q).map Entry.cells) false) := by
  have hall : ∀ e ∈ l.map Entry.cells, e.length = 14 := fun e he => by obtain ⟨a, _, rfl⟩ := List.mem_map.1 he; rfl
  have hall' : ∀ e ∈ (l.take q).map Entry.cells, e.length = 14 := fun e he => by obtain ⟨a, _, rfl⟩ := List.mem_map.1 he; rfl
  have hlen : (l.map Entry.cells).flatten.length = l.length * 14 := by rw [flatten_len hall]; simp
  refine Seen.sl (s := 14) hm (by omega) (by simp; omega) hall' fun i hi j hj hk => ?_
  have hi' : i < q := by simp at hi; omega
  have hil : i < (l.map Entry.cells).length := by simp; omega
  have hj' : j < ((l.map Entry.cells)[i]).length := by simpa using hj
  have := flatten_get hall i hil j hj' (by simpa using hk)
  simp only [Nat.zero_add]
  rw [this]
  simp only [List.getElem_map, List.getElem_take] at hj ⊢
  exact .same
theorem slnil_51 (m : Mem) : sliceA Try.prog m 51 (.val (.slice none 0 0)) none (some (.val (.int .i64 0))) none = some (.val (.slice none 0 0)) := by
  simp only [sliceA, ti_51, ti_58]
  rfl
theorem F8 (es : List Entry) (x : Bool) (cut : Int) (hes : es.length ≤ 140737488355320) : F Try.prog 8 [.vs (es.map Entry.cells) x, .val (.int .i64 cut)] (.val (.bool true)) := by
  have h11 := F11
  refine F8_of ?_
  unfold k8
  repeat' first
    | simp -dsimp (disch := omega) only [↓rulesA, rulesB, rulesC, Int.reduceLT, nth, upd, put, storeN, AV.one, Nat.reduceBEq, Nat.reduceBNe, Int.reduceBEq, Int.reduceBNe, Int.reduceLE, boolBin, strBin, intBin, unA, buildA, placesA, fillA, ne_eq, reduceCtorEq, Nat.reduceAdd, Nat.reduceSub, Nat.reduceLeDiff, Nat.reduceLT, Nat.reduceEqDiff, Int.reduceToNat, eq_self, rulesT, *]
    | (refine allK_intro fun n hn => ?_; try simp only [fresh_set] at hn)
    | (refine ifK_intro (fun h => ?_) (fun h => ?_) <;> (try simp only [decide_eq_true_eq, decide_eq_false_iff_not, Bool.not_eq_true', Bool.not_eq_false'] at h) <;> try (exfalso; (try simp only [beq_iff_eq, beq_eq_false_iff_ne, bne_iff_ne, bne_eq_false_iff_eq, ne_eq] at h); omega))
    | (refine keeps_sub (Mem.sub_set (by simp [Mem.set_at, nomem, *])) ?_)
  refine loop_intro (fun j env m => ∃ (i : Nat) (R : List Entry), i ≤ es.length ∧ j = es.length - i ∧ R.length ≤ 60 ∧ Lies m (nth env 5) R ∧ env.length = 87 ∧ nth env 0 = .vs (es.map Entry.cells) x ∧ nth env 1 = .val (.int .i64 cut) ∧ nth env 6 = .val (.int .i64 i)) es.length nomem (fun _ _ h => h) ⟨0, [], by omega, by omega, by simp, .inl ⟨rfl, rfl, rfl⟩, rfl, rfl, rfl, rfl⟩ ?_
  rintro j env m ⟨i, R, hi, rfl, hR, hlies, hlen, e0, e1, e6⟩
  have hseen : ∃ v, nth env 5 = v ∧ Seen m v (.vs (R.map Entry.cells) false) := by
    refine ⟨_, rfl, ?_⟩
    rcases hlies with ⟨rfl, rfl, e⟩ | ⟨_, n, rfl, e⟩
    · rw [e]; exact .nilS
    · rw [e]; exact Seen.row Entry.cells (s := 14) (opn := true) (t := 58) (fun _ => rfl) _ (Mem.set_same _ _ _)
  obtain ⟨v, e5, hv⟩ := hseen
  rw [e5] at hlies
  have hlv : ∀ M, lenA Try.prog M 51 v = some (.val (.int .i64 R.length)) := fun M => by
    rcases hlies with ⟨rfl, _, rfl⟩ | ⟨_, n, _, rfl⟩
    · exact len_nil_51 M
    · exact len_own_51 M _ _ _ _
  repeat' first
    | simp -dsimp (disch := omega) only [↓rulesA, rulesB, rulesC, Int.reduceLT, nth, upd, put, storeN, AV.one, Nat.reduceBEq, Nat.reduceBNe, Int.reduceBEq, Int.reduceBNe, Int.reduceLE, boolBin, strBin, intBin, unA, buildA, placesA, fillA, ne_eq, reduceCtorEq, Nat.reduceAdd, Nat.reduceSub, Nat.reduceLeDiff, Nat.reduceLT, Nat.reduceEqDiff, Int.reduceToNat, eq_self, rulesT, ix_51, Entry.len, Entry.take, Entry.all, Entry.drop, Entry.part2, Entry.part10, Req.g0, Req.g1, Req.g2, Req.g3, Req.g4, Req.g5, Req.g6, Req.g7, Req.len, Req.take, Req.all, Req.drop, Req.sall, Req.slit, Res.g0, Res.g1, Res.g2, Res.g3, Res.len, Res.all, Res.take, Res.drop, Res.sall, Res.slit, *]
    | (refine allK_intro fun n hn => ?_; try simp only [fresh_set] at hn)
    | (refine ifK_intro (fun h => ?_) (fun h => ?_) <;> (try simp only [decide_eq_true_eq, decide_eq_false_iff_not, Bool.not_eq_true', Bool.not_eq_false'] at h) <;> try (exfalso; (try simp only [beq_iff_eq, beq_eq_false_iff_ne, bne_iff_ne, bne_eq_false_iff_eq, ne_eq] at h); omega))
    | (refine keeps_sub (Mem.sub_set (by simp [Mem.set_at, nomem, *])) ?_)
    | (refine keeps_stab (by repeat' first | exact stabK_nil _ _ | refine stabK_cons ?_ ?_ | (simp (disch := omega) only [quietA, Option.isSome_some, ↓rulesA, rulesB, rulesC, Int.reduceLT, nth, upd, put, storeN, AV.one, Nat.reduceBEq, Nat.reduceBNe, Int.reduceBEq, Int.reduceBNe, Int.reduceLE, boolBin, strBin, intBin, unA, buildA, placesA, fillA, ne_eq, reduceCtorEq, Nat.reduceAdd, Nat.reduceSub, Nat.reduceLeDiff, Nat.reduceLT, Nat.reduceEqDiff, Int.reduceToNat, eq_self, rulesT, ix_51, Entry.len, Entry.take, Entry.all, Entry.drop, Entry.part2, Entry.part10, Req.g0, Req.g1, Req.g2, Req.g3, Req.g4, Req.g5, Req.g6, Req.g7, Req.len, Req.take, Req.all, Req.drop, Req.sall, Req.slit, Res.g0, Res.g1, Res.g2, Res.g3, Res.len, Res.all, Res.take, Res.drop, Res.sall, Res.slit, *]; done)) ?_)
  · refine pure_F (F25 fit_nil true R false (by omega)) (Seens.cons .nilS (Seens.cons hv (Seens.refl _ _))) ?_
    repeat' first
      | simp -dsimp (disch := omega) only [↓rulesA, rulesB, rulesC, Int.reduceLT, nth, upd, put, storeN, AV.one, Nat.reduceBEq, Nat.reduceBNe, Int.reduceBEq, Int.reduceBNe, Int.reduceLE, boolBin, strBin, intBin, unA, buildA, placesA, fillA, ne_eq, reduceCtorEq, Nat.reduceAdd, Nat.reduceSub, Nat.reduceLeDiff, Nat.reduceLT, Nat.reduceEqDiff, Int.reduceToNat, eq_self, rulesT, ix_51, Entry.len, Entry.take, Entry.all, Entry.drop, Entry.part2, Entry.part10, Req.g0, Req.g1, Req.g2, Req.g3, Req.g4, Req.g5, Req.g6, Req.g7, Req.len, Req.take, Req.all, Req.drop, Req.sall, Req.slit, Res.g0, Res.g1, Res.g2, Res.g3, Res.len, Res.all, Res.take, Res.drop, Res.sall, Res.slit, *]
      | (refine allK_intro fun n hn => ?_; try simp only [fresh_set] at hn)
      | (refine ifK_intro (fun h => ?_) (fun h => ?_) <;> (try simp only [decide_eq_true_eq, decide_eq_false_iff_not, Bool.not_eq_true', Bool.not_eq_false'] at h) <;> try (exfalso; (try simp only [beq_iff_eq, beq_eq_false_iff_ne, bne_iff_ne, bne_eq_false_iff_eq, ne_eq] at h); omega))
      | (refine keeps_sub (Mem.sub_set (by simp [Mem.set_at, nomem, *])) ?_)
      | (refine keeps_stab (by repeat' first | exact stabK_nil _ _ | refine stabK_cons ?_ ?_ | (simp (disch := omega) only [quietA, Option.isSome_some, ↓rulesA, rulesB, rulesC, Int.reduceLT, nth, upd, put, storeN, AV.one, Nat.reduceBEq, Nat.reduceBNe, Int.reduceBEq, Int.reduceBNe, Int.reduceLE, boolBin, strBin, intBin, unA, buildA, placesA, fillA, ne_eq, reduceCtorEq, Nat.reduceAdd, Nat.reduceSub, Nat.reduceLeDiff, Nat.reduceLT, Nat.reduceEqDiff, Int.reduceToNat, eq_self, rulesT, ix_51, Entry.len, Entry.take, Entry.all, Entry.drop, Entry.part2, Entry.part10, Req.g0, Req.g1, Req.g2, Req.g3, Req.g4, Req.g5, Req.g6, Req.g7, Req.len, Req.take, Req.all, Req.drop, Req.sall, Req.slit, Res.g0, Res.g1, Res.g2, Res.g3, Res.len, Res.all, Res.take, Res.drop, Res.sall, Res.slit, *]; done)) ?_)
      | (refine call_F (J13 (of_fit fit_nil R R.length) _ _) (Seens.refl _ _) ?_)
      | (refine pure_F (J13 (of_fit fit_nil R R.length) _ _) (Seens.refl _ _) ?_)
      | (refine call_F (F10 _) (Seens.refl _ _) ?_)
      | (refine pure_F (F10 _) (Seens.refl _ _) ?_)
    · have hR' : R.length < 60 := by have h' := ‹(R.length : Int) < 60›; omega
      rcases hlies with ⟨rfl, rfl, rfl⟩ | ⟨hR0, n5, rfl, rfl⟩
      · refine lit_vs (lit1_51 _) rfl ?_
        repeat' first
          | simp -dsimp (disch := omega) only [↓rulesA, rulesB, rulesC, Int.reduceLT, nth, upd, put, storeN, AV.one, Nat.reduceBEq, Nat.reduceBNe, Int.reduceBEq, Int.reduceBNe, Int.reduceLE, boolBin, strBin, intBin, unA, buildA, placesA, fillA, ne_eq, reduceCtorEq, Nat.reduceAdd, Nat.reduceSub, Nat.reduceLeDiff, Nat.reduceLT, Nat.reduceEqDiff, Int.reduceToNat, eq_self, rulesT, ix_51, Entry.len, Entry.take, Entry.all, Entry.drop, Entry.part2, Entry.part10, *]
          | (refine allK_intro fun n hn => ?_; try simp only [fresh_set] at hn)
          | (refine ifK_intro (fun h => ?_) (fun h => ?_) <;> (try simp only [decide_eq_true_eq, decide_eq_false_iff_not, Bool.not_eq_true', Bool.not_eq_false'] at h) <;> try (exfalso; (try simp only [beq_iff_eq, beq_eq_false_iff_ne, bne_iff_ne, bne_eq_false_iff_eq, ne_eq] at h); omega))
          | (refine keeps_sub (Mem.sub_set (by simp [Mem.set_at, nomem, *])) ?_)
        refine append_nil app_51 (src_51 _ [es.getD i default] _) (show 1 * 136 ≤ 140737488355328 by decide) fun q hq => ?_
        simp only [fresh_set] at hq
        repeat' first
          | simp -dsimp (disch := omega) only [↓rulesA, rulesB, rulesC, Int.reduceLT, nth, upd, put, storeN, AV.one, Nat.reduceBEq, Nat.reduceBNe, Int.reduceBEq, Int.reduceBNe, Int.reduceLE, boolBin, strBin, intBin, unA, buildA, placesA, fillA, ne_eq, reduceCtorEq, Nat.reduceAdd, Nat.reduceSub, Nat.reduceLeDiff, Nat.reduceLT, Nat.reduceEqDiff, Int.reduceToNat, eq_self, rulesT, ix_51, Entry.len, Entry.take, Entry.all, Entry.drop, Entry.part2, Entry.part10, *]
          | (refine allK_intro fun n hn => ?_; try simp only [fresh_set] at hn)
          | (refine ifK_intro (fun h => ?_) (fun h => ?_) <;> (try simp only [decide_eq_true_eq, decide_eq_false_iff_not, Bool.not_eq_true', Bool.not_eq_false'] at h) <;> try (exfalso; (try simp only [beq_iff_eq, beq_eq_false_iff_ne, bne_iff_ne, bne_eq_false_iff_eq, ne_eq] at h); omega))
          | (refine keeps_sub (Mem.sub_set (by simp [Mem.set_at, nomem, *])) ?_)
        refine again_intro (es.length - (i + 1)) (by omega) (nomem.set q (.cells true 58 (([es.getD i default]).map Entry.cells).flatten)) (nomem_set_sub (by simp [Mem.set_at, *])) ⟨i + 1, [es.getD i default], by omega, rfl, by simp, .inr ⟨by simp, q, rfl, ?_⟩, ?_, ?_, ?_, ?_⟩
        all_goals try simp only [List.length_cons, List.length_nil, Nat.zero_add]
        all_goals try (simp (disch := omega) only [nth_upd, pickB_true, pickB_false, inB_lt, upd_len, cast_succ, Nat.reduceBEq, beq_self_eq_true, reduceCtorEq, *]; done)
      · simp only [fresh_set] at hn
        refine lit_vs (lit1_51 _) rfl ?_
        repeat' first
          | simp -dsimp (disch := omega) only [↓rulesA, rulesB, rulesC, Int.reduceLT, nth, upd, put, storeN, AV.one, Nat.reduceBEq, Nat.reduceBNe, Int.reduceBEq, Int.reduceBNe, Int.reduceLE, boolBin, strBin, intBin, unA, buildA, placesA, fillA, ne_eq, reduceCtorEq, Nat.reduceAdd, Nat.reduceSub, Nat.reduceLeDiff, Nat.reduceLT, Nat.reduceEqDiff, Int.reduceToNat, eq_self, rulesT, ix_51, Entry.len, Entry.take, Entry.all, Entry.drop, Entry.part2, Entry.part10, *]
          | (refine allK_intro fun n hn => ?_; try simp only [fresh_set] at hn)
          | (refine ifK_intro (fun h => ?_) (fun h => ?_) <;> (try simp only [decide_eq_true_eq, decide_eq_false_iff_not, Bool.not_eq_true', Bool.not_eq_false'] at h) <;> try (exfalso; (try simp only [beq_iff_eq, beq_eq_false_iff_ne, bne_iff_ne, bne_eq_false_iff_eq, ne_eq] at h); omega))
          | (refine keeps_sub (Mem.sub_set (by simp [Mem.set_at, nomem, *])) ?_)
        refine append_open app_51 (src_51 _ [es.getD i default] _) (cs := (R.map Entry.cells).flatten) (bt := 58) (by simp [Mem.set_at, *]) cs_58 (by rw [Entry.rlen, Nat.zero_add]) (show (R.length + 1) * 136 ≤ 140737488355328 by omega) fun q hq => ?_
        simp only [fresh_set] at hq
        repeat' first
          | simp -dsimp (disch := omega) only [↓rulesA, rulesB, rulesC, Int.reduceLT, nth, upd, put, storeN, AV.one, Nat.reduceBEq, Nat.reduceBNe, Int.reduceBEq, Int.reduceBNe, Int.reduceLE, boolBin, strBin, intBin, unA, buildA, placesA, fillA, ne_eq, reduceCtorEq, Nat.reduceAdd, Nat.reduceSub, Nat.reduceLeDiff, Nat.reduceLT, Nat.reduceEqDiff, Int.reduceToNat, eq_self, rulesT, ix_51, Entry.len, Entry.take, Entry.all, Entry.drop, Entry.part2, Entry.part10, *]
          | (refine allK_intro fun n hn => ?_; try simp only [fresh_set] at hn)
          | (refine ifK_intro (fun h => ?_) (fun h => ?_) <;> (try simp only [decide_eq_true_eq, decide_eq_false_iff_not, Bool.not_eq_true', Bool.not_eq_false'] at h) <;> try (exfalso; (try simp only [beq_iff_eq, beq_eq_false_iff_ne, bne_iff_ne, bne_eq_false_iff_eq, ne_eq] at h); omega))
          | (refine keeps_sub (Mem.sub_set (by simp [Mem.set_at, nomem, *])) ?_)
        refine again_intro (es.length - (i + 1)) (by omega) (nomem.set q (.cells true 58 ((R ++ [es.getD i default]).map Entry.cells).flatten)) (nomem_set_sub (by simp [Mem.set_at, Mem.del_at, *])) ⟨i + 1, R ++ [es.getD i default], by omega, rfl, by simp; omega, .inr ⟨by simp, q, rfl, ?_⟩, ?_, ?_, ?_, ?_⟩
        all_goals try simp only [List.length_append, List.length_cons, List.length_nil, Nat.zero_add]
        all_goals try (simp (disch := omega) only [nth_upd, pickB_true, pickB_false, inB_lt, upd_len, cast_succ, Nat.reduceBEq, beq_self_eq_true, reduceCtorEq, *]; done)
    all_goals
      refine again_intro (es.length - (i + 1)) (by omega) m (Mem.sub_set (by assumption)) ⟨i + 1, R, by omega, rfl, hR, ?_, ?_, ?_, ?_, ?_⟩
      all_goals try (simp (disch := omega) only [nth_upd, pickB_true, pickB_false, inB_lt, upd_len, cast_succ, Nat.reduceBEq, beq_self_eq_true, reduceCtorEq, *]; done)
  · obtain ⟨k, hk, ek⟩ := rem_k cut R.length
    have hz : ((R.length : Int) + 1 = 0) = False := by simp; omega
    rcases hlies with ⟨rfl, rfl, rfl⟩ | ⟨hR0, n5, rfl, rfl⟩
    · have hk0 : k = 0 := by simpa using hk
      subst hk0
      have h10 : ((1 : Int) = 0) = False := by simp
      have hfit := ofs_fit []
      have h25 := F25 fit_nil true [] false (by simp)
      have h27 := F27 [] [] false false (by simp) (by simp)
      rw [mrg_done] at h27
      have h16 := F16 [] [] false false (by simp)
      rw [samesB_self] at h16
      repeat' first
        | simp -dsimp (disch := omega) only [↓rulesA, rulesB, rulesC, Int.reduceLT, nth, upd, put, storeN, AV.one, Nat.reduceBEq, Nat.reduceBNe, Int.reduceBEq, Int.reduceBNe, Int.reduceLE, boolBin, strBin, intBin, unA, buildA, placesA, fillA, ne_eq, reduceCtorEq, Nat.reduceAdd, Nat.reduceSub, Nat.reduceLeDiff, Nat.reduceLT, Nat.reduceEqDiff, Int.reduceToNat, eq_self, rulesT, cv_3_59, cv_59_3, Int.zero_add, Int.tmod_one, slnil_51, *]
        | (refine allK_intro fun n hn => ?_; try simp only [fresh_set] at hn)
        | (refine ifK_intro (fun h => ?_) (fun h => ?_) <;> (try simp only [decide_eq_true_eq, decide_eq_false_iff_not, Bool.not_eq_true', Bool.not_eq_false'] at h) <;> try (exfalso; (try simp only [beq_iff_eq, beq_eq_false_iff_ne, bne_iff_ne, bne_eq_false_iff_eq, ne_eq] at h); omega))
        | (refine keeps_sub (Mem.sub_set (by simp [Mem.set_at, nomem, *])) ?_)
        | (refine keeps_stab (by repeat' first | exact stabK_nil _ _ | refine stabK_cons ?_ ?_ | (simp (disch := omega) only [quietA, Option.isSome_some, ↓rulesA, rulesB, rulesC, Int.reduceLT, nth, upd, put, storeN, AV.one, Nat.reduceBEq, Nat.reduceBNe, Int.reduceBEq, Int.reduceBNe, Int.reduceLE, boolBin, strBin, intBin, unA, buildA, placesA, fillA, ne_eq, reduceCtorEq, Nat.reduceAdd, Nat.reduceSub, Nat.reduceLeDiff, Nat.reduceLT, Nat.reduceEqDiff, Int.reduceToNat, eq_self, rulesT, cv_3_59, cv_59_3, Int.zero_add, Int.tmod_one, slnil_51, *]; done)) ?_)
      refine call_F h25 (Seens.cons .nilS (Seens.cons .nilS (Seens.refl _ _))) ?_
      repeat' first
        | simp -dsimp (disch := omega) only [↓rulesA, rulesB, rulesC, Int.reduceLT, nth, upd, put, storeN, AV.one, Nat.reduceBEq, Nat.reduceBNe, Int.reduceBEq, Int.reduceBNe, Int.reduceLE, boolBin, strBin, intBin, unA, buildA, placesA, fillA, ne_eq, reduceCtorEq, Nat.reduceAdd, Nat.reduceSub, Nat.reduceLeDiff, Nat.reduceLT, Nat.reduceEqDiff, Int.reduceToNat, eq_self, rulesT, *]
        | (refine allK_intro fun n hn => ?_; try simp only [fresh_set] at hn)
        | (refine ifK_intro (fun h => ?_) (fun h => ?_) <;> (try simp only [decide_eq_true_eq, decide_eq_false_iff_not, Bool.not_eq_true', Bool.not_eq_false'] at h) <;> try (exfalso; (try simp only [beq_iff_eq, beq_eq_false_iff_ne, bne_iff_ne, bne_eq_false_iff_eq, ne_eq] at h); omega))
        | (refine keeps_sub (Mem.sub_set (by simp [Mem.set_at, nomem, *])) ?_)
      refine call_F h25 (Seens.cons .nilS (Seens.cons .nilS (Seens.refl _ _))) ?_
      repeat' first
        | simp -dsimp (disch := omega) only [↓rulesA, rulesB, rulesC, Int.reduceLT, nth, upd, put, storeN, AV.one, Nat.reduceBEq, Nat.reduceBNe, Int.reduceBEq, Int.reduceBNe, Int.reduceLE, boolBin, strBin, intBin, unA, buildA, placesA, fillA, ne_eq, reduceCtorEq, Nat.reduceAdd, Nat.reduceSub, Nat.reduceLeDiff, Nat.reduceLT, Nat.reduceEqDiff, Int.reduceToNat, eq_self, rulesT, *]
        | (refine allK_intro fun n hn => ?_; try simp only [fresh_set] at hn)
        | (refine ifK_intro (fun h => ?_) (fun h => ?_) <;> (try simp only [decide_eq_true_eq, decide_eq_false_iff_not, Bool.not_eq_true', Bool.not_eq_false'] at h) <;> try (exfalso; (try simp only [beq_iff_eq, beq_eq_false_iff_ne, bne_iff_ne, bne_eq_false_iff_eq, ne_eq] at h); omega))
        | (refine keeps_sub (Mem.sub_set (by simp [Mem.set_at, nomem, *])) ?_)
        | (refine call_F (h27) (Seens.refl _ _) ?_)
        | (refine pure_F (h27) (Seens.refl _ _) ?_)
        | (refine call_F (h16) (Seens.refl _ _) ?_)
        | (refine pure_F (h16) (Seens.refl _ _) ?_)
        | (refine call_F (h11) (Seens.refl _ _) ?_)
        | (refine pure_F (h11) (Seens.refl _ _) ?_)
      exact .val
    · repeat' first
        | simp -dsimp (disch := omega) only [↓rulesA, rulesB, rulesC, Int.reduceLT, nth, upd, put, storeN, AV.one, Nat.reduceBEq, Nat.reduceBNe, Int.reduceBEq, Int.reduceBNe, Int.reduceLE, boolBin, strBin, intBin, unA, buildA, placesA, fillA, ne_eq, reduceCtorEq, Nat.reduceAdd, Nat.reduceSub, Nat.reduceLeDiff, Nat.reduceLT, Nat.reduceEqDiff, Int.reduceToNat, eq_self, rulesT, cv_3_59, cv_59_3, *]
        | (refine allK_intro fun n hn => ?_; try simp only [fresh_set] at hn)
        | (refine ifK_intro (fun h => ?_) (fun h => ?_) <;> (try simp only [decide_eq_true_eq, decide_eq_false_iff_not, Bool.not_eq_true', Bool.not_eq_false'] at h) <;> try (exfalso; (try simp only [beq_iff_eq, beq_eq_false_iff_ne, bne_iff_ne, bne_eq_false_iff_eq, ne_eq] at h); omega))
        | (refine keeps_sub (Mem.sub_set (by simp [Mem.set_at, nomem, *])) ?_)
        | (refine keeps_stab (by repeat' first | exact stabK_nil _ _ | refine stabK_cons ?_ ?_ | (simp (disch := omega) only [quietA, Option.isSome_some, ↓rulesA, rulesB, rulesC, Int.reduceLT, nth, upd, put, storeN, AV.one, Nat.reduceBEq, Nat.reduceBNe, Int.reduceBEq, Int.reduceBNe, Int.reduceLE, boolBin, strBin, intBin, unA, buildA, placesA, fillA, ne_eq, reduceCtorEq, Nat.reduceAdd, Nat.reduceSub, Nat.reduceLeDiff, Nat.reduceLT, Nat.reduceEqDiff, Int.reduceToNat, eq_self, rulesT, cv_3_59, cv_59_3, *]; done)) ?_)
      refine call_F (F25 fit_nil true (R.take k) false (by simp; omega)) (Seens.cons .nilS (Seens.cons (Seen.rowTake R (Mem.set_same _ _ _) hk) (Seens.refl _ _))) ?_
      rw [show ofTo [] (R.take k) (R.take k).length = ofTo [] R k by rw [List.length_take, Nat.min_eq_left hk]; exact of_take [] R k k (Nat.le_refl _)]
      have fa := of_fit fit_nil R k
      have fb := of_fit fit_nil R R.length
      have hle : Le (ofTo [] R k) (ofTo [] R R.length) := by have := of_le [] R k (R.length - k); rwa [show k + (R.length - k) = R.length by omega] at this
      have t16 : (ofTo [] R R.length).take 16 = ofTo [] R R.length := List.take_of_length_le fb.1
      have h1 := F27 (ofTo [] R k) (ofTo [] R R.length) false false fa.small.2 fb.small.2
      rw [mrg_le fa.2.2 fb.2.2 hle, t16] at h1
      have h2 := F27 (ofTo [] R R.length) (ofTo [] R k) false false fb.small.2 fa.small.2
      rw [mrg_ge fa.2.2 fb.2.2 hle, t16] at h2
      have h3 := F27 (ofTo [] R R.length) (ofTo [] R R.length) false false fb.small.2 fb.small.2
      rw [mrg_le fb.2.2 fb.2.2 (Le.refl _), t16] at h3
      have h16 := F16 (ofTo [] R R.length) (ofTo [] R R.length) false false fb.small.2
      rw [samesB_self] at h16
      repeat' first
        | simp -dsimp (disch := omega) only [↓rulesA, rulesB, rulesC, Int.reduceLT, nth, upd, put, storeN, AV.one, Nat.reduceBEq, Nat.reduceBNe, Int.reduceBEq, Int.reduceBNe, Int.reduceLE, boolBin, strBin, intBin, unA, buildA, placesA, fillA, ne_eq, reduceCtorEq, Nat.reduceAdd, Nat.reduceSub, Nat.reduceLeDiff, Nat.reduceLT, Nat.reduceEqDiff, Int.reduceToNat, eq_self, rulesT, *]
        | (refine allK_intro fun n hn => ?_; try simp only [fresh_set] at hn)
        | (refine ifK_intro (fun h => ?_) (fun h => ?_) <;> (try simp only [decide_eq_true_eq, decide_eq_false_iff_not, Bool.not_eq_true', Bool.not_eq_false'] at h) <;> try (exfalso; (try simp only [beq_iff_eq, beq_eq_false_iff_ne, bne_iff_ne, bne_eq_false_iff_eq, ne_eq] at h); omega))
        | (refine keeps_sub (Mem.sub_set (by simp [Mem.set_at, nomem, *])) ?_)
      refine call_F (F25 fit_nil true R false (by omega)) (Seens.cons .nilS (Seens.cons (Seen.row Entry.cells (s := 14) (opn := true) (t := 58) (fun _ => rfl) _ (Mem.set_same _ _ _)) (Seens.refl _ _))) ?_
      repeat' first
        | simp -dsimp (disch := omega) only [↓rulesA, rulesB, rulesC, Int.reduceLT, nth, upd, put, storeN, AV.one, Nat.reduceBEq, Nat.reduceBNe, Int.reduceBEq, Int.reduceBNe, Int.reduceLE, boolBin, strBin, intBin, unA, buildA, placesA, fillA, ne_eq, reduceCtorEq, Nat.reduceAdd, Nat.reduceSub, Nat.reduceLeDiff, Nat.reduceLT, Nat.reduceEqDiff, Int.reduceToNat, eq_self, rulesT, *]
        | (refine allK_intro fun n hn => ?_; try simp only [fresh_set] at hn)
        | (refine ifK_intro (fun h => ?_) (fun h => ?_) <;> (try simp only [decide_eq_true_eq, decide_eq_false_iff_not, Bool.not_eq_true', Bool.not_eq_false'] at h) <;> try (exfalso; (try simp only [beq_iff_eq, beq_eq_false_iff_ne, bne_iff_ne, bne_eq_false_iff_eq, ne_eq] at h); omega))
        | (refine keeps_sub (Mem.sub_set (by simp [Mem.set_at, nomem, *])) ?_)
        | (refine call_F (h1) (Seens.refl _ _) ?_)
        | (refine pure_F (h1) (Seens.refl _ _) ?_)
        | (refine call_F (h2) (Seens.refl _ _) ?_)
        | (refine pure_F (h2) (Seens.refl _ _) ?_)
        | (refine call_F (h3) (Seens.refl _ _) ?_)
        | (refine pure_F (h3) (Seens.refl _ _) ?_)
        | (refine call_F (h16) (Seens.refl _ _) ?_)
        | (refine pure_F (h16) (Seens.refl _ _) ?_)
        | (refine call_F (h11) (Seens.refl _ _) ?_)
        | (refine pure_F (h11) (Seens.refl _ _) ?_)
      exact .val
theorem merges_law : ∀ args, ShapedAll Try.prog Try.f8.params.toList args → F Try.prog 8 args (.val (.bool true)) := by
  intro args h
  have hp : Try.f8.params.toList = [51, 3] := by kernel_rfl
  rw [hp] at h
  match args, h with
  | [a, b], ⟨h0, h1, _⟩ =>
    obtain ⟨es, rfl, l1, _⟩ := entries_of h0
    obtain ⟨x, rfl, _⟩ := (h1.one ti_3 rfl).i64 ti_3 rfl
    exact F8 es false x (by omega)
end Go.Proofs.Ytoankcclbnnfiaa

