/- Package 19: what In leaves: the rows. -/
import Derived.Test.YtanfgfclpjmngaaM6
set_option maxRecDepth 100000
set_option maxHeartbeats 1000000
set_option linter.unusedSimpArgs false
set_option linter.unusedVariables false
namespace Go.Proofs.Ytanfgfclpjmngaa
open Go.Abs
attribute [local irreducible] C X CC Y CV CW binK litK AppK PureC PureCV againK loopV rangeV allK ifK got onB condK V stepsK planK opK firstK seeE keepsK

theorem oAt_good {l : List Obj} (hf : fitB l = true) (nm : List UInt8) : foundB l nm (placeN l nm) = true → objOk (oAt l nm) = true ∧ (oAt l nm).name = nm := fun h => by
  obtain ⟨h1, h2, h3⟩ := found_name h
  rw [h3]
  refine ⟨?_, h2⟩
  rw [getD_get l _ h1]
  exact ((fit_iff l).1 hf).2.1 _ (List.getElem_mem h1)
theorem inDo_good {l : List Obj} (hf : fitB l = true) {who : Ban} {op : Opr} (hdo : doOk who op = true) (hS : (inDo l who op).there = true) : objOk (inDo l who op).o = true ∧ (inDo l who op).o.name = op.name :=
  do_fit hdo (oAt_good hf op.name) hS
theorem names_set (l : List Obj) (k : Nat) (o : Obj) (hk : k < l.length) (h : o.name = (l.getD k default).name) : (l.set k o).map (·.name) = l.map (·.name) := by
  rw [List.map_set, h, getD_get l k hk]
  apply List.ext_getElem?
  intro i
  rw [List.getElem?_set]
  split
  · rename_i e; subst e; simp [hk]
  · rfl
theorem pw_names (l : List Obj) : l.Pairwise (fun a b => lessT a.name b.name = true) ↔ (l.map (·.name)).Pairwise (fun a b => lessT a b = true) := by rw [List.pairwise_map]
theorem in_fit {l : List Obj} (hf : fitB l = true) (who : Ban) (op : Opr) : fitB (inL l who op) = true := by
  obtain ⟨f1, f2, f3⟩ := (fit_iff l).1 hf
  have hp := place_fit hf op.name
  unfold inL
  split
  · exact hf
  rename_i hd
  have hdo : doOk who op = true := by simpa using hd
  split
  · exact hf
  split
  · rename_i hS
    obtain ⟨g1, g2⟩ := inDo_good hf hdo hS
    generalize inDo l who op = S at *
    split
    · rename_i hfd
      obtain ⟨h1, h2, h3⟩ := found_name hfd
      refine (fit_iff _).2 ⟨by rw [List.length_set]; exact f1, fun o ho => ?_, ?_⟩
      · rcases List.mem_or_eq_of_mem_set ho with ho | ho
        · exact f2 o ho
        · rw [ho]; exact g1
      · rw [pw_names, names_set _ _ _ h1 (by rw [g2, h2]), ← pw_names]; exact f3
    · rename_i hfd
      split
      · exact hf
      · rename_i h16
        have hnf := not_found hf (by simpa using hfd)
        generalize placeN l op.name = k at *
        have hlo : ∀ a ∈ l.take k, lessT a.name op.name = true := fun a ha => by
          obtain ⟨i, hi, rfl⟩ := List.getElem_of_mem ha
          rw [List.length_take] at hi
          have := hp.lo i (by omega)
          rw [getD_get l i (by omega)] at this
          rw [List.getElem_take]; exact this
        have hhi : ∀ a ∈ l.drop k, lessT op.name a.name = true := fun a ha => by
          obtain ⟨i, hi, rfl⟩ := List.getElem_of_mem ha
          rw [List.length_drop] at hi
          have := hp.hi (k + i) (by omega) (by omega)
          rw [getD_get l (k + i) (by omega)] at this
          rw [List.getElem_drop]
          exact less_total _ _ this (hnf _ (List.getElem_mem _))
        refine (fit_iff _).2 ⟨?_, fun o ho => ?_, ?_⟩
        · have := hp.le; simp only [List.length_append, List.length_take, List.length_cons, List.length_drop]; omega
        · rcases List.mem_append.1 ho with ho | ho
          · exact f2 o (List.mem_of_mem_take ho)
          · rcases List.mem_cons.1 ho with ho | ho
            · rw [ho]; exact g1
            · exact f2 o (List.mem_of_mem_drop ho)
        · rw [List.pairwise_append]
          refine ⟨f3.sublist (List.take_sublist _ _), ?_, fun a ha b hb => ?_⟩
          · rw [List.pairwise_cons]
            exact ⟨fun b hb => by rw [g2]; exact hhi b hb, f3.sublist (List.drop_sublist _ _)⟩
          · rcases List.mem_cons.1 hb with hb | hb
            · rw [hb, g2]; exact hlo a ha
            · exact less_trans _ _ _ (hlo a ha) (hhi b hb)
  · split
    · rename_i hfd
      obtain ⟨h1, h2, h3⟩ := found_name hfd
      have hsub : (l.take (placeN l op.name) ++ l.drop (placeN l op.name + 1)).Sublist l := by
        have e : l.take (placeN l op.name) ++ l.drop (placeN l op.name + 1) = l.eraseIdx (placeN l op.name) := by rw [List.eraseIdx_eq_take_drop_succ]
        rw [e]; exact List.eraseIdx_sublist _ _
      exact (fit_iff _).2 ⟨Nat.le_trans hsub.length_le f1, fun o ho => f2 o (hsub.subset ho), f3.sublist hsub⟩
    · exact hf
theorem in_same {l : List Obj} {who : Ban} {op : Opr} (h : inDo l who op = sheetOf (oAt l op.name) (foundB l op.name (placeN l op.name)) who op) : inL l who op = l := by
  unfold inL
  rw [h]
  cases hfd : foundB l op.name (placeN l op.name) with
  | true =>
    obtain ⟨h1, h2, h3⟩ := found_name hfd
    have e1 : (sheetOf (oAt l op.name) true who op).there = true := rfl
    have e2 : (sheetOf (oAt l op.name) true who op).o = l.getD (placeN l op.name) default := h3
    rw [e1, e2]
    simp only [if_true]
    have : l.set (placeN l op.name) (l.getD (placeN l op.name) default) = l := by
      rw [getD_get l _ h1]; exact List.set_getElem_self h1
    rw [this]
    split <;> (try split) <;> rfl
  | false =>
    have e1 : (sheetOf (oAt l op.name) false who op).there = false := rfl
    rw [e1]
    simp
theorem in_err {l : List Obj} {who : Ban} {op : Opr} (h : (inR l who op).err ≠ 0) : inL l who op = l := by
  by_cases hd : doOk who op = false
  · unfold inL; rw [if_pos hd]
  by_cases h10 : op.kind = 10
  · unfold inL; rw [if_neg hd, if_pos h10]
  unfold inR at h
  rw [if_neg hd, if_neg h10] at h
  split at h
  · rename_i hc
    unfold inL
    rw [if_neg hd, if_neg h10, hc.1, hc.2.1]
    simp only [if_true]
    rw [if_neg (by decide), if_pos hc.2.2]
  · exact in_same (do_err h)
theorem in_looks {l : List Obj} {who : Ban} {op : Opr} (h : changesB op.kind = false) : inL l who op = l := in_same (do_looks h)
theorem in_mem {l : List Obj} (hf : fitB l = true) {who : Ban} {op : Opr} {x : Obj} (hx : x ∈ l) (hn : x.name ≠ op.name) : x ∈ inL l who op := by
  unfold inL
  split
  · exact hx
  split
  · exact hx
  split
  · split
    · rename_i hfd
      obtain ⟨h1, h2, h3⟩ := found_name hfd
      obtain ⟨i, hi, rfl⟩ := List.getElem_of_mem hx
      have hne : placeN l op.name ≠ i := fun e => hn (by rw [← h2, e, getD_get l i hi])
      rw [List.mem_iff_getElem?]
      exact ⟨i, by rw [List.getElem?_set_ne hne]; simp [hi]⟩
    · split
      · exact hx
      · rw [← List.take_append_drop (placeN l op.name) l] at hx
        rcases List.mem_append.1 hx with hx | hx
        · exact List.mem_append.2 (.inl hx)
        · exact List.mem_append.2 (.inr (List.mem_cons_of_mem _ hx))
  · split
    · rename_i hfd
      obtain ⟨h1, h2, h3⟩ := found_name hfd
      obtain ⟨i, hi, rfl⟩ := List.getElem_of_mem hx
      have hne : placeN l op.name ≠ i := fun e => hn (by rw [← h2, e, getD_get l i hi])
      rw [← List.eraseIdx_eq_take_drop_succ, List.mem_eraseIdx_iff_getElem]
      exact ⟨i, hi, Ne.symm hne, rfl⟩
    · exact hx
theorem in_len {l : List Obj} (hf : fitB l = true) (who : Ban) (op : Opr) : (inL l who op).length ≤ l.length + 1 := by
  have hp := (place_fit hf op.name).le
  unfold inL
  split
  · omega
  split
  · omega
  split
  · split
    · rw [List.length_set]; omega
    · split
      · omega
      · simp only [List.length_append, List.length_take, List.length_cons, List.length_drop]; omega
  · split
    · simp only [List.length_append, List.length_take, List.length_drop]; omega
    · omega
end Go.Proofs.Ytanfgfclpjmngaa


/- Package 19: finding; the law ObjectKeeps. -/
set_option maxRecDepth 100000
set_option maxHeartbeats 1000000
set_option linter.unusedSimpArgs false
set_option linter.unusedVariables false
namespace Go.Proofs.Ytanfgfclpjmngaa
open Go.Abs
attribute [local irreducible] C X CC Y CV CW binK litK AppK PureC PureCV againK loopV rangeV allK ifK got onB condK V stepsK planK opK firstK seeE keepsK

theorem F21 (l : List Obj) (x : Bool) (nm : List UInt8) (hfit : fitB l = true) : F Try.prog 21 [.vs (l.map Obj.cells) x, .val (.string ⟨nm.toArray⟩)] (.tup [.agg (oAt l nm).cells, .val (.bool (foundB l nm (placeN l nm)))]) := by
  have hl16 := fit_len hfit
  have f35 := F35 l x nm (by omega) _ (place_fit hfit nm)
  refine F21_of ?_
  unfold k21
  cases hfd : foundB l nm (placeN l nm) with
  | true =>
    obtain ⟨h1, h2, h3⟩ := found_name hfd
    rw [hfd] at f35
    rw [h3]
    clear h3 h2 hfd hfit
    generalize placeN l nm = k at *
    repeat' first
      | simp -dsimp (disch := omega) only [↓rulesA, rulesB, rulesC, Int.reduceLT, nth, upd, put, storeN, AV.one, Nat.reduceBEq, Nat.reduceBNe, Int.reduceBEq, Int.reduceBNe, Int.reduceLE, Int.reduceEq, Int.reduceMod, Int.reduceNeg, boolBin, strBin, intBin, unA, fillA, ne_eq, reduceCtorEq, Nat.reduceAdd, Nat.reduceSub, Nat.reduceLeDiff, Nat.reduceLT, Nat.reduceEqDiff, Int.reduceToNat, eq_self, rulesT, bne_self_eq_false, mm_min, mm_max, buOf_some, nilCheck_vp, nilCheck_ptr, nilCheck_yld, nilCheck_func, ix_24, Obj.all, Obj.len, Obj.take, Obj.sall, *]
      | (refine allK_intro fun n hn => ?_; try simp only [fresh_set] at hn)
      | (refine ifK_intro (fun h => ?_) (fun h => ?_) <;> (try simp only [decide_eq_true_eq, decide_eq_false_iff_not, Bool.not_eq_true', Bool.not_eq_false'] at h) <;> try (exfalso; (try simp only [beq_iff_eq, beq_eq_false_iff_ne, bne_iff_ne, bne_eq_false_iff_eq, ne_eq] at h); omega))
      | (refine keeps_sub (Mem.sub_set ?_) ?_; focus (simp [Mem.set_at, nomem, *]; done))
      | (refine call_F (f35) (Seens.refl _ _) ?_)
      | (refine pure_F (f35) (Seens.refl _ _) ?_)
    exact New.eq rfl rfl
  | false =>
    have h3 : oAt l nm = noObj := by unfold oAt; rw [if_neg (by rw [hfd]; decide)]
    rw [hfd] at f35
    rw [h3]
    clear h3 hfd hfit
    generalize placeN l nm = k at *
    repeat' first
      | simp -dsimp (disch := omega) only [↓rulesA, rulesB, rulesC, Int.reduceLT, nth, upd, put, storeN, AV.one, Nat.reduceBEq, Nat.reduceBNe, Int.reduceBEq, Int.reduceBNe, Int.reduceLE, Int.reduceEq, Int.reduceMod, Int.reduceNeg, boolBin, strBin, intBin, unA, fillA, ne_eq, reduceCtorEq, Nat.reduceAdd, Nat.reduceSub, Nat.reduceLeDiff, Nat.reduceLT, Nat.reduceEqDiff, Int.reduceToNat, eq_self, rulesT, bne_self_eq_false, mm_min, mm_max, buOf_some, nilCheck_vp, nilCheck_ptr, nilCheck_yld, nilCheck_func, ix_24, Obj.all, Obj.len, Obj.take, Obj.sall, *]
      | (refine allK_intro fun n hn => ?_; try simp only [fresh_set] at hn)
      | (refine ifK_intro (fun h => ?_) (fun h => ?_) <;> (try simp only [decide_eq_true_eq, decide_eq_false_iff_not, Bool.not_eq_true', Bool.not_eq_false'] at h) <;> try (exfalso; (try simp only [beq_iff_eq, beq_eq_false_iff_ne, bne_iff_ne, bne_eq_false_iff_eq, ne_eq] at h); omega))
      | (refine keeps_sub (Mem.sub_set ?_) ?_; focus (simp [Mem.set_at, nomem, *]; done))
      | (refine call_F (f35) (Seens.refl _ _) ?_)
      | (refine pure_F (f35) (Seens.refl _ _) ?_)
    exact New.eq rfl rfl
theorem F7 (l : List Obj) (who : Ban) (op : Opr) (hop : op.ok) (hll : l.length * 56 ≤ 140737488351232) : F Try.prog 7 [.vs (l.map Obj.cells) false, .agg who.cells, .agg op.cells] (.val (.bool true)) := by
  have f14 := F14 l false
  refine F7_of ?_
  unfold k7
  cases hfit : fitB l with
  | false =>
    rw [hfit] at f14
    repeat' first
      | simp -dsimp (disch := omega) only [↓rulesA, rulesB, rulesC, Int.reduceLT, nth, upd, put, storeN, AV.one, Nat.reduceBEq, Nat.reduceBNe, Int.reduceBEq, Int.reduceBNe, Int.reduceLE, Int.reduceEq, Int.reduceMod, Int.reduceNeg, boolBin, strBin, intBin, unA, fillA, ne_eq, reduceCtorEq, Nat.reduceAdd, Nat.reduceSub, Nat.reduceLeDiff, Nat.reduceLT, Nat.reduceEqDiff, Int.reduceToNat, eq_self, rulesT, bne_self_eq_false, mm_min, mm_max, buOf_some, nilCheck_vp, nilCheck_ptr, nilCheck_yld, nilCheck_func, Ban.all, Ban.len, Ban.take, Opr.all, Opr.len, Opr.take, Opr.drop, Opr.g0, Opr.g1, *]
      | (refine allK_intro fun n hn => ?_; try simp only [fresh_set] at hn)
      | (refine ifK_intro (fun h => ?_) (fun h => ?_) <;> (try simp only [decide_eq_true_eq, decide_eq_false_iff_not, Bool.not_eq_true', Bool.not_eq_false'] at h) <;> try (exfalso; (try simp only [beq_iff_eq, beq_eq_false_iff_ne, bne_iff_ne, bne_eq_false_iff_eq, ne_eq] at h); omega))
      | (refine keeps_sub (Mem.sub_set ?_) ?_; focus (simp [Mem.set_at, nomem, *]; done))
      | (refine call_F (f14) (Seens.refl _ _) ?_)
      | (refine pure_F (f14) (Seens.refl _ _) ?_)
      | (refine call_F (F18) (Seens.refl _ _) ?_)
      | (refine pure_F (F18) (Seens.refl _ _) ?_)
    exact .val
  | true =>
    rw [hfit] at f14
    have hl16 := fit_len hfit
    have f20 := F20 l false who op hop hfit
    have hL := in_fit hfit who op
    have f14L := F14 (inL l who op) false
    rw [hL] at f14L
    have hL16 := fit_len hL
    have f17 := F17 (inL l who op) l false false (by omega)
    have f12 := F12 op.kind
    have hE : (inR l who op).err ≠ 0 → inL l who op = l := in_err
    have hC : changesB op.kind = false → inL l who op = l := in_looks
    have hM : ∀ x ∈ l, x.name ≠ op.name → x ∈ inL l who op := fun x hx hn => in_mem hfit hx hn
    have hlen := in_len hfit who op
    have f21 := fun nm => F21 (inL l who op) false nm hL
    have hfind := fun {x : Obj} (hx : x ∈ inL l who op) => find_mem hL hx
    generalize inL l who op = L at *
    generalize inR l who op = R at *
    generalize changesB op.kind = cb at *
    have key : ∀ b : Bool, decide (L = l) = b → (b = true ∨ (R.err = 0 ∧ cb = true)) := fun b hb => by
      cases b with
      | true => exact .inl rfl
      | false =>
        have hne := of_decide_eq_false hb
        refine .inr ⟨Classical.byContradiction fun h => hne (hE h), ?_⟩
        cases cb with
        | true => rfl
        | false => exact absurd (hC rfl) hne
    generalize hsm : decide (L = l) = sm at f17 key
    have key' := key sm rfl
    clear key hsm hE hC hfit hL
    replace key' : Kept _ := key'
    replace hM : Kept _ := hM
    replace hfind : Kept (∀ x ∈ L, foundB L x.name (placeN L x.name) = true ∧ oAt L x.name = x) := fun x hx => ⟨(hfind hx).1, (hfind hx).2.1⟩
    repeat' first
      | simp -dsimp (disch := omega) only [↓rulesA, rulesB, rulesC, Int.reduceLT, nth, upd, put, storeN, AV.one, Nat.reduceBEq, Nat.reduceBNe, Int.reduceBEq, Int.reduceBNe, Int.reduceLE, Int.reduceEq, Int.reduceMod, Int.reduceNeg, boolBin, strBin, intBin, unA, fillA, ne_eq, reduceCtorEq, Nat.reduceAdd, Nat.reduceSub, Nat.reduceLeDiff, Nat.reduceLT, Nat.reduceEqDiff, Int.reduceToNat, eq_self, rulesT, bne_self_eq_false, mm_min, mm_max, buOf_some, nilCheck_vp, nilCheck_ptr, nilCheck_yld, nilCheck_func, Ban.all, Ban.len, Ban.take, Opr.all, Opr.len, Opr.take, Opr.drop, Opr.g0, Opr.g1, Res.all, Res.len, Res.take, Res.sall, Res.g0, *]
      | (refine allK_intro fun n hn => ?_; try simp only [fresh_set] at hn)
      | (refine ifK_intro (fun h => ?_) (fun h => ?_) <;> (try simp only [decide_eq_true_eq, decide_eq_false_iff_not, Bool.not_eq_true', Bool.not_eq_false'] at h) <;> try (exfalso; (try simp only [beq_iff_eq, beq_eq_false_iff_ne, bne_iff_ne, bne_eq_false_iff_eq, ne_eq] at h); omega))
      | (refine keeps_sub (Mem.sub_set ?_) ?_; focus (simp [Mem.set_at, nomem, *]; done))
      | (refine call_F (f14) (Seens.refl _ _) ?_)
      | (refine pure_F (f14) (Seens.refl _ _) ?_)
      | (refine call_F (f14L) (Seens.refl _ _) ?_)
      | (refine pure_F (f14L) (Seens.refl _ _) ?_)
      | (refine call_F (f20) (Seens.refl _ _) ?_)
      | (refine pure_F (f20) (Seens.refl _ _) ?_)
      | (refine call_F (f17) (Seens.refl _ _) ?_)
      | (refine pure_F (f17) (Seens.refl _ _) ?_)
      | (refine call_F (f12) (Seens.refl _ _) ?_)
      | (refine pure_F (f12) (Seens.refl _ _) ?_)
    all_goals first
      | (exfalso
         rcases (key' : _ ∨ _) with q | ⟨q1, q2⟩ <;> simp_all; done)
      | skip
    all_goals
      clear f14 f14L f20 f17 f12 key'
      refine loop_intro (fun j env m => ∃ (i nO : Nat), i ≤ l.length ∧ j = l.length - i ∧ m = nomem.set nO (.cells false 23 op.cells) ∧ env.length = 87 ∧ nth env 0 = .vs (l.map Obj.cells) false ∧ nth env 5 = .ptr nO 0 ∧ nth env 7 = .vs (L.map Obj.cells) false ∧ nth env 50 = .vs (l.map Obj.cells) false ∧ nth env 51 = .val (.int .i64 l.length) ∧ nth env 52 = .val (.int .i64 i)) l.length (nomem.set _ (.cells false 23 op.cells)) ?_ ⟨0, _, by omega, rfl, rfl, rfl, rfl, rfl, rfl, rfl, rfl, rfl⟩ ?_
      · exact nomem_set_sub (by simp [Mem.set_at, *])
      rintro j env m ⟨i, nO, hi, rfl, rfl, hlen', e0, e5, e7, e50, e51, e52⟩
      by_cases hil : i < l.length
      · have hx : l[i] ∈ l := List.getElem_mem hil
        have hxe := getD_get l i hil
        generalize l[i] = o at hx hxe
        by_cases hn : o.name = op.name
        · have hb : (o.name == op.name) = true := by rw [hn]; exact beq_self_eq_true _
          have f := f21 o.name
          clear hM hfind hx hn f21
          generalize oAt L o.name = y at *
          generalize foundB L o.name (placeN L o.name) = fb at *
          repeat' first
            | simp -dsimp (disch := omega) only [↓rulesA, rulesB, rulesC, Int.reduceLT, nth, upd, put, storeN, AV.one, Nat.reduceBEq, Nat.reduceBNe, Int.reduceBEq, Int.reduceBNe, Int.reduceLE, Int.reduceEq, Int.reduceMod, Int.reduceNeg, boolBin, strBin, intBin, unA, fillA, ne_eq, reduceCtorEq, Nat.reduceAdd, Nat.reduceSub, Nat.reduceLeDiff, Nat.reduceLT, Nat.reduceEqDiff, Int.reduceToNat, eq_self, rulesT, bne_self_eq_false, mm_min, mm_max, buOf_some, nilCheck_vp, nilCheck_ptr, nilCheck_yld, nilCheck_func, ix_24, hxe, Obj.all, Obj.len, Obj.take, Obj.sall, Obj.g0, Opr.g1, Opr.len, text_tl, *]
            | (refine allK_intro fun n hn => ?_; try simp only [fresh_set] at hn)
            | (refine ifK_intro (fun h => ?_) (fun h => ?_) <;> (try simp only [decide_eq_true_eq, decide_eq_false_iff_not, Bool.not_eq_true', Bool.not_eq_false'] at h) <;> try (exfalso; (try simp only [beq_iff_eq, beq_eq_false_iff_ne, bne_iff_ne, bne_eq_false_iff_eq, ne_eq] at h); omega))
            | (refine keeps_sub (Mem.sub_set ?_) ?_; focus (simp [Mem.set_at, nomem, *]; done))
            | (refine call_F (f) (Seens.refl _ _) ?_)
            | (refine pure_F (f) (Seens.refl _ _) ?_)
          refine again_intro (l.length - (i + 1)) (by omega) (nomem.set nO (.cells false 23 op.cells)) (nomem_set_sub (by simp [Mem.set_at, *])) ⟨i + 1, nO, by omega, rfl, rfl, ?_, ?_, ?_, ?_, ?_, ?_, ?_⟩
          all_goals try (simp (disch := omega) only [nth_upd, pickB_true, pickB_false, inB_lt, upd_len, cast_succ, Int.cast_ofNat_Int, Nat.reduceBEq, beq_self_eq_true, reduceCtorEq, *]; done)
        · have hb : (o.name == op.name) = false := by rw [beq_eq_false_iff_ne]; exact hn
          obtain ⟨q1, q2⟩ := (hfind : ∀ _, _) o ((hM : ∀ _, _) o hx hn)
          have f := f21 o.name
          rw [q1, q2] at f
          have hoo := ne_43 o o
          rw [decide_eq_true rfl] at hoo
          clear hM hfind hx hn f21 q1 q2
          repeat' first
            | simp -dsimp (disch := omega) only [↓rulesA, rulesB, rulesC, Int.reduceLT, nth, upd, put, storeN, AV.one, Nat.reduceBEq, Nat.reduceBNe, Int.reduceBEq, Int.reduceBNe, Int.reduceLE, Int.reduceEq, Int.reduceMod, Int.reduceNeg, boolBin, strBin, intBin, unA, fillA, ne_eq, reduceCtorEq, Nat.reduceAdd, Nat.reduceSub, Nat.reduceLeDiff, Nat.reduceLT, Nat.reduceEqDiff, Int.reduceToNat, eq_self, rulesT, bne_self_eq_false, mm_min, mm_max, buOf_some, nilCheck_vp, nilCheck_ptr, nilCheck_yld, nilCheck_func, ix_24, hxe, Obj.all, Obj.len, Obj.take, Obj.sall, Obj.g0, Opr.g1, Opr.len, text_tl, *]
            | (refine allK_intro fun n hn => ?_; try simp only [fresh_set] at hn)
            | (refine ifK_intro (fun h => ?_) (fun h => ?_) <;> (try simp only [decide_eq_true_eq, decide_eq_false_iff_not, Bool.not_eq_true', Bool.not_eq_false'] at h) <;> try (exfalso; (try simp only [beq_iff_eq, beq_eq_false_iff_ne, bne_iff_ne, bne_eq_false_iff_eq, ne_eq] at h); omega))
            | (refine keeps_sub (Mem.sub_set ?_) ?_; focus (simp [Mem.set_at, nomem, *]; done))
            | (refine call_F (f) (Seens.refl _ _) ?_)
            | (refine pure_F (f) (Seens.refl _ _) ?_)
          refine again_intro (l.length - (i + 1)) (by omega) (nomem.set nO (.cells false 23 op.cells)) (nomem_set_sub (by simp [Mem.set_at, *])) ⟨i + 1, nO, by omega, rfl, rfl, ?_, ?_, ?_, ?_, ?_, ?_, ?_⟩
          all_goals try (simp (disch := omega) only [nth_upd, pickB_true, pickB_false, inB_lt, upd_len, cast_succ, Int.cast_ofNat_Int, Nat.reduceBEq, beq_self_eq_true, reduceCtorEq, *]; done)
      · clear hM hfind f21
        repeat' first
          | simp -dsimp (disch := omega) only [↓rulesA, rulesB, rulesC, Int.reduceLT, nth, upd, put, storeN, AV.one, Nat.reduceBEq, Nat.reduceBNe, Int.reduceBEq, Int.reduceBNe, Int.reduceLE, Int.reduceEq, Int.reduceMod, Int.reduceNeg, boolBin, strBin, intBin, unA, fillA, ne_eq, reduceCtorEq, Nat.reduceAdd, Nat.reduceSub, Nat.reduceLeDiff, Nat.reduceLT, Nat.reduceEqDiff, Int.reduceToNat, eq_self, rulesT, bne_self_eq_false, mm_min, mm_max, buOf_some, nilCheck_vp, nilCheck_ptr, nilCheck_yld, nilCheck_func, *]
          | (refine allK_intro fun n hn => ?_; try simp only [fresh_set] at hn)
          | (refine ifK_intro (fun h => ?_) (fun h => ?_) <;> (try simp only [decide_eq_true_eq, decide_eq_false_iff_not, Bool.not_eq_true', Bool.not_eq_false'] at h) <;> try (exfalso; (try simp only [beq_iff_eq, beq_eq_false_iff_ne, bne_iff_ne, bne_eq_false_iff_eq, ne_eq] at h); omega))
          | (refine keeps_sub (Mem.sub_set ?_) ?_; focus (simp [Mem.set_at, nomem, *]; done))
          | (refine call_F (F18) (Seens.refl _ _) ?_)
          | (refine pure_F (F18) (Seens.refl _ _) ?_)
        exact .val
theorem keeps_law : ∀ args, ShapedAll Try.prog Try.f7.params.toList args → F Try.prog 7 args (.val (.bool true)) := by
  intro args h
  have hp : Try.f7.params.toList = [24, 35, 23] := by kernel_rfl
  rw [hp] at h
  match args, h with
  | [a, b, c], ⟨h0, h1, h2, _⟩ =>
    obtain ⟨l, rfl, l1, l2⟩ := objs_of h0
    obtain ⟨cs, rfl, hl, hs'⟩ := h1.cells ti_35 rfl
    obtain ⟨who, rfl, _⟩ := Ban.of_shaped hs' hl
    obtain ⟨cs2, rfl, hl2, hs2⟩ := h2.cells ti_23 rfl
    obtain ⟨op, rfl, ho⟩ := Opr.of_shaped hs2 hl2
    exact F7 l who op ho l1
end Go.Proofs.Ytanfgfclpjmngaa


/- Package 19: what was written is read (plain). -/
set_option maxRecDepth 100000
set_option maxHeartbeats 1000000
set_option linter.unusedSimpArgs false
set_option linter.unusedVariables false
namespace Go.Proofs.Ytanfgfclpjmngaa
open Go.Abs
attribute [local irreducible] C X CC Y CV CW binK litK AppK PureC PureCV againK loopV rangeV allK ifK got onB condK V stepsK planK opK firstK seeE keepsK

theorem doOk_of_err {l : List Obj} {who : Ban} {op : Opr} (he : (inR l who op).err = 0) : doOk who op = true := by
  cases h : doOk who op with
  | true => rfl
  | false =>
    unfold inR at he
    rw [if_pos h] at he
    exact absurd he (by decide)
/-- An operation that left an object there, and no error: the object stands in the row, and is found. -/
theorem in_put {l : List Obj} (hf : fitB l = true) {who : Ban} {op : Opr} (he : (inR l who op).err = 0) (h10 : op.kind ≠ 10) (hS : (inDo l who op).there = true) :
    inR l who op = inRes l who op ∧ foundB (inL l who op) op.name (placeN (inL l who op) op.name) = true ∧ oAt (inL l who op) op.name = (inDo l who op).o := by
  have hdo := doOk_of_err he
  obtain ⟨g1, g2⟩ := inDo_good hf hdo hS
  have hL := in_fit hf who op
  have hmem : inR l who op = inRes l who op ∧ (inDo l who op).o ∈ inL l who op := by
    have hd : ¬ doOk who op = false := by rw [hdo]; decide
    unfold inR at he ⊢
    unfold inL
    rw [if_neg hd, if_neg h10] at he ⊢
    rw [if_neg hd, if_neg h10, if_pos hS]
    cases hfd : foundB l op.name (placeN l op.name) with
    | true =>
      refine ⟨if_neg (fun q => by cases q.2.1), ?_⟩
      rw [if_pos rfl]
      obtain ⟨h1, h2, h3⟩ := found_name hfd
      exact List.mem_iff_getElem.2 ⟨placeN l op.name, by rw [List.length_set]; exact h1, by rw [List.getElem_set_self]⟩
    | false =>
      rw [hfd] at he
      by_cases h16 : 16 ≤ l.length
      · rw [if_pos ⟨hS, rfl, h16⟩] at he
        exact absurd he (by decide)
      · refine ⟨if_neg (fun q => h16 q.2.2), ?_⟩
        rw [if_neg (by decide), if_neg h16]
        exact List.mem_append.2 (.inr (List.mem_cons_self ..))
  have := find_mem hL hmem.2
  rw [g2] at this
  exact ⟨hmem.1, this.1, this.2.1⟩
def rdOp (nm : List UInt8) : Opr := ⟨5, nm, 0, 64, []⟩
theorem rd_ok {who : Ban} {nm : List UInt8} (hw : whoB who = true) (hn : nameOk nm = true) : doOk who (rdOp nm) = true := by
  unfold doOk
  rw [hw, Bool.and_true]
  unfold opOk rdOp
  simp [hn, smallB, noTxt]
theorem in_read {L : List Obj} (hL : fitB L = true) {who : Ban} {nm : List UInt8} (hw : whoB who = true) (hn : nameOk nm = true) (hfd : foundB L nm (placeN L nm) = true) :
    inR L who (rdOp nm) = ⟨0, (oAt L nm).data.length, 0, (oAt L nm).data⟩ := by
  have hdo := rd_ok hw hn
  have hlen := (ok_parts (oAt_good hL nm hfd).1).2.1
  have e1 : inRes L who (rdOp nm) = readR (sheetOf (oAt L nm) true who (rdOp nm)) := by
    unfold inRes doR
    rw [if_pos hdo, show (rdOp nm).name = nm from rfl, hfd]
    rfl
  have e2 : inR L who (rdOp nm) = inRes L who (rdOp nm) := by
    unfold inR
    rw [if_neg (by rw [hdo]; decide), if_neg (show ¬ ((rdOp nm).kind = 10) from (by decide : ¬ ((5 : Int) = 10)))]
    refine if_neg (fun q => ?_)
    have := q.2.1
    rw [show (rdOp nm).name = nm from rfl, hfd] at this; cases this
  rw [e2, e1]
  have a0 : atS (sheetOf (oAt L nm) true who (rdOp nm)) = 0 := by unfold atS; exact Nat.zero_min _
  have a1 : endS (sheetOf (oAt L nm) true who (rdOp nm)) = (oAt L nm).data.length := by
    unfold endS
    show min (min 0 (oAt L nm).data.length + 64) (oAt L nm).data.length = _
    omega
  unfold readR
  rw [a0, a1]
  show (⟨0, _, 0, ((oAt L nm).data.drop 0).take ((oAt L nm).data.length - 0)⟩ : Res) = _
  rw [List.drop_zero, Nat.sub_zero, List.take_length]
  rfl
/-- The bytes behind a write, or a zeroing. -/
def wantB (op : Opr) (n : Nat) (W : List UInt8) (i : Nat) : UInt8 :=
  if op.off.toNat ≤ i ∧ i < op.off.toNat + n then (if op.kind = 1 then op.data.getD (i - op.off.toNat) 0 else 0) else W.getD i 0
theorem zs_get (n : Int) (i : Nat) : (zs n).getD i 0 = 0 := by
  unfold zs
  rw [List.getD_eq_getElem?_getD, List.getElem?_replicate]
  split <;> rfl
theorem getD_app (a b : List UInt8) (i : Nat) : (a ++ b).getD i 0 = if i < a.length then a.getD i 0 else b.getD (i - a.length) 0 := by
  simp only [List.getD_eq_getElem?_getD, List.getElem?_append]
  split <;> rfl
theorem getD_take (a : List UInt8) (k i : Nat) : (a.take k).getD i 0 = if i < k then a.getD i 0 else 0 := by
  simp only [List.getD_eq_getElem?_getD, List.getElem?_take]
  split <;> rfl
theorem getD_drop (a : List UInt8) (k i : Nat) : (a.drop k).getD i 0 = a.getD (k + i) 0 := by
  simp only [List.getD_eq_getElem?_getD, List.getElem?_drop]
theorem getD_past (a : List UInt8) (i : Nat) (h : a.length ≤ i) : a.getD i 0 = 0 := by
  rw [List.getD_eq_getElem?_getD, List.getElem?_eq_none h]; rfl
theorem old_get (s : Sheet) (i : Nat) : (oldS s).getD i 0 = s.o.data.getD i 0 := by
  unfold oldS
  rw [getD_app]
  split
  · rfl
  · rw [zs_get, getD_past _ _ (by omega)]
theorem old_len (s : Sheet) : s.op.off.toNat ≤ (oldS s).length := by
  unfold oldS
  rw [List.length_append, zs_len]
  omega
theorem write_get (s : Sheet) (h1 : s.op.kind = 1) (i : Nat) : (writeData s).getD i 0 = wantB s.op s.op.data.length s.o.data i := by
  have hl := old_len s
  unfold writeData wantB wEnd
  rw [getD_app, getD_app, List.length_append, List.length_take, getD_take, old_get, getD_drop, old_get, Nat.min_eq_left hl, if_pos h1]
  by_cases c1 : i < s.op.off.toNat
  · rw [if_pos (by omega), if_pos c1, if_pos c1, if_neg (by omega)]
  · by_cases c2 : i < s.op.off.toNat + s.op.data.length
    · rw [if_pos c2, if_neg c1, if_pos (by omega)]
    · rw [if_neg c2, if_neg (by omega)]
      congr 1; omega
theorem zero_get (s : Sheet) (h1 : s.op.kind = 2) (h0 : 0 ≤ s.op.off) (h2 : 0 ≤ s.op.num) (i : Nat) (hi : i < s.o.data.length) : (s.o.data.take (atS s) ++ zs ((endS s : Int) - atS s) ++ s.o.data.drop (endS s)).getD i 0 = wantB s.op s.op.num.toNat s.o.data i := by
  have hl := endS_le s
  have e1 : atS s = min s.op.off.toNat s.o.data.length := rfl
  have e2 : endS s = min (min s.op.off.toNat s.o.data.length + s.op.num.toNat) s.o.data.length := rfl
  unfold wantB
  rw [getD_app, getD_app, List.length_append, List.length_take, getD_take, getD_drop, zs_len, zs_get, Nat.min_eq_left (by omega), if_neg (by omega : ¬ s.op.kind = 1)]
  by_cases c1 : i < atS s
  · rw [if_pos (by omega), if_pos c1, if_pos c1, if_neg (by omega)]
  · by_cases c2 : i < endS s
    · rw [if_pos (by omega), if_neg c1, if_pos (by omega)]
    · rw [if_neg (by omega), if_neg (by omega)]
      congr 1; omega
theorem zero_len (s : Sheet) : (s.o.data.take (atS s) ++ zs ((endS s : Int) - atS s) ++ s.o.data.drop (endS s)).length = s.o.data.length := by
  have hl := endS_le s
  simp only [List.length_append, List.length_take, List.length_drop, zs_len]
  omega
/-- What is to be told of a write, or of a zeroing, that was done. -/
structure Told (l : List Obj) (who : Ban) (op : Opr) (W D : List UInt8) : Prop where
  hw : whoB who = true
  name : nameOk op.name = true
  found : foundB (inL l who op) op.name (placeN (inL l who op) op.name) = true
  data : (oAt (inL l who op) op.name).data = D
  num : (inR l who op).num = D.length
  small : op.ok → 0 ≤ op.off ∧ op.off ≤ 64 ∧ 0 ≤ op.num ∧ op.num ≤ 64 ∧ op.data.length ≤ 64
  there : op.kind = 2 → foundB l op.name (placeN l op.name) = true ∧ D.length = W.length
  bytes : ∀ i, i < D.length → D.getD i 0 = wantB op (if op.kind = 1 then op.data.length else op.num.toNat) W i
theorem mk0_data {s : Sheet} (h : s.there = false → s.o.data = []) : (mk0 s).o.data = s.o.data := by
  unfold mk0
  cases hs : s.there with
  | true => rfl
  | false => rw [h hs]; rfl
theorem told_of {l : List Obj} (hf : fitB l = true) {who : Ban} {op : Opr} (he : (inR l who op).err = 0) (hk : op.kind = 1 ∨ op.kind = 2) : ∃ D, Told l who op (oAt l op.name).data D := by
  have hdo := doOk_of_err he
  have hd2 : opOk op = true ∧ whoB who = true := by unfold doOk at hdo; simpa using hdo
  have hsm := op_small hd2.1 (by omega)
  have hn := op_name hd2.1 (by omega)
  have eD : inDo l who op = actS (sheetOf (oAt l op.name) (foundB l op.name (placeN l op.name)) who op) := by unfold inDo doS; rw [if_pos hdo]
  have eR : inRes l who op = actR (sheetOf (oAt l op.name) (foundB l op.name (placeN l op.name)) who op) := by unfold inRes doR; rw [if_pos hdo]
  have hso : (sheetOf (oAt l op.name) (foundB l op.name (placeN l op.name)) who op).o = oAt l op.name := by
    unfold sheetOf oAt
    cases foundB l op.name (placeN l op.name) <;> rfl
  have hsd : foundB l op.name (placeN l op.name) = false → (oAt l op.name).data = [] := fun h => by unfold oAt; rw [h]; rfl
  generalize hs : sheetOf (oAt l op.name) (foundB l op.name (placeN l op.name)) who op = s at *
  have sop : s.op = op := by rw [← hs]; rfl
  have sth : s.there = foundB l op.name (placeN l op.name) := by rw [← hs]; rfl
  have hse : inR l who op = errR 23 ∨ inR l who op = inRes l who op := by
    unfold inR
    rw [if_neg (by rw [hdo]; decide), if_neg (by omega)]
    split
    · exact .inl rfl
    · exact .inr rfl
  have hres : (inRes l who op).err = 0 := by
    rcases hse with h | h
    · rw [h] at he; exact absurd he (by decide)
    · rw [← h]; exact he
  have hS : (inDo l who op).there = true := by
    rw [eD]; rw [eR] at hres
    rcases hk with hk | hk
    · have a1 : actS s = writeS s := by simp [actS, sop, hk]
      have a2 : actR s = writeR s := by simp [actR, sop, hk]
      rw [a2] at hres; rw [a1]
      unfold writeR at hres
      unfold writeS
      split at hres
      · exact absurd hres (by decide)
      · rename_i hc; rw [if_neg hc]; exact (mk0_is s).2.2
    · have a1 : actS s = zeroS s := by simp [actS, sop, hk]
      have a2 : actR s = zeroR s := by simp [actR, sop, hk]
      rw [a2] at hres; rw [a1]
      unfold zeroR at hres
      unfold zeroS
      split at hres
      · rename_i hc; rw [if_pos hc]; exact hc
      · exact absurd hres (by decide)
  obtain ⟨p1, p2, p3⟩ := in_put hf he (by omega) hS
  refine ⟨(inDo l who op).o.data, hd2.2, hn, p2, by rw [p3], ?_, fun _ => ⟨hsm.1.1, hsm.1.2, hsm.2.1.1, hsm.2.1.2, hsm.2.2⟩, fun h2 => ?_, ?_⟩
  · rw [p1, eR, eD]
    rcases hk with hk | hk
    · have a1 : actS s = writeS s := by simp [actS, sop, hk]
      have a2 : actR s = writeR s := by simp [actR, sop, hk]
      rw [eR, a2] at hres
      rw [a1, a2]
      unfold writeR at hres ⊢
      split at hres
      · exact absurd hres (by decide)
      · rename_i hc; rw [if_neg hc]; rfl
    · have a1 : actS s = zeroS s := by simp [actS, sop, hk]
      have a2 : actR s = zeroR s := by simp [actR, sop, hk]
      rw [eR, a2] at hres
      rw [a1, a2]
      unfold zeroR at hres ⊢
      split at hres
      · rename_i hc; rw [if_pos hc]; rfl
      · exact absurd hres (by decide)
  · have a1 : actS s = zeroS s := by simp [actS, sop, h2]
    rw [eD, a1] at hS ⊢
    unfold zeroS at *
    cases ht : s.there with
    | false => rw [ht] at hS; simp [ht] at hS
    | true => rw [← sth, ht]; exact ⟨rfl, by rw [← hso]; exact zero_len s⟩
  · intro i hi
    rw [eD] at hi ⊢
    rcases hk with hk | hk
    · have a1 : actS s = writeS s := by simp [actS, sop, hk]
      have a2 : actR s = writeR s := by simp [actR, sop, hk]
      rw [eR, a2] at hres
      rw [a1] at hi ⊢
      unfold writeR at hres
      unfold writeS at hi ⊢
      split at hres
      · exact absurd hres (by decide)
      · rename_i hc
        rw [if_neg hc, if_pos hk]
        have h1 := mk0_is s
        have := write_get (mk0 s) (by rw [h1.1, sop]; exact hk) i
        rw [h1.1, sop, mk0_data (fun h => by rw [hso]; exact hsd (by rw [← sth]; exact h)), hso] at this
        exact this
    · have a1 : actS s = zeroS s := by simp [actS, sop, hk]
      rw [eD, a1] at hS
      rw [a1] at hi ⊢
      rw [if_neg (by omega)]
      unfold zeroS at *
      cases ht : s.there with
      | false => simp [ht] at hS
      | true =>
        rw [if_pos ht] at hi
        rw [if_pos rfl]
        have hz := zero_len s
        have := zero_get s (by rw [sop]; exact hk) (by rw [sop]; exact hsm.1.1) (by rw [sop]; exact hsm.2.1.1) i (by rw [← hz]; exact hi)
        rw [sop, hso] at this
        rw [hso] at *
        exact this
end Go.Proofs.Ytanfgfclpjmngaa


/- Package 19: the law ObjectReads. -/
set_option maxRecDepth 100000
set_option maxHeartbeats 1000000
set_option linter.unusedSimpArgs false
set_option linter.unusedVariables false
namespace Go.Proofs.Ytanfgfclpjmngaa
open Go.Abs
attribute [local irreducible] C X CC Y CV CW binK litK AppK PureC PureCV againK loopV rangeV allK ifK got onB condK V stepsK planK opK firstK seeE keepsK

theorem wantB_at {op : Opr} {n : Nat} {W D : List UInt8} (h : ∀ i, i < D.length → D.getD i 0 = wantB op n W i) (h0 : 0 ≤ op.off) {i : Nat} (hi : i < D.length) :
    (op.off ≤ i → (i : Int) < op.off + n → D.getD i default = if op.kind = 1 then op.data.getD (i - op.off.toNat) default else 0) ∧
    ((i : Int) < op.off ∨ op.off + n ≤ (i : Int) → D.getD i default = W.getD i default) := by
  have h1 := h i hi
  unfold wantB at h1
  constructor
  · intro a b
    rw [if_pos (by omega)] at h1
    exact h1
  · intro a
    rw [if_neg (by omega)] at h1
    exact h1
theorem F6 (l : List Obj) (who : Ban) (op : Opr) (hop : op.ok) : F Try.prog 6 [.vs (l.map Obj.cells) false, .agg who.cells, .agg op.cells] (.val (.bool true)) := by
  have f14 := F14 l false
  refine F6_of ?_
  unfold k6
  cases hfit : fitB l with
  | false =>
    rw [hfit] at f14
    repeat' first
      | simp -dsimp (disch := omega) only [↓rulesA, rulesB, rulesC, Int.reduceLT, nth, upd, put, storeN, AV.one, Nat.reduceBEq, Nat.reduceBNe, Int.reduceBEq, Int.reduceBNe, Int.reduceLE, Int.reduceEq, Int.reduceMod, Int.reduceNeg, boolBin, strBin, intBin, unA, fillA, ne_eq, reduceCtorEq, Nat.reduceAdd, Nat.reduceSub, Nat.reduceLeDiff, Nat.reduceLT, Nat.reduceEqDiff, Int.reduceToNat, eq_self, rulesT, bne_self_eq_false, mm_min, mm_max, buOf_some, nilCheck_vp, nilCheck_ptr, nilCheck_yld, nilCheck_func, Ban.all, Ban.len, Ban.take, Opr.all, Opr.len, Opr.take, Opr.drop, Opr.g0, Opr.g1, *]
      | (refine allK_intro fun n hn => ?_; try simp only [fresh_set] at hn)
      | (refine ifK_intro (fun h => ?_) (fun h => ?_) <;> (try simp only [decide_eq_true_eq, decide_eq_false_iff_not, Bool.not_eq_true', Bool.not_eq_false'] at h) <;> try (exfalso; (try simp only [beq_iff_eq, beq_eq_false_iff_ne, bne_iff_ne, bne_eq_false_iff_eq, ne_eq] at h); omega))
      | (refine keeps_sub (Mem.sub_set ?_) ?_; focus (simp [Mem.set_at, nomem, *]; done))
      | (refine call_F (f14) (Seens.refl _ _) ?_)
      | (refine pure_F (f14) (Seens.refl _ _) ?_)
      | (refine call_F (F18) (Seens.refl _ _) ?_)
      | (refine pure_F (F18) (Seens.refl _ _) ?_)
    all_goals exact .val
  | true =>
    rw [hfit] at f14
    by_cases hk : op.kind = 1 ∨ op.kind = 2
    · have f21 := F21 l false op.name hfit
      have f20 := F20 l false who op hop hfit
      by_cases he : (inR l who op).err = 0
      · obtain ⟨D, ht⟩ := told_of hfit he hk
        have hL := in_fit hfit who op
        have f20b : F Try.prog 20 [.vs ((inL l who op).map Obj.cells) false, .agg who.cells, .agg [.val (.int .i64 5), .val (.string (.mk (List.toArray op.name))), .val (.int .i64 0), .val (.int .i64 64), .val (.string ⟨#[]⟩)]] (.tup [.vs ((inL (inL l who op) who (rdOp op.name)).map Obj.cells) false, .agg (Res.cells ⟨0, D.length, 0, D⟩)]) := by
          have := F20 (inL l who op) false who (rdOp op.name) (by obtain ⟨o1, o2, o3, o4, o5⟩ := hop; exact ⟨(by decide : (-9223372036854775808 : Int) ≤ 5 ∧ (5 : Int) ≤ 9223372036854775807), o2, (by decide : (-9223372036854775808 : Int) ≤ 0 ∧ (0 : Int) ≤ 9223372036854775807), (by decide : (-9223372036854775808 : Int) ≤ 64 ∧ (64 : Int) ≤ 9223372036854775807), (by decide : 0 ≤ 140737488351232)⟩) hL
          rw [in_read hL ht.hw ht.name ht.found, ht.data] at this
          exact this
        obtain ⟨s1, s2, s3, s4, s5⟩ := ht.small hop
        have hnum := ht.num
        have hth := ht.there
        have hby := ht.bytes
        have hD : D.length ≤ 64 := by
          have := ht.data
          rw [← this]
          exact (ok_parts (oAt_good hL _ ht.found).1).2.1
        have hW : (oAt l op.name).data.length ≤ 64 := by
          cases hfd : foundB l op.name (placeN l op.name) with
          | true => exact (ok_parts (oAt_good hfit _ hfd).1).2.1
          | false => unfold oAt; rw [hfd]; exact Nat.zero_le _
        clear ht hfit hL
        generalize inL (inL l who op) who (rdOp op.name) = L2 at *
        generalize inL l who op = L at *
        generalize inR l who op = R at *
        generalize oAt l op.name = was at *
        generalize foundB l op.name (placeN l op.name) = fb at *
        have hat := fun (n : Nat) (hn : n = if op.kind = 1 then op.data.length else op.num.toNat) (i : Nat) (hi : i < D.length) => wantB_at (n := n) (W := was.data) (fun i' hi' => hn.symm ▸ hby i' hi') s1 hi
        clear hby
        replace hat : Kept _ := hat
        rcases hk with hk | hk
        · clear hth
          repeat' first
            | simp -dsimp (disch := omega) only [↓rulesA, rulesB, rulesC, Int.reduceLT, nth, upd, put, storeN, AV.one, Nat.reduceBEq, Nat.reduceBNe, Int.reduceBEq, Int.reduceBNe, Int.reduceLE, Int.reduceEq, Int.reduceMod, Int.reduceNeg, boolBin, strBin, intBin, unA, fillA, ne_eq, reduceCtorEq, Nat.reduceAdd, Nat.reduceSub, Nat.reduceLeDiff, Nat.reduceLT, Nat.reduceEqDiff, Int.reduceToNat, eq_self, rulesT, bne_self_eq_false, mm_min, mm_max, buOf_some, nilCheck_vp, nilCheck_ptr, nilCheck_yld, nilCheck_func, Ban.all, Ban.len, Ban.take, Opr.all, Opr.len, Opr.take, Opr.drop, Opr.g0, Opr.g1, Opr.g3, Opr.g4, Res.all, Res.len, Res.take, Res.sall, Res.g0, Res.g1, Res.g3, Obj.all, Obj.len, Obj.take, Obj.sall, Obj.g1, text_size, hk, he, hnum, *]
            | (refine allK_intro fun n hn => ?_; try simp only [fresh_set] at hn)
            | (refine ifK_intro (fun h => ?_) (fun h => ?_) <;> (try simp only [decide_eq_true_eq, decide_eq_false_iff_not, Bool.not_eq_true', Bool.not_eq_false'] at h) <;> try (exfalso; (try simp only [beq_iff_eq, beq_eq_false_iff_ne, bne_iff_ne, bne_eq_false_iff_eq, ne_eq] at h); omega))
            | (refine keeps_sub (Mem.sub_set ?_) ?_; focus (simp [Mem.set_at, nomem, *]; done))
            | (refine call_F (f14) (Seens.refl _ _) ?_)
            | (refine pure_F (f14) (Seens.refl _ _) ?_)
            | (refine call_F (f21) (Seens.refl _ _) ?_)
            | (refine pure_F (f21) (Seens.refl _ _) ?_)
            | (refine call_F (f20) (Seens.refl _ _) ?_)
            | (refine pure_F (f20) (Seens.refl _ _) ?_)
            | (refine call_F (f20b) (Seens.refl _ _) ?_)
            | (refine pure_F (f20b) (Seens.refl _ _) ?_)
            | (refine call_F (F18) (Seens.refl _ _) ?_)
            | (refine pure_F (F18) (Seens.refl _ _) ?_)
          rename_i a ha b hb c hc d hd
          have hat' := (hat : ∀ _, _) op.data.length (by rw [hk]; rfl)
          clear hat f14 f20 f20b f21
          replace hat' : Kept _ := hat'
          have hnn : (op.data.length : Int) = (op.data.length : Int) := by omega
          refine loop_intro (fun j env m => ∃ i : Nat, i ≤ D.length ∧ j = D.length - i ∧ m = (((((nomem.set a (Blk.cells false 35 who.cells)).set b (Blk.cells false 23 op.cells)).set c (Blk.cells false 43 was.cells)).set d (Blk.cells false 39 R.cells)).set n (Blk.cells false 39 (Res.cells ⟨0, D.length, 0, D⟩))) ∧ env.length = 135 ∧ nth env 0 = .vs (l.map Obj.cells) false ∧ nth env 5 = .ptr b 0 ∧ nth env 7 = .ptr c 0 ∧ nth env 12 = .ptr n 0 ∧ nth env 13 = .val (.int .i64 (op.data.length : Int)) ∧ nth env 96 = .val (.int .i64 D.length) ∧ nth env 97 = .val (.int .i64 i)) D.length _ (Mem.sub.refl _) ⟨0, by omega, rfl, rfl, rfl, rfl, rfl, rfl, rfl, rfl, rfl, rfl⟩ ?_
          rintro j env m ⟨i, hi, rfl, rfl, hlen, e0, e5, e7, e12, e13, e96, e97⟩
          by_cases hil : i < D.length
          · have q := (hat' : ∀ i : Nat, _) i hil
            rw [if_pos hk] at q
            clear hat'
            replace q : Kept _ := q
            repeat' first
              | simp -dsimp (disch := omega) only [↓rulesA, rulesB, rulesC, Int.reduceLT, nth, upd, put, storeN, AV.one, Nat.reduceBEq, Nat.reduceBNe, Int.reduceBEq, Int.reduceBNe, Int.reduceLE, Int.reduceEq, Int.reduceMod, Int.reduceNeg, boolBin, strBin, intBin, unA, fillA, ne_eq, reduceCtorEq, Nat.reduceAdd, Nat.reduceSub, Nat.reduceLeDiff, Nat.reduceLT, Nat.reduceEqDiff, Int.reduceToNat, eq_self, rulesT, bne_self_eq_false, mm_min, mm_max, buOf_some, nilCheck_vp, nilCheck_ptr, nilCheck_yld, nilCheck_func, index_9, Opr.g0, Opr.g2, Opr.g4, Opr.len, Obj.g1, Obj.len, Res.g3, Res.len, text_size, hk, *]
              | (refine allK_intro fun n hn => ?_; try simp only [fresh_set] at hn)
              | (refine ifK_intro (fun h => ?_) (fun h => ?_) <;> (try simp only [decide_eq_true_eq, decide_eq_false_iff_not, Bool.not_eq_true', Bool.not_eq_false'] at h) <;> try (exfalso; (try simp only [beq_iff_eq, beq_eq_false_iff_ne, bne_iff_ne, bne_eq_false_iff_eq, ne_eq] at h); omega))
              | (refine keeps_sub (Mem.sub_set ?_) ?_; focus (simp [Mem.set_at, nomem, *]; done))
            all_goals first
              | (exfalso
                 obtain ⟨q1, q2⟩ := (q : _ ∧ _)
                 rw [q1 (by omega) (by omega)] at h
                 have hx : ((i : Int) - op.off).toNat = i - op.off.toNat := by omega
                 first | (rw [hx] at h; simp at h; done) | (simp at h; done))
              | (exfalso
                 obtain ⟨q1, q2⟩ := (q : _ ∧ _)
                 rw [q2 (by omega)] at h
                 first | (simp at h; done) | (rw [show was.data.getD i default = 0 from getD_past _ _ (by omega)] at h; simp at h; done))
              | (clear q
                 refine again_intro (D.length - (i + 1)) (by omega) _ (Mem.sub.refl _) ⟨i + 1, by omega, rfl, rfl, ?_, ?_, ?_, ?_, ?_, ?_, ?_, ?_⟩
                 all_goals try (simp (disch := omega) only [nth_upd, pickB_true, pickB_false, inB_lt, upd_len, cast_succ, Int.cast_ofNat_Int, Nat.reduceBEq, beq_self_eq_true, reduceCtorEq, *]; done)
                 done)
          · clear hat'
            repeat' first
              | simp -dsimp (disch := omega) only [↓rulesA, rulesB, rulesC, Int.reduceLT, nth, upd, put, storeN, AV.one, Nat.reduceBEq, Nat.reduceBNe, Int.reduceBEq, Int.reduceBNe, Int.reduceLE, Int.reduceEq, Int.reduceMod, Int.reduceNeg, boolBin, strBin, intBin, unA, fillA, ne_eq, reduceCtorEq, Nat.reduceAdd, Nat.reduceSub, Nat.reduceLeDiff, Nat.reduceLT, Nat.reduceEqDiff, Int.reduceToNat, eq_self, rulesT, bne_self_eq_false, mm_min, mm_max, buOf_some, nilCheck_vp, nilCheck_ptr, nilCheck_yld, nilCheck_func, *]
              | (refine allK_intro fun n hn => ?_; try simp only [fresh_set] at hn)
              | (refine ifK_intro (fun h => ?_) (fun h => ?_) <;> (try simp only [decide_eq_true_eq, decide_eq_false_iff_not, Bool.not_eq_true', Bool.not_eq_false'] at h) <;> try (exfalso; (try simp only [beq_iff_eq, beq_eq_false_iff_ne, bne_iff_ne, bne_eq_false_iff_eq, ne_eq] at h); omega))
              | (refine keeps_sub (Mem.sub_set ?_) ?_; focus (simp [Mem.set_at, nomem, *]; done))
              | (refine call_F (F18) (Seens.refl _ _) ?_)
              | (refine pure_F (F18) (Seens.refl _ _) ?_)
            exact .val
        · obtain ⟨hfb, hDW⟩ := hth hk
          clear hth
          subst hfb
          repeat' first
            | simp -dsimp (disch := omega) only [↓rulesA, rulesB, rulesC, Int.reduceLT, nth, upd, put, storeN, AV.one, Nat.reduceBEq, Nat.reduceBNe, Int.reduceBEq, Int.reduceBNe, Int.reduceLE, Int.reduceEq, Int.reduceMod, Int.reduceNeg, boolBin, strBin, intBin, unA, fillA, ne_eq, reduceCtorEq, Nat.reduceAdd, Nat.reduceSub, Nat.reduceLeDiff, Nat.reduceLT, Nat.reduceEqDiff, Int.reduceToNat, eq_self, rulesT, bne_self_eq_false, mm_min, mm_max, buOf_some, nilCheck_vp, nilCheck_ptr, nilCheck_yld, nilCheck_func, Ban.all, Ban.len, Ban.take, Opr.all, Opr.len, Opr.take, Opr.drop, Opr.g0, Opr.g1, Opr.g3, Opr.g4, Res.all, Res.len, Res.take, Res.sall, Res.g0, Res.g1, Res.g3, Obj.all, Obj.len, Obj.take, Obj.sall, Obj.g1, text_size, hk, he, hnum, hDW, *]
            | (refine allK_intro fun n hn => ?_; try simp only [fresh_set] at hn)
            | (refine ifK_intro (fun h => ?_) (fun h => ?_) <;> (try simp only [decide_eq_true_eq, decide_eq_false_iff_not, Bool.not_eq_true', Bool.not_eq_false'] at h) <;> try (exfalso; (try simp only [beq_iff_eq, beq_eq_false_iff_ne, bne_iff_ne, bne_eq_false_iff_eq, ne_eq] at h); omega))
            | (refine keeps_sub (Mem.sub_set ?_) ?_; focus (simp [Mem.set_at, nomem, *]; done))
            | (refine call_F (f14) (Seens.refl _ _) ?_)
            | (refine pure_F (f14) (Seens.refl _ _) ?_)
            | (refine call_F (f21) (Seens.refl _ _) ?_)
            | (refine pure_F (f21) (Seens.refl _ _) ?_)
            | (refine call_F (f20) (Seens.refl _ _) ?_)
            | (refine pure_F (f20) (Seens.refl _ _) ?_)
            | (refine call_F (f20b) (Seens.refl _ _) ?_)
            | (refine pure_F (f20b) (Seens.refl _ _) ?_)
            | (refine call_F (F18) (Seens.refl _ _) ?_)
            | (refine pure_F (F18) (Seens.refl _ _) ?_)
          rename_i a ha b hb c hc d hd
          have hat' := (hat : ∀ _, _) op.num.toNat (by rw [hk]; rfl)
          clear hat f14 f20 f20b f21
          replace hat' : Kept _ := hat'
          have hnn : (op.num.toNat : Int) = op.num := by omega
          refine loop_intro (fun j env m => ∃ i : Nat, i ≤ D.length ∧ j = D.length - i ∧ m = (((((nomem.set a (Blk.cells false 35 who.cells)).set b (Blk.cells false 23 op.cells)).set c (Blk.cells false 43 was.cells)).set d (Blk.cells false 39 R.cells)).set n (Blk.cells false 39 (Res.cells ⟨0, was.data.length, 0, D⟩))) ∧ env.length = 135 ∧ nth env 0 = .vs (l.map Obj.cells) false ∧ nth env 5 = .ptr b 0 ∧ nth env 7 = .ptr c 0 ∧ nth env 12 = .ptr n 0 ∧ nth env 13 = .val (.int .i64 op.num) ∧ nth env 96 = .val (.int .i64 was.data.length) ∧ nth env 97 = .val (.int .i64 i)) D.length _ (Mem.sub.refl _) ⟨0, by omega, rfl, rfl, rfl, rfl, rfl, rfl, rfl, rfl, rfl, rfl⟩ ?_
          rintro j env m ⟨i, hi, rfl, rfl, hlen, e0, e5, e7, e12, e13, e96, e97⟩
          by_cases hil : i < D.length
          · have q := (hat' : ∀ i : Nat, _) i hil
            rw [if_neg (by omega)] at q
            clear hat'
            replace q : Kept _ := q
            repeat' first
              | simp -dsimp (disch := omega) only [↓rulesA, rulesB, rulesC, Int.reduceLT, nth, upd, put, storeN, AV.one, Nat.reduceBEq, Nat.reduceBNe, Int.reduceBEq, Int.reduceBNe, Int.reduceLE, Int.reduceEq, Int.reduceMod, Int.reduceNeg, boolBin, strBin, intBin, unA, fillA, ne_eq, reduceCtorEq, Nat.reduceAdd, Nat.reduceSub, Nat.reduceLeDiff, Nat.reduceLT, Nat.reduceEqDiff, Int.reduceToNat, eq_self, rulesT, bne_self_eq_false, mm_min, mm_max, buOf_some, nilCheck_vp, nilCheck_ptr, nilCheck_yld, nilCheck_func, index_9, Opr.g0, Opr.g2, Opr.g4, Opr.len, Obj.g1, Obj.len, Res.g3, Res.len, text_size, hk, *]
              | (refine allK_intro fun n hn => ?_; try simp only [fresh_set] at hn)
              | (refine ifK_intro (fun h => ?_) (fun h => ?_) <;> (try simp only [decide_eq_true_eq, decide_eq_false_iff_not, Bool.not_eq_true', Bool.not_eq_false'] at h) <;> try (exfalso; (try simp only [beq_iff_eq, beq_eq_false_iff_ne, bne_iff_ne, bne_eq_false_iff_eq, ne_eq] at h); omega))
              | (refine keeps_sub (Mem.sub_set ?_) ?_; focus (simp [Mem.set_at, nomem, *]; done))
            all_goals first
              | (exfalso
                 obtain ⟨q1, q2⟩ := (q : _ ∧ _)
                 rw [q1 (by omega) (by omega)] at h
                 have hx : ((i : Int) - op.off).toNat = i - op.off.toNat := by omega
                 first | (rw [hx] at h; simp at h; done) | (simp at h; done))
              | (exfalso
                 obtain ⟨q1, q2⟩ := (q : _ ∧ _)
                 rw [q2 (by omega)] at h
                 first | (simp at h; done) | (rw [show was.data.getD i default = 0 from getD_past _ _ (by omega)] at h; simp at h; done))
              | (clear q
                 refine again_intro (D.length - (i + 1)) (by omega) _ (Mem.sub.refl _) ⟨i + 1, by omega, rfl, rfl, ?_, ?_, ?_, ?_, ?_, ?_, ?_, ?_⟩
                 all_goals try (simp (disch := omega) only [nth_upd, pickB_true, pickB_false, inB_lt, upd_len, cast_succ, Int.cast_ofNat_Int, Nat.reduceBEq, beq_self_eq_true, reduceCtorEq, *]; done)
                 done)
          · clear hat'
            repeat' first
              | simp -dsimp (disch := omega) only [↓rulesA, rulesB, rulesC, Int.reduceLT, nth, upd, put, storeN, AV.one, Nat.reduceBEq, Nat.reduceBNe, Int.reduceBEq, Int.reduceBNe, Int.reduceLE, Int.reduceEq, Int.reduceMod, Int.reduceNeg, boolBin, strBin, intBin, unA, fillA, ne_eq, reduceCtorEq, Nat.reduceAdd, Nat.reduceSub, Nat.reduceLeDiff, Nat.reduceLT, Nat.reduceEqDiff, Int.reduceToNat, eq_self, rulesT, bne_self_eq_false, mm_min, mm_max, buOf_some, nilCheck_vp, nilCheck_ptr, nilCheck_yld, nilCheck_func, *]
              | (refine allK_intro fun n hn => ?_; try simp only [fresh_set] at hn)
              | (refine ifK_intro (fun h => ?_) (fun h => ?_) <;> (try simp only [decide_eq_true_eq, decide_eq_false_iff_not, Bool.not_eq_true', Bool.not_eq_false'] at h) <;> try (exfalso; (try simp only [beq_iff_eq, beq_eq_false_iff_ne, bne_iff_ne, bne_eq_false_iff_eq, ne_eq] at h); omega))
              | (refine keeps_sub (Mem.sub_set ?_) ?_; focus (simp [Mem.set_at, nomem, *]; done))
              | (refine call_F (F18) (Seens.refl _ _) ?_)
              | (refine pure_F (F18) (Seens.refl _ _) ?_)
            exact .val
      · clear hfit
        generalize inR l who op = R at *
        generalize inL l who op = L at *
        repeat' first
          | simp -dsimp (disch := omega) only [↓rulesA, rulesB, rulesC, Int.reduceLT, nth, upd, put, storeN, AV.one, Nat.reduceBEq, Nat.reduceBNe, Int.reduceBEq, Int.reduceBNe, Int.reduceLE, Int.reduceEq, Int.reduceMod, Int.reduceNeg, boolBin, strBin, intBin, unA, fillA, ne_eq, reduceCtorEq, Nat.reduceAdd, Nat.reduceSub, Nat.reduceLeDiff, Nat.reduceLT, Nat.reduceEqDiff, Int.reduceToNat, eq_self, rulesT, bne_self_eq_false, mm_min, mm_max, buOf_some, nilCheck_vp, nilCheck_ptr, nilCheck_yld, nilCheck_func, Ban.all, Ban.len, Ban.take, Opr.all, Opr.len, Opr.take, Opr.drop, Opr.g0, Opr.g1, Res.all, Res.len, Res.take, Res.sall, Res.g0, Obj.all, Obj.len, Obj.take, Obj.sall, *]
          | (refine allK_intro fun n hn => ?_; try simp only [fresh_set] at hn)
          | (refine ifK_intro (fun h => ?_) (fun h => ?_) <;> (try simp only [decide_eq_true_eq, decide_eq_false_iff_not, Bool.not_eq_true', Bool.not_eq_false'] at h) <;> try (exfalso; (try simp only [beq_iff_eq, beq_eq_false_iff_ne, bne_iff_ne, bne_eq_false_iff_eq, ne_eq] at h); omega))
          | (refine keeps_sub (Mem.sub_set ?_) ?_; focus (simp [Mem.set_at, nomem, *]; done))
          | (refine call_F (f14) (Seens.refl _ _) ?_)
          | (refine pure_F (f14) (Seens.refl _ _) ?_)
          | (refine call_F (f21) (Seens.refl _ _) ?_)
          | (refine pure_F (f21) (Seens.refl _ _) ?_)
          | (refine call_F (f20) (Seens.refl _ _) ?_)
          | (refine pure_F (f20) (Seens.refl _ _) ?_)
          | (refine call_F (F18) (Seens.refl _ _) ?_)
          | (refine pure_F (F18) (Seens.refl _ _) ?_)
        all_goals exact .val
    · repeat' first
        | simp -dsimp (disch := omega) only [↓rulesA, rulesB, rulesC, Int.reduceLT, nth, upd, put, storeN, AV.one, Nat.reduceBEq, Nat.reduceBNe, Int.reduceBEq, Int.reduceBNe, Int.reduceLE, Int.reduceEq, Int.reduceMod, Int.reduceNeg, boolBin, strBin, intBin, unA, fillA, ne_eq, reduceCtorEq, Nat.reduceAdd, Nat.reduceSub, Nat.reduceLeDiff, Nat.reduceLT, Nat.reduceEqDiff, Int.reduceToNat, eq_self, rulesT, bne_self_eq_false, mm_min, mm_max, buOf_some, nilCheck_vp, nilCheck_ptr, nilCheck_yld, nilCheck_func, Ban.all, Ban.len, Ban.take, Opr.all, Opr.len, Opr.take, Opr.drop, Opr.g0, Opr.g1, *]
        | (refine allK_intro fun n hn => ?_; try simp only [fresh_set] at hn)
        | (refine ifK_intro (fun h => ?_) (fun h => ?_) <;> (try simp only [decide_eq_true_eq, decide_eq_false_iff_not, Bool.not_eq_true', Bool.not_eq_false'] at h) <;> try (exfalso; (try simp only [beq_iff_eq, beq_eq_false_iff_ne, bne_iff_ne, bne_eq_false_iff_eq, ne_eq] at h); omega))
        | (refine keeps_sub (Mem.sub_set ?_) ?_; focus (simp [Mem.set_at, nomem, *]; done))
        | (refine call_F (f14) (Seens.refl _ _) ?_)
        | (refine pure_F (f14) (Seens.refl _ _) ?_)
        | (refine call_F (F18) (Seens.refl _ _) ?_)
        | (refine pure_F (F18) (Seens.refl _ _) ?_)
      all_goals exact .val
theorem reads_law : ∀ args, ShapedAll Try.prog Try.f6.params.toList args → F Try.prog 6 args (.val (.bool true)) := by
  intro args h
  have hp : Try.f6.params.toList = [24, 35, 23] := by kernel_rfl
  rw [hp] at h
  match args, h with
  | [a, b, c], ⟨h0, h1, h2, _⟩ =>
    obtain ⟨l, rfl, l1, l2⟩ := objs_of h0
    obtain ⟨cs, rfl, hl, hs'⟩ := h1.cells ti_35 rfl
    obtain ⟨who, rfl, _⟩ := Ban.of_shaped hs' hl
    obtain ⟨cs2, rfl, hl2, hs2⟩ := h2.cells ti_23 rfl
    obtain ⟨op, rfl, ho⟩ := Opr.of_shaped hs2 hl2
    exact F6 l who op ho
end Go.Proofs.Ytanfgfclpjmngaa


/- Package 19: a PG of at most one object (plain). -/
set_option maxRecDepth 100000
set_option maxHeartbeats 1000000
set_option linter.unusedSimpArgs false
set_option linter.unusedVariables false
namespace Go.Proofs.Ytanfgfclpjmngaa
open Go.Abs
attribute [local irreducible] C X CC Y CV CW binK litK AppK PureC PureCV againK loopV rangeV allK ifK got onB condK V stepsK planK opK firstK seeE keepsK

/-- The row of at most one object. -/
def rowB (o : Obj) (b : Bool) : List Obj := if b then [o] else []
structure One (nm : List UInt8) (o : Obj) (b : Bool) : Prop where
  yes : b = true → objOk o = true ∧ o.name = nm
  no : b = false → o = noObj
theorem one_fit {nm : List UInt8} {o : Obj} {b : Bool} (h : One nm o b) : fitB (rowB o b) = true := by
  unfold rowB
  cases hb : b with
  | false => rfl
  | true =>
    refine (fit_iff _).2 ⟨by simp, fun x hx => ?_, by simp⟩
    simp at hx
    rw [hx]; exact (h.yes hb).1
theorem one_find {nm : List UInt8} {o : Obj} {b : Bool} (h : One nm o b) : foundB (rowB o b) nm (placeN (rowB o b) nm) = b ∧ oAt (rowB o b) nm = o ∧ (b = true → placeN (rowB o b) nm = 0) := by
  cases hb : b with
  | false =>
    rw [h.no hb]
    exact ⟨rfl, rfl, fun e => by cases e⟩
  | true =>
    have h2 := (h.yes hb).2
    have hm : o ∈ rowB o true := by simp [rowB]
    have := find_mem (hb ▸ one_fit h : fitB (rowB o true) = true) hm
    rw [h2] at this
    refine ⟨this.1, this.2.1, fun _ => ?_⟩
    have h3 := this.2.2.1
    simp [rowB] at h3
    exact h3
/-- In a PG of at most one object, an operation on it does what it does with the object. -/
theorem one_in {nm : List UInt8} {o : Obj} {b : Bool} (h : One nm o b) (hn : nameOk nm = true) {who : Ban} {op : Opr} (ho : op.name = nm) :
    inL (rowB o b) who op = rowB (outO (doS o b who op)) (doS o b who op).there ∧ inR (rowB o b) who op = doR o b who op ∧ One nm (outO (doS o b who op)) (doS o b who op).there := by
  obtain ⟨f1, f2, f3⟩ := one_find h
  subst ho
  have e1 : inDo (rowB o b) who op = doS o b who op := by unfold inDo; rw [f1, f2]
  have e2 : inRes (rowB o b) who op = doR o b who op := by unfold inRes; rw [f1, f2]
  cases hd : doOk who op with
  | false =>
    have hf : doOk who op = false := hd
    have a1 : doS o b who op = sheetOf o b who op := by unfold doS; rw [hf]; rfl
    have a2 : doR o b who op = errR 27 := by unfold doR; rw [hf]; rfl
    have a3 : outO (sheetOf o b who op) = o ∧ (sheetOf o b who op).there = b := by
      refine ⟨?_, rfl⟩
      unfold outO sheetOf
      cases hb : b with
      | true => rfl
      | false => exact (h.no hb).symm
    rw [a1, a2, a3.1, a3.2]
    refine ⟨by unfold inL; rw [if_pos hf], by unfold inR; rw [if_pos hf], h⟩
  | true =>
    have hf : ¬ doOk who op = false := by rw [hd]; decide
    have h10 : op.kind ≠ 10 := fun e => by
      have hd2 : opOk op = true ∧ whoB who = true := by unfold doOk at hd; simpa using hd
      have := hd2.1
      unfold opOk noTxt at this
      simp [e] at this
      rw [this.1.1.1] at hn; exact absurd hn (by decide)
    have hlen : ¬ 16 ≤ (rowB o b).length := by unfold rowB; split <;> simp
    have hgood : (doS o b who op).there = true → objOk (doS o b who op).o = true ∧ (doS o b who op).o.name = op.name := do_fit hd h.yes
    have hone : One op.name (outO (doS o b who op)) (doS o b who op).there := ⟨fun e => by unfold outO; rw [if_pos e]; exact hgood e, fun e => by unfold outO; rw [if_neg (by rw [e]; decide)]⟩
    refine ⟨?_, ?_, hone⟩
    · unfold inL
      rw [if_neg hf, if_neg h10, e1, f1]
      cases ht : (doS o b who op).there with
      | true =>
        rw [if_pos rfl]
        have eo : outO (doS o b who op) = (doS o b who op).o := if_pos ht
        rw [eo]
        cases hb : b with
        | true =>
          subst hb
          rw [if_pos rfl, f3 rfl]; rfl
        | false =>
          subst hb
          rw [if_neg (by decide), if_neg hlen]
          rfl
      | false =>
        rw [if_neg (by decide)]
        cases hb : b with
        | true =>
          subst hb
          rw [if_pos rfl, f3 rfl]; rfl
        | false =>
          subst hb
          rw [if_neg (by decide)]; rfl
    · unfold inR
      rw [if_neg hf, if_neg h10, e2]
      exact if_neg (fun q => hlen q.2.2)
/-! ### The lock -/
def holdO (o : Obj) : Ban := ⟨o.client, o.inst⟩
theorem hold_free {o : Obj} (h : objOk o = true) (hl : o.locked = false) : holdO o = ⟨0, 0⟩ := by
  have := (ok_parts h).2.2
  rw [hl] at this
  simp at this
  unfold holdO
  rw [this.1, this.2]
theorem hold_held {o : Obj} (h : objOk o = true) (hl : o.locked = true) : whoB (holdO o) = true := by
  have := (ok_parts h).2.2
  rw [hl] at this
  exact this
def lkOp (k : Int) (nm : List UInt8) (h : Ban) : Opr := if k = 9 then ⟨9, nm, max h.inst 1, h.client, []⟩ else ⟨k, nm, 0, 0, []⟩
theorem one_hold {nm : List UInt8} {o : Obj} {b : Bool} (h : One nm o b) : (o.locked = true → b = true ∧ whoB (holdO o) = true) ∧ (o.locked = false → holdO o = ⟨0, 0⟩) := by
  cases b with
  | false => rw [h.no rfl]; exact ⟨fun e => (by cases e), fun _ => rfl⟩
  | true => exact ⟨fun e => ⟨rfl, hold_held (h.yes rfl).1 e⟩, hold_free (h.yes rfl).1⟩
/-- What becomes of the lock. -/
structure Lk (k : Int) (o : Obj) (H who : Ban) (r : Res) (o' : Obj) : Prop where
  busy : k = 7 → o.locked = true → who ≠ H → r = ⟨29, o.client, o.inst, []⟩ ∧ o' = o
  lock : k = 7 → ¬ (o.locked = true ∧ who ≠ H) → r.err = 0 ∧ o'.locked = true ∧ holdO o' = who
  unlock : k = 8 → (r.err = 0 ↔ o.locked = true ∧ who = H) ∧ (r.err = 0 → o'.locked = false ∧ holdO o' = ⟨0, 0⟩) ∧ (r.err ≠ 0 → o'.locked = o.locked ∧ holdO o' = H)
  broke : k = 9 → (r.err = 0 ↔ o.locked = true) ∧ o'.locked = false ∧ holdO o' = ⟨0, 0⟩
  gone : k = 4 → o'.locked = false ∧ holdO o' = ⟨0, 0⟩
  else_ : k ≠ 7 → k ≠ 8 → k ≠ 9 → k ≠ 4 → o'.locked = o.locked ∧ holdO o' = H
theorem lk_ok7 {nm : List UInt8} (hn : nameOk nm = true) {who : Ban} (hw : whoB who = true) {k : Int} (hk : k = 1 ∨ k = 2 ∨ k = 3 ∨ k = 4 ∨ k = 5 ∨ k = 6 ∨ k = 7 ∨ k = 8) : doOk who ⟨k, nm, 0, 0, []⟩ = true := by
  unfold doOk
  rw [hw, Bool.and_true]
  unfold opOk
  rcases hk with e | e | e | e | e | e | e | e <;> subst e <;> simp [hn, smallB, noTxt]
theorem mk0_lock (s : Sheet) (h : s.there = false → s.o = noObj) : (mk0 s).o.locked = s.o.locked ∧ holdO (mk0 s).o = holdO s.o := by
  unfold mk0
  cases hs : s.there with
  | true => exact ⟨rfl, rfl⟩
  | false => rw [h hs]; exact ⟨rfl, rfl⟩
theorem lk_of {nm : List UInt8} {o : Obj} {b : Bool} (h : One nm o b) (hn : nameOk nm = true) {who : Ban} (hw : whoB who = true) (k : Int) :
    Lk k o (holdO o) who (doR o b who (lkOp k nm (holdO o))) (outO (doS o b who (lkOp k nm (holdO o)))) := by
  obtain ⟨hh1, hh2⟩ := one_hold h
  have hso : ∀ op, (sheetOf o b who op).o = o := fun op => by
    unfold sheetOf
    cases hb : b with
    | true => rfl
    | false => exact (h.no hb).symm
  have hout : ∀ op, outO (sheetOf o b who op) = o := fun op => by
    unfold outO
    rw [hso]
    show (if b then o else noObj) = o
    cases hb : b with
    | true => rfl
    | false => exact (h.no hb).symm
  have hbad : doOk who (lkOp k nm (holdO o)) = false → k ≠ 7 → k ≠ 8 → k ≠ 9 → k ≠ 4 → Lk k o (holdO o) who (doR o b who (lkOp k nm (holdO o))) (outO (doS o b who (lkOp k nm (holdO o)))) := fun hd q1 q2 q3 q4 => by
    have a1 : doS o b who (lkOp k nm (holdO o)) = sheetOf o b who (lkOp k nm (holdO o)) := by unfold doS; rw [hd]; rfl
    rw [a1, hout]
    exact ⟨fun e => absurd e q1, fun e => absurd e q1, fun e => absurd e q2, fun e => absurd e q3, fun e => absurd e q4, fun _ _ _ _ => ⟨rfl, rfl⟩⟩
  by_cases k9 : k = 9
  · subst k9
    have hop : lkOp 9 nm (holdO o) = ⟨9, nm, max (holdO o).inst 1, (holdO o).client, []⟩ := if_pos rfl
    rw [hop]
    have hin : 1 ≤ max (holdO o).inst 1 ∧ max (holdO o).inst 1 ≤ 1073741824 ∧ 0 ≤ (holdO o).client ∧ (holdO o).client < 4 := by
      cases hl : o.locked with
      | true => have := (hh1 hl).2; unfold whoB at this; simp at this; omega
      | false => rw [hh2 hl]; decide
    have hdo : doOk who ⟨9, nm, max (holdO o).inst 1, (holdO o).client, []⟩ = true := by
      unfold doOk
      rw [hw, Bool.and_true]
      unfold opOk
      simp [hn, noTxt]
      omega
    have a1 : doS o b who ⟨9, nm, max (holdO o).inst 1, (holdO o).client, []⟩ = freeS (sheetOf o b who ⟨9, nm, max (holdO o).inst 1, (holdO o).client, []⟩) ⟨(holdO o).client, max (holdO o).inst 1⟩ := by
      unfold doS; rw [if_pos hdo]; simp [actS, sheetOf]
    have a2 : doR o b who ⟨9, nm, max (holdO o).inst 1, (holdO o).client, []⟩ = freeR (sheetOf o b who ⟨9, nm, max (holdO o).inst 1, (holdO o).client, []⟩) ⟨(holdO o).client, max (holdO o).inst 1⟩ := by
      unfold doR; rw [if_pos hdo]; simp [actR, sheetOf]
    rw [a1, a2]
    have so := hso ⟨9, nm, max (holdO o).inst 1, (holdO o).client, []⟩
    have st : (sheetOf o b who ⟨9, nm, max (holdO o).inst 1, (holdO o).client, []⟩).there = b := rfl
    generalize sheetOf o b who ⟨9, nm, max (holdO o).inst 1, (holdO o).client, []⟩ = s at *
    refine ⟨fun e => (by cases e), fun e => (by cases e), fun e => (by cases e), fun _ => ?_, fun e => (by cases e), fun _ _ e => absurd rfl e⟩
    unfold freeR freeS
    rw [st, so]
    cases hl : o.locked with
    | false =>
      have := hh2 hl
      cases hb : b with
      | false =>
        have e0 := h.no hb
        rw [if_pos rfl, if_pos rfl]
        refine ⟨⟨fun e => absurd e (by decide), fun e => by cases e⟩, ?_⟩
        unfold outO; rw [st, hb]
        exact ⟨rfl, rfl⟩
      | true =>
        rw [if_neg (by decide), if_pos (.inl rfl), if_neg (by decide), if_pos (.inl rfl)]
        refine ⟨⟨fun e => absurd e (by decide), fun e => by cases e⟩, ?_⟩
        unfold outO; rw [st, hb, if_pos rfl, so]
        exact ⟨hl, this⟩
    | true =>
      obtain ⟨hb, hw2⟩ := hh1 hl
      subst hb
      have hi : max (holdO o).inst 1 = (holdO o).inst := by unfold whoB at hw2; simp at hw2; omega
      have hc : ¬ (true = false ∨ ({ client := o.client, inst := o.inst } : Ban) ≠ ⟨(holdO o).client, max (holdO o).inst 1⟩) := by
        rw [hi]; rintro (q | q)
        · cases q
        · exact q rfl
      rw [if_neg (by decide), if_neg hc, if_neg (by decide), if_neg hc]
      refine ⟨⟨fun _ => rfl, fun _ => rfl⟩, ?_⟩
      unfold outO
      rw [if_pos rfl]
      exact ⟨rfl, rfl⟩
  have hop : lkOp k nm (holdO o) = ⟨k, nm, 0, 0, []⟩ := if_neg k9
  rw [hop] at hbad ⊢
  by_cases hks : k = 1 ∨ k = 2 ∨ k = 3 ∨ k = 4 ∨ k = 5 ∨ k = 6 ∨ k = 7 ∨ k = 8
  · have hdo := lk_ok7 hn hw hks
    have a1 : doS o b who ⟨k, nm, 0, 0, []⟩ = actS (sheetOf o b who ⟨k, nm, 0, 0, []⟩) := by unfold doS; rw [if_pos hdo]
    have a2 : doR o b who ⟨k, nm, 0, 0, []⟩ = actR (sheetOf o b who ⟨k, nm, 0, 0, []⟩) := by unfold doR; rw [if_pos hdo]
    rw [a1, a2]
    have so := hso ⟨k, nm, 0, 0, []⟩
    have sou := hout ⟨k, nm, 0, 0, []⟩
    have st : (sheetOf o b who ⟨k, nm, 0, 0, []⟩).there = b := rfl
    have sw : (sheetOf o b who ⟨k, nm, 0, 0, []⟩).who = who := rfl
    have sk : (sheetOf o b who ⟨k, nm, 0, 0, []⟩).op.kind = k := rfl
    have sd : (sheetOf o b who ⟨k, nm, 0, 0, []⟩).op.data = [] := rfl
    have sf : (sheetOf o b who ⟨k, nm, 0, 0, []⟩).op.off = 0 := rfl
    generalize sheetOf o b who ⟨k, nm, 0, 0, []⟩ = s at *
    have hml := mk0_lock s (fun e => by rw [so]; exact h.no (by rw [← st]; exact e))
    rw [so] at hml
    have hmt := (mk0_is s).2.2
    rcases hks with e | e | e | e | e | e | e | e <;> subst e
    · have b1 : actS s = writeS s := by simp [actS, sk]
      rw [b1]
      refine ⟨fun e => (by cases e), fun e => (by cases e), fun e => (by cases e), fun e => (by cases e), fun e => (by cases e), fun _ _ _ _ => ?_⟩
      have hc : ¬ 64 < wEnd s := by unfold wEnd; rw [sd, sf]; decide
      unfold writeS
      rw [if_neg hc]
      unfold outO
      rw [if_pos hmt]
      exact hml
    · have b1 : actS s = zeroS s := by simp [actS, sk]
      rw [b1]
      refine ⟨fun e => (by cases e), fun e => (by cases e), fun e => (by cases e), fun e => (by cases e), fun e => (by cases e), fun _ _ _ _ => ?_⟩
      unfold zeroS
      split
      · rename_i hc
        unfold outO
        rw [if_pos hc]
        rw [so]; exact ⟨rfl, rfl⟩
      · rw [sou]; exact ⟨rfl, rfl⟩
    · have b1 : actS s = truncS s := by simp [actS, sk]
      rw [b1]
      refine ⟨fun e => (by cases e), fun e => (by cases e), fun e => (by cases e), fun e => (by cases e), fun e => (by cases e), fun _ _ _ _ => ?_⟩
      unfold truncS outO
      rw [if_pos hmt]
      exact hml
    · have b1 : actS s = { s with there := false } := by simp [actS, sk]
      rw [b1]
      exact ⟨fun e => (by cases e), fun e => (by cases e), fun e => (by cases e), fun e => (by cases e), fun _ => ⟨rfl, rfl⟩, fun _ _ _ e => absurd rfl e⟩
    · have b1 : actS s = s := by simp [actS, sk]
      rw [b1, sou]
      exact ⟨fun e => (by cases e), fun e => (by cases e), fun e => (by cases e), fun e => (by cases e), fun e => (by cases e), fun _ _ _ _ => ⟨rfl, rfl⟩⟩
    · have b1 : actS s = s := by simp [actS, sk]
      rw [b1, sou]
      exact ⟨fun e => (by cases e), fun e => (by cases e), fun e => (by cases e), fun e => (by cases e), fun e => (by cases e), fun _ _ _ _ => ⟨rfl, rfl⟩⟩
    · have b1 : actS s = lockS s := by simp [actS, sk]
      have b2 : actR s = lockR s := by simp [actR, sk]
      rw [b1, b2]
      have hb2 : o.locked = true → s.there = true := fun e => by rw [st]; exact (hh1 e).1
      have hcond : (s.there = true ∧ s.o.locked = true ∧ (⟨s.o.client, s.o.inst⟩ : Ban) ≠ s.who) ↔ (o.locked = true ∧ who ≠ holdO o) := by
        rw [so, sw]
        constructor
        · rintro ⟨_, q1, q2⟩; exact ⟨q1, fun e => q2 e.symm⟩
        · rintro ⟨q1, q2⟩; exact ⟨hb2 q1, q1, fun e => q2 e.symm⟩
      refine ⟨fun _ q1 q2 => ?_, fun _ q => ?_, fun e => (by cases e), fun e => (by cases e), fun e => (by cases e), fun e => absurd rfl e⟩
      · unfold lockR lockS
        rw [if_pos (hcond.2 ⟨q1, q2⟩), if_pos (hcond.2 ⟨q1, q2⟩), sou, so]
        exact ⟨rfl, rfl⟩
      · unfold lockR lockS
        rw [if_neg (fun c => q (hcond.1 c)), if_neg (fun c => q (hcond.1 c))]
        unfold outO
        rw [if_pos hmt]
        refine ⟨rfl, rfl, ?_⟩
        show (⟨s.who.client, s.who.inst⟩ : Ban) = who
        rw [sw]
    · have b1 : actS s = freeS s s.who := by simp [actS, sk]
      have b2 : actR s = freeR s s.who := by simp [actR, sk]
      rw [b1, b2]
      refine ⟨fun e => (by cases e), fun e => (by cases e), fun _ => ?_, fun e => (by cases e), fun e => (by cases e), fun _ e => absurd rfl e⟩
      unfold freeR freeS
      cases hb : s.there with
      | false =>
        rw [if_pos rfl, if_pos rfl, sou]
        have hl : o.locked = false := by rw [h.no (by rw [← st]; exact hb)]; rfl
        refine ⟨⟨fun e => absurd e (by decide), fun e => by rw [hl] at e; cases e.1⟩, fun e => absurd e (by decide), fun _ => ⟨rfl, rfl⟩⟩
      | true =>
        have t0 : ¬ (true = false) := by decide
        rw [if_neg t0, if_neg t0]
        by_cases hc : s.o.locked = false ∨ ({ client := s.o.client, inst := s.o.inst } : Ban) ≠ s.who
        · rw [if_pos hc, if_pos hc, sou]
          refine ⟨⟨fun e => absurd e (by decide), fun e => ?_⟩, fun e => absurd e (by decide), fun _ => ⟨rfl, rfl⟩⟩
          rw [so, sw] at hc
          rcases hc with q | q
          · rw [q] at e; cases e.1
          · exact absurd e.2.symm q
        · rw [if_neg hc, if_neg hc]
          rw [so, sw] at hc
          refine ⟨⟨fun _ => ?_, fun _ => rfl⟩, fun _ => ?_, fun e => absurd rfl e⟩
          · constructor
            · cases hq : o.locked with
              | true => rfl
              | false => exact absurd (.inl hq) hc
            · exact Classical.byContradiction fun q => hc (.inr (fun e => q e.symm))
          · unfold outO
            rw [if_pos rfl]
            exact ⟨rfl, rfl⟩
  · refine hbad ?_ (by omega) (by omega) k9 (by omega)
    unfold doOk
    rw [hw, Bool.and_true]
    unfold opOk
    simp only [not_or] at hks
    obtain ⟨q1, q2, q3, q4, q5, q6, q7, q8⟩ := hks
    simp only [q1, q2, q3, q4, q5, q6, q7, q8, k9, if_false, or_self]
    split
    · unfold noTxt
      cases hx : nm with
      | nil => rw [hx] at hn; exact absurd hn (by decide)
      | cons a t => rfl
    · rfl
end Go.Proofs.Ytanfgfclpjmngaa


/- Package 19: the reference's put (plain). -/
set_option maxRecDepth 100000
set_option maxHeartbeats 1000000
set_option linter.unusedSimpArgs false
set_option linter.unusedVariables false
namespace Go.Proofs.Ytanfgfclpjmngaa
open Go.Abs
attribute [local irreducible] C X CC Y CV CW binK litK AppK PureC PureCV againK loopV rangeV allK ifK got onB condK V stepsK planK opK firstK seeE keepsK

def putS (nm : List UInt8) (o : Obj) (q : List Obj × Bool) (x : Obj) : List Obj × Bool :=
  let p := if q.2 = false ∧ lessT x.name nm = false then (q.1 ++ [o], true) else q
  if x.name = nm then p else (p.1 ++ [x], p.2)
theorem putS_in {nm : List UInt8} (o : Obj) {q : List Obj × Bool} {x : Obj} (h1 : q.2 = false) (h2 : lessT x.name nm = false) : putS nm o q x = if x.name = nm then (q.1 ++ [o], true) else (q.1 ++ [o] ++ [x], true) := by
  have hc : q.2 = false ∧ lessT x.name nm = false := ⟨h1, h2⟩
  by_cases hn : x.name = nm
  · rw [if_pos hn]; unfold putS; rw [if_pos hc]; exact if_pos hn
  · rw [if_neg hn]; unfold putS; rw [if_pos hc]; exact if_neg hn
theorem putS_by {nm : List UInt8} (o : Obj) {q : List Obj × Bool} {x : Obj} (h : ¬ (q.2 = false ∧ lessT x.name nm = false)) : putS nm o q x = if x.name = nm then q else (q.1 ++ [x], q.2) := by
  have e : (if q.2 = false ∧ lessT x.name nm = false then (q.1 ++ [o], true) else q) = q := if_neg h
  unfold putS
  rw [e]
def putTo (l : List Obj) (nm : List UInt8) (o : Obj) (b : Bool) : List Obj × Bool := l.foldl (putS nm o) ([], !b)
def putL (l : List Obj) (nm : List UInt8) (o : Obj) (b : Bool) : List Obj := if (putTo l nm o b).2 then (putTo l nm o b).1 else (putTo l nm o b).1 ++ [o]
theorem putTo_next (l : List Obj) (nm : List UInt8) (o : Obj) (b : Bool) {i : Nat} (hi : i < l.length) : putTo (l.take (i + 1)) nm o b = putS nm o (putTo (l.take i) nm o b) (l.getD i default) := by
  unfold putTo
  rw [tk_next l i hi, List.foldl_append]; rfl
theorem putS_len (nm : List UInt8) (o : Obj) (q : List Obj × Bool) (x : Obj) : (putS nm o q x).1.length ≤ q.1.length + 2 := by
  unfold putS
  dsimp only
  split <;> split <;> simp <;> omega
theorem put_len (l : List Obj) (nm : List UInt8) (o : Obj) (b : Bool) : ∀ i, i ≤ l.length → (putTo (l.take i) nm o b).1.length ≤ 2 * i
  | 0, _ => by simp [putTo]
  | i + 1, h => by
    rw [putTo_next l nm o b h]
    have := put_len l nm o b i (by omega)
    have := putS_len nm o (putTo (l.take i) nm o b) (l.getD i default)
    omega
theorem fold_lo {nm : List UInt8} (o : Obj) : ∀ (l : List Obj) (q : List Obj × Bool), (∀ x ∈ l, lessT x.name nm = true) → l.foldl (putS nm o) q = (q.1 ++ l, q.2)
  | [], q, _ => by simp
  | x :: l, q, h => by
    have hx := h x (List.mem_cons_self ..)
    have hne : x.name ≠ nm := fun e => by rw [e, less_irrefl] at hx; cases hx
    have e : putS nm o q x = (q.1 ++ [x], q.2) := by
      rw [putS_by o (fun c => by rw [hx] at c; cases c.2), if_neg hne]
    rw [List.foldl_cons, e, fold_lo o l _ (fun y hy => h y (List.mem_cons_of_mem _ hy))]
    simp
theorem fold_hi {nm : List UInt8} (o : Obj) : ∀ (l : List Obj) (p : List Obj), (∀ x ∈ l, x.name ≠ nm) → l.foldl (putS nm o) (p, true) = (p ++ l, true)
  | [], q, _ => by simp
  | x :: l, q, h => by
    have e : putS nm o (q, true) x = (q ++ [x], true) := by
      rw [putS_by o (fun c => by cases c.1), if_neg (h x (List.mem_cons_self ..))]
    rw [List.foldl_cons, e, fold_hi o l _ (fun y hy => h y (List.mem_cons_of_mem _ hy))]
    simp
/-- The reference's put, in plain words. -/
theorem put_is {l : List Obj} (hf : fitB l = true) (nm : List UInt8) (o : Obj) (b : Bool) :
    putL l nm o b = if b then (if foundB l nm (placeN l nm) then l.set (placeN l nm) o else l.take (placeN l nm) ++ o :: l.drop (placeN l nm))
      else if foundB l nm (placeN l nm) then l.take (placeN l nm) ++ l.drop (placeN l nm + 1) else l := by
  have hp := place_fit hf nm
  generalize hk : placeN l nm = k at *
  have hle := hp.le
  have hlo : ∀ x ∈ l.take k, lessT x.name nm = true := fun a ha => by
    obtain ⟨i, hi, rfl⟩ := List.getElem_of_mem ha
    rw [List.length_take] at hi
    have := hp.lo i (by omega)
    rw [getD_get l i (by omega)] at this
    rw [List.getElem_take]; exact this
  have hsplit : putTo l nm o b = (l.drop k).foldl (putS nm o) (l.take k, !b) := by
    unfold putTo
    conv => lhs; rw [← List.take_append_drop k l, List.foldl_append, fold_lo o _ _ hlo]
    simp
  by_cases hkl : k < l.length
  · have hd : l.drop k = l[k] :: l.drop (k + 1) := List.drop_eq_getElem_cons hkl
    have hnl : lessT l[k].name nm = false := by have := hp.hi k (Nat.le_refl _) hkl; rwa [getD_get l k hkl] at this
    have hrest : ∀ x ∈ l.drop (k + 1), x.name ≠ nm := fun a ha => by
      obtain ⟨i, hi, rfl⟩ := List.getElem_of_mem ha
      rw [List.length_drop] at hi
      have h1 := fit_less hf (k + 1 + i) k (by omega) (by omega)
      rw [getD_get l k hkl, getD_get l (k + 1 + i) (by omega)] at h1
      rw [List.getElem_drop]
      intro e
      rw [e, hnl] at h1; cases h1
    have hfound : foundB l nm k = decide (l[k].name = nm) := by
      unfold foundB
      rw [decide_eq_true hkl, getD_get l k hkl, Bool.true_and]
    rw [hfound]
    have hset : l.set k o = l.take k ++ o :: l.drop (k + 1) := by rw [List.set_eq_take_append_cons_drop, if_pos hkl]
    rw [hset]
    cases b with
    | true =>
      rw [if_pos rfl]
      have e1 : putS nm o (l.take k, !true) l[k] = if l[k].name = nm then (l.take k ++ [o], true) else (l.take k ++ [o] ++ [l[k]], true) := putS_in o rfl hnl
      by_cases hn : l[k].name = nm
      · rw [if_pos hn] at e1
        have e2 : putTo l nm o true = (l.take k ++ [o] ++ l.drop (k + 1), true) := by rw [hsplit, hd, List.foldl_cons, e1, fold_hi o _ _ hrest]
        unfold putL
        rw [e2, if_pos rfl, decide_eq_true hn, if_pos rfl]
        simp
      · rw [if_neg hn] at e1
        have e2 : putTo l nm o true = (l.take k ++ [o] ++ [l[k]] ++ l.drop (k + 1), true) := by rw [hsplit, hd, List.foldl_cons, e1, fold_hi o _ _ hrest]
        unfold putL
        rw [e2, if_pos rfl, decide_eq_false hn, if_neg (by decide), hd]
        simp
    | false =>
      rw [if_neg (by decide)]
      have e1 : putS nm o (l.take k, !false) l[k] = if l[k].name = nm then (l.take k, true) else (l.take k ++ [l[k]], true) := putS_by o (fun c => by cases c.1)
      by_cases hn : l[k].name = nm
      · rw [if_pos hn] at e1
        have e2 : putTo l nm o false = (l.take k ++ l.drop (k + 1), true) := by rw [hsplit, hd, List.foldl_cons, e1, fold_hi o _ _ hrest]
        unfold putL
        rw [e2, if_pos rfl, decide_eq_true hn, if_pos rfl]
      · rw [if_neg hn] at e1
        have e2 : putTo l nm o false = (l.take k ++ [l[k]] ++ l.drop (k + 1), true) := by rw [hsplit, hd, List.foldl_cons, e1, fold_hi o _ _ hrest]
        unfold putL
        rw [e2, if_pos rfl, decide_eq_false hn, if_neg (by decide)]
        have : l.take k ++ [l[k]] ++ l.drop (k + 1) = l.take k ++ l.drop k := by rw [hd]; simp
        rw [this, List.take_append_drop]
  · have hkl' : k = l.length := by omega
    have hd : l.drop k = [] := by rw [hkl']; exact List.drop_length ..
    have ht : l.take k = l := by rw [hkl']; exact List.take_length ..
    have hfound : foundB l nm k = false := by unfold foundB; rw [decide_eq_false hkl, Bool.false_and]
    rw [hfound]
    rw [hd, ht] at hsplit
    unfold putL
    rw [hsplit, ht, hd]
    cases b <;> simp
end Go.Proofs.Ytanfgfclpjmngaa


/- Package 19: the law ObjectLocks. -/
set_option maxRecDepth 100000
set_option maxHeartbeats 1000000
set_option linter.unusedSimpArgs false
set_option linter.unusedVariables false
namespace Go.Proofs.Ytanfgfclpjmngaa
open Go.Abs
attribute [local irreducible] C X CC Y CV CW binK litK AppK PureC PureCV againK loopV rangeV allK ifK got onB condK V stepsK planK opK firstK seeE keepsK

theorem F.nilArg {P : Program} {f : FuncId} {x : Bool} {rest : List AV} {R : AV} (h : F P f (.vs [] x :: rest) R) : F P f (.val (.slice none 0 0) :: rest) R :=
  ⟨h.1, fun κ w cargs hs hr => h.2 κ w cargs hs ⟨hr.1, fun i a b => by
    have hi := hr.2 i a b
    cases i with
    | zero =>
      obtain ⟨e, _⟩ := hi.val_inv
      show Rel κ (.vs [] x) _
      rw [e]
      exact .vnil
    | succ i => exact hi⟩⟩
def intC (k : Int) : List AV := [.val (.int .i64 k)]
theorem ix_32 (l : List Ban) (x : Bool) (kk : IntKind) (k : Int) (h0 : 0 ≤ k) (h1 : k < l.length) : indexAddrA Try.prog 32 (.vs (l.map Ban.cells) x) (.val (.int kk k)) = some (.vp (l.getD k.toNat default).cells 0) := index_vs Ban.cells ti_32 rfl ti_35 (fun _ => rfl) l x kk k h0 h1
theorem ix_33 (l : List Int) (x : Bool) (kk : IntKind) (k : Int) (h0 : 0 ≤ k) (h1 : k < l.length) : indexAddrA Try.prog 33 (.vs (l.map intC) x) (.val (.int kk k)) = some (.vp (intC (l.getD k.toNat default)) 0) := index_vs intC ti_33 rfl ti_3 (fun _ => rfl) l x kk k h0 h1
theorem intC_0 (k : Int) : (intC k)[0]? = some (.val (.int .i64 k)) := rfl
theorem ban_set (x : Ban) (c i : Int) : setRange x.cells 0 [.val (.int .i64 c), .val (.int .i64 i)] = Ban.cells ⟨c, i⟩ := rfl
theorem hold_cells (o : Obj) : (holdO o).cells = [.val (.int .i64 o.client), .val (.int .i64 o.inst)] := rfl
theorem F4 (nm : List UInt8) (l : List Ban) (ks : List Int) (hks : ∀ k ∈ ks, -9223372036854775808 ≤ k ∧ k ≤ 9223372036854775807) (hnm : nm.length ≤ 140737488351232) (hll : l.length ≤ 140737488355328) (hkl : ks.length ≤ 140737488355328) :
    F Try.prog 4 [.val (.string ⟨nm.toArray⟩), .vs (l.map Ban.cells) false, .vs (ks.map intC) false] (.val (.bool true)) := by
  refine F4_of ?_
  unfold k4
  repeat' first
    | simp -dsimp (disch := omega) only [↓rulesA, rulesB, rulesC, Int.reduceLT, nth, upd, put, storeN, AV.one, Nat.reduceBEq, Nat.reduceBNe, Int.reduceBEq, Int.reduceBNe, Int.reduceLE, Int.reduceEq, Int.reduceMod, Int.reduceNeg, boolBin, strBin, intBin, unA, fillA, ne_eq, reduceCtorEq, Nat.reduceAdd, Nat.reduceSub, Nat.reduceLeDiff, Nat.reduceLT, Nat.reduceEqDiff, Int.reduceToNat, eq_self, rulesT, bne_self_eq_false, mm_min, mm_max, buOf_some, nilCheck_vp, nilCheck_ptr, nilCheck_yld, nilCheck_func, *]
    | (refine allK_intro fun n hn => ?_; try simp only [fresh_set] at hn)
    | (refine ifK_intro (fun h => ?_) (fun h => ?_) <;> (try simp only [decide_eq_true_eq, decide_eq_false_iff_not, Bool.not_eq_true', Bool.not_eq_false'] at h) <;> try (exfalso; (try simp only [beq_iff_eq, beq_eq_false_iff_ne, bne_iff_ne, bne_eq_false_iff_eq, ne_eq] at h); omega))
    | (refine keeps_sub (Mem.sub_set ?_) ?_; focus (simp [Mem.set_at, nomem, *]; done))
  have f18 := F18
  refine loop_intro (fun j env m => ∃ (i : Nat) (o : Obj) (b : Bool) (H : Ban) (N : Nat) (v : AV), i ≤ l.length ∧ j = l.length - i ∧ m = nomem.set N (.cells false 35 H.cells) ∧ Kept (H = holdO o) ∧ Kept (nameOk nm = true → One nm o b) ∧ Kept ((v = .val (.slice none 0 0) ∧ b = false) ∨ v = .vs ((rowB o b).map Obj.cells) false) ∧ env.length = 137 ∧ nth env 0 = .val (.string ⟨nm.toArray⟩) ∧ nth env 1 = .vs (l.map Ban.cells) false ∧ nth env 2 = .vs (ks.map intC) false ∧ nth env 7 = v ∧ nth env 8 = .ptr N 0 ∧ nth env 9 = .val (.bool o.locked) ∧ nth env 17 = .vs (l.map Ban.cells) false ∧ nth env 18 = .val (.int .i64 l.length) ∧ nth env 19 = .val (.int .i64 i)) l.length _ (Mem.sub.refl _) ⟨0, noObj, false, ⟨0, 0⟩, n, .val (.slice none 0 0), by omega, rfl, rfl, rfl, fun _ => ⟨fun e => (by cases e), fun _ => rfl⟩, .inl ⟨rfl, rfl⟩, rfl, rfl, rfl, rfl, rfl, rfl, rfl, rfl, rfl, rfl⟩ ?_
  rintro j env m ⟨i, o, b, H, N, v, hi, rfl, rfl, hH, hone, hv, hlen, e0, e1, e2, e7, e8, e9, e17, e18, e19⟩
  clear hn
  by_cases hil : i < l.length
  · by_cases hgo : i < ks.length ∧ whoB (l.getD i default) = true ∧ nameOk nm = true
    · obtain ⟨hik, hwho, hname⟩ := hgo
      have hO := (hone : _ → _) hname
      have hbusy := lk_of hO hname hwho (ks.getD i default)
      have hop : (lkOp (ks.getD i default) nm (holdO o)).ok := by
        have hkk := hks (ks.getD i default) (by rw [List.getD_eq_getElem?_getD, List.getElem?_eq_getElem hik]; exact List.getElem_mem hik)
        have hh : (0 ≤ (holdO o).client ∧ (holdO o).client < 4) ∧ 0 ≤ (holdO o).inst ∧ (holdO o).inst ≤ 1073741824 := by
          obtain ⟨u1, u2⟩ := one_hold hO
          cases hl : o.locked with
          | true => have := (u1 hl).2; unfold whoB at this; simp at this; omega
          | false => rw [u2 hl]; decide
        unfold lkOp
        split
        · exact ⟨(by decide : (-9223372036854775808 : Int) ≤ 9 ∧ (9 : Int) ≤ 9223372036854775807), hnm, (show -9223372036854775808 ≤ max (holdO o).inst 1 ∧ max (holdO o).inst 1 ≤ 9223372036854775807 by omega), (show -9223372036854775808 ≤ (holdO o).client ∧ (holdO o).client ≤ 9223372036854775807 by omega), (by decide : 0 ≤ 140737488351232)⟩
        · exact ⟨hkk, hnm, (by decide : (-9223372036854775808 : Int) ≤ 0 ∧ (0 : Int) ≤ 9223372036854775807), (by decide : (-9223372036854775808 : Int) ≤ 0 ∧ (0 : Int) ≤ 9223372036854775807), (by decide : 0 ≤ 140737488351232)⟩
      obtain ⟨g1, g2, g3⟩ := one_in hO hname (who := l.getD i default) (op := lkOp (ks.getD i default) nm (holdO o)) (by unfold lkOp; split <;> rfl)
      have f20 : F Try.prog 20 [v, .agg (l.getD i default).cells, .agg (lkOp (ks.getD i default) nm (holdO o)).cells] (.tup [.vs ((rowB (outO (doS o b (l.getD i default) (lkOp (ks.getD i default) nm (holdO o)))) (doS o b (l.getD i default) (lkOp (ks.getD i default) nm (holdO o))).there).map Obj.cells) false, .agg (doR o b (l.getD i default) (lkOp (ks.getD i default) nm (holdO o))).cells]) := by
        have h20 := F20 (rowB o b) false (l.getD i default) (lkOp (ks.getD i default) nm (holdO o)) hop (one_fit hO)
        rw [g1, g2] at h20
        rcases (hv : _ ∨ _) with ⟨hv1, hv2⟩ | hv1
        · rw [hv1]
          rw [hv2] at h20 ⊢
          exact F.nilArg h20
        · rw [hv1]; exact h20
      obtain ⟨q1, q2, q3⟩ := one_find g3
      have f21 := F21 (rowB (outO (doS o b (l.getD i default) (lkOp (ks.getD i default) nm (holdO o)))) (doS o b (l.getD i default) (lkOp (ks.getD i default) nm (holdO o))).there) false nm (one_fit g3)
      rw [q1, q2] at f21
      have hHc : Kept (H.client = o.client ∧ H.inst = o.inst) := by show _ ∧ _; rw [(hH : H = holdO o)]; exact ⟨rfl, rfl⟩
      rw [show holdO o = H from (hH : H = holdO o).symm] at *
      clear hH
      clear q1 q2 q3 g1 g2 hone hop hO hv
      replace g3 : Kept _ := g3
      have f19 := F19 (l.getD i default)
      rw [hwho] at f19
      have f8 := F8 nm
      rw [hname] at f8
      clear hname hwho
      generalize hw : l.getD i default = who at *
      generalize hkk : ks.getD i default = k at *
      generalize hop : lkOp k nm H = op at *
      generalize outO (doS o b who op) = o' at *
      generalize (doS o b who op).there = b' at *
      generalize doR o b who op = r at *
      have hbusy' : Kept (Lk k o H who r o') := hbusy
      clear hbusy
      by_cases k9 : k = 9
      · subst k9
        obtain ⟨x1, z1, z2⟩ := (hbusy' : Lk _ _ _ _ _ _).broke rfl
        have z2' : (⟨o'.client, o'.inst⟩ : Ban) = ⟨0, 0⟩ := z2
        replace z2 : Kept _ := z2
        have f20' : F Try.prog 20 [v, .agg who.cells, .agg [.val (.int .i64 9), .val (.string (.mk (List.toArray nm))), .val (.int .i64 (if H.inst < 1 then 1 else H.inst)), .val (.int .i64 H.client), .val (.string ⟨#[]⟩)]] (.tup [.vs (List.map Obj.cells (rowB o' b')) false, .agg r.cells]) := by
          have := f20
          have em : max H.inst 1 = if H.inst < 1 then 1 else H.inst := by split <;> omega
          rw [← hop, lkOp, if_pos rfl, em] at this
          exact this
        clear f20 hop hbusy' hHc
        cases hlk : o.locked with
        | true =>
          rw [hlk] at e9 x1
          have he : r.err = 0 := x1.2 rfl
          clear x1
          repeat' first
            | simp -dsimp (disch := omega) only [↓rulesA, rulesB, rulesC, Int.reduceLT, nth, upd, put, storeN, AV.one, Nat.reduceBEq, Nat.reduceBNe, Int.reduceBEq, Int.reduceBNe, Int.reduceLE, Int.reduceEq, Int.reduceMod, Int.reduceNeg, boolBin, strBin, intBin, unA, fillA, ne_eq, reduceCtorEq, Nat.reduceAdd, Nat.reduceSub, Nat.reduceLeDiff, Nat.reduceLT, Nat.reduceEqDiff, Int.reduceToNat, eq_self, rulesT, bne_self_eq_false, mm_min, mm_max, buOf_some, nilCheck_vp, nilCheck_ptr, nilCheck_yld, nilCheck_func, ix_32, ix_33, ne_35, eq_35, Ban.all, Ban.len, Ban.take, Ban.drop, Ban.sall, Ban.g0, Ban.g1, Res.all, Res.len, Res.take, Res.sall, Res.g0, Res.g1, Res.g2, Obj.all, Obj.len, Obj.take, Obj.drop, Obj.sall, Obj.g2, obj_hold, neb, nebb, ban_set, text_size, intC_0, *]
            | (refine allK_intro fun n hn => ?_; try simp only [fresh_set] at hn)
            | (refine ifK_intro (fun h => ?_) (fun h => ?_) <;> (try simp only [decide_eq_true_eq, decide_eq_false_iff_not, Bool.not_eq_true', Bool.not_eq_false'] at h) <;> try (exfalso; (try simp only [beq_iff_eq, beq_eq_false_iff_ne, bne_iff_ne, bne_eq_false_iff_eq, ne_eq] at h); omega))
            | (refine keeps_sub (Mem.sub_set ?_) ?_; focus (simp [Mem.set_at, nomem, *]; done))
            | (refine keeps_stab ?_ ?_; focus ((repeat' first | exact stabK_nil _ _ | refine stabK_cons ?_ ?_ | (simp (disch := omega) only [quietA, Option.isSome_some, ↓rulesA, rulesB, rulesC, Int.reduceLT, nth, upd, put, storeN, AV.one, Nat.reduceBEq, Nat.reduceBNe, Int.reduceBEq, Int.reduceBNe, Int.reduceLE, Int.reduceEq, Int.reduceMod, Int.reduceNeg, boolBin, strBin, intBin, unA, fillA, ne_eq, reduceCtorEq, Nat.reduceAdd, Nat.reduceSub, Nat.reduceLeDiff, Nat.reduceLT, Nat.reduceEqDiff, Int.reduceToNat, eq_self, rulesT, bne_self_eq_false, mm_min, mm_max, buOf_some, nilCheck_vp, nilCheck_ptr, nilCheck_yld, nilCheck_func, ix_32, ix_33, ne_35, eq_35, Ban.all, Ban.len, Ban.take, Ban.drop, Ban.sall, Ban.g0, Ban.g1, Res.all, Res.len, Res.take, Res.sall, Res.g0, Res.g1, Res.g2, Obj.all, Obj.len, Obj.take, Obj.drop, Obj.sall, Obj.g2, obj_hold, neb, nebb, ban_set, text_size, intC_0, *]; done)); done))
            | (refine call_F (f19) (Seens.refl _ _) ?_)
            | (refine pure_F (f19) (Seens.refl _ _) ?_)
            | (refine call_F (f8) (Seens.refl _ _) ?_)
            | (refine pure_F (f8) (Seens.refl _ _) ?_)
            | (refine call_F (f20') (Seens.refl _ _) ?_)
            | (refine pure_F (f20') (Seens.refl _ _) ?_)
            | (refine call_F (f21) (Seens.refl _ _) ?_)
            | (refine pure_F (f21) (Seens.refl _ _) ?_)
          clear f8 f19 f20' f21 f18
          refine again_intro (l.length - (i + 1)) (by omega) (nomem.set N (.cells false 35 (Ban.cells ⟨0, 0⟩))) (nomem_set_sub (by simp [Mem.set_at, Ban.cells, *])) ⟨i + 1, o', b', ⟨0, 0⟩, N, .vs ((rowB o' b').map Obj.cells) false, by omega, rfl, rfl, (show Kept ((⟨0, 0⟩ : Ban) = holdO o') from (z2 : _ = _).symm), fun _ => g3, .inr rfl, ?_, ?_, ?_, ?_, ?_, ?_, ?_, ?_, ?_, ?_⟩
          all_goals try (simp (disch := omega) only [nth_upd, pickB_true, pickB_false, inB_lt, upd_len, cast_succ, Int.cast_ofNat_Int, Nat.reduceBEq, beq_self_eq_true, reduceCtorEq, *]; done)
        | false =>
          rw [hlk] at e9 x1
          have he : ¬ r.err = 0 := fun e => by have := x1.1 e; cases this
          clear x1
          repeat' first
            | simp -dsimp (disch := omega) only [↓rulesA, rulesB, rulesC, Int.reduceLT, nth, upd, put, storeN, AV.one, Nat.reduceBEq, Nat.reduceBNe, Int.reduceBEq, Int.reduceBNe, Int.reduceLE, Int.reduceEq, Int.reduceMod, Int.reduceNeg, boolBin, strBin, intBin, unA, fillA, ne_eq, reduceCtorEq, Nat.reduceAdd, Nat.reduceSub, Nat.reduceLeDiff, Nat.reduceLT, Nat.reduceEqDiff, Int.reduceToNat, eq_self, rulesT, bne_self_eq_false, mm_min, mm_max, buOf_some, nilCheck_vp, nilCheck_ptr, nilCheck_yld, nilCheck_func, ix_32, ix_33, ne_35, eq_35, Ban.all, Ban.len, Ban.take, Ban.drop, Ban.sall, Ban.g0, Ban.g1, Res.all, Res.len, Res.take, Res.sall, Res.g0, Res.g1, Res.g2, Obj.all, Obj.len, Obj.take, Obj.drop, Obj.sall, Obj.g2, obj_hold, neb, nebb, ban_set, text_size, intC_0, *]
            | (refine allK_intro fun n hn => ?_; try simp only [fresh_set] at hn)
            | (refine ifK_intro (fun h => ?_) (fun h => ?_) <;> (try simp only [decide_eq_true_eq, decide_eq_false_iff_not, Bool.not_eq_true', Bool.not_eq_false'] at h) <;> try (exfalso; (try simp only [beq_iff_eq, beq_eq_false_iff_ne, bne_iff_ne, bne_eq_false_iff_eq, ne_eq] at h); omega))
            | (refine keeps_sub (Mem.sub_set ?_) ?_; focus (simp [Mem.set_at, nomem, *]; done))
            | (refine keeps_stab ?_ ?_; focus ((repeat' first | exact stabK_nil _ _ | refine stabK_cons ?_ ?_ | (simp (disch := omega) only [quietA, Option.isSome_some, ↓rulesA, rulesB, rulesC, Int.reduceLT, nth, upd, put, storeN, AV.one, Nat.reduceBEq, Nat.reduceBNe, Int.reduceBEq, Int.reduceBNe, Int.reduceLE, Int.reduceEq, Int.reduceMod, Int.reduceNeg, boolBin, strBin, intBin, unA, fillA, ne_eq, reduceCtorEq, Nat.reduceAdd, Nat.reduceSub, Nat.reduceLeDiff, Nat.reduceLT, Nat.reduceEqDiff, Int.reduceToNat, eq_self, rulesT, bne_self_eq_false, mm_min, mm_max, buOf_some, nilCheck_vp, nilCheck_ptr, nilCheck_yld, nilCheck_func, ix_32, ix_33, ne_35, eq_35, Ban.all, Ban.len, Ban.take, Ban.drop, Ban.sall, Ban.g0, Ban.g1, Res.all, Res.len, Res.take, Res.sall, Res.g0, Res.g1, Res.g2, Obj.all, Obj.len, Obj.take, Obj.drop, Obj.sall, Obj.g2, obj_hold, neb, nebb, ban_set, text_size, intC_0, *]; done)); done))
            | (refine call_F (f19) (Seens.refl _ _) ?_)
            | (refine pure_F (f19) (Seens.refl _ _) ?_)
            | (refine call_F (f8) (Seens.refl _ _) ?_)
            | (refine pure_F (f8) (Seens.refl _ _) ?_)
            | (refine call_F (f20') (Seens.refl _ _) ?_)
            | (refine pure_F (f20') (Seens.refl _ _) ?_)
            | (refine call_F (f21) (Seens.refl _ _) ?_)
            | (refine pure_F (f21) (Seens.refl _ _) ?_)
          clear f8 f19 f20' f21 f18
          refine again_intro (l.length - (i + 1)) (by omega) (nomem.set N (.cells false 35 (Ban.cells ⟨0, 0⟩))) (nomem_set_sub (by simp [Mem.set_at, Ban.cells, *])) ⟨i + 1, o', b', ⟨0, 0⟩, N, .vs ((rowB o' b').map Obj.cells) false, by omega, rfl, rfl, (show Kept ((⟨0, 0⟩ : Ban) = holdO o') from (z2 : _ = _).symm), fun _ => g3, .inr rfl, ?_, ?_, ?_, ?_, ?_, ?_, ?_, ?_, ?_, ?_⟩
          all_goals try (simp (disch := omega) only [nth_upd, pickB_true, pickB_false, inB_lt, upd_len, cast_succ, Int.cast_ofNat_Int, Nat.reduceBEq, beq_self_eq_true, reduceCtorEq, *]; done)
      · have f20' : F Try.prog 20 [v, .agg who.cells, .agg [.val (.int .i64 k), .val (.string (.mk (List.toArray nm))), .val (.int .i64 0), .val (.int .i64 0), .val (.string ⟨#[]⟩)]] (.tup [.vs (List.map Obj.cells (rowB o' b')) false, .agg r.cells]) := by
          have := f20
          rw [← hop, lkOp, if_neg k9] at this
          exact this
        clear f20 hop
        by_cases k7 : k = 7
        · subst k7
          by_cases hb : o.locked = true ∧ who ≠ H
          · obtain ⟨hb1, hb2⟩ := hb
            obtain ⟨rfl, rfl⟩ := (hbusy' : Lk _ _ _ _ _ _).busy rfl hb1 hb2
            obtain ⟨hc1, hc2⟩ := (hHc : _ ∧ _)
            have hHo : H = holdO o' := by cases H; simp at hc1 hc2; rw [hc1, hc2]; rfl
            replace hHo : Kept _ := hHo
            clear hbusy'
            repeat' first
              | simp -dsimp (disch := omega) only [↓rulesA, rulesB, rulesC, Int.reduceLT, nth, upd, put, storeN, AV.one, Nat.reduceBEq, Nat.reduceBNe, Int.reduceBEq, Int.reduceBNe, Int.reduceLE, Int.reduceEq, Int.reduceMod, Int.reduceNeg, boolBin, strBin, intBin, unA, fillA, ne_eq, reduceCtorEq, Nat.reduceAdd, Nat.reduceSub, Nat.reduceLeDiff, Nat.reduceLT, Nat.reduceEqDiff, Int.reduceToNat, eq_self, rulesT, bne_self_eq_false, mm_min, mm_max, buOf_some, nilCheck_vp, nilCheck_ptr, nilCheck_yld, nilCheck_func, ix_32, ix_33, ne_35, eq_35, Ban.all, Ban.len, Ban.take, Ban.drop, Ban.sall, Ban.g0, Ban.g1, Res.all, Res.len, Res.take, Res.sall, Res.g0, Res.g1, Res.g2, Obj.all, Obj.len, Obj.take, Obj.drop, Obj.sall, Obj.g2, obj_hold, neb, nebb, ban_set, text_size, intC_0, *]
              | (refine allK_intro fun n hn => ?_; try simp only [fresh_set] at hn)
              | (refine ifK_intro (fun h => ?_) (fun h => ?_) <;> (try simp only [decide_eq_true_eq, decide_eq_false_iff_not, Bool.not_eq_true', Bool.not_eq_false'] at h) <;> try (exfalso; (try simp only [beq_iff_eq, beq_eq_false_iff_ne, bne_iff_ne, bne_eq_false_iff_eq, ne_eq] at h); omega))
              | (refine keeps_sub (Mem.sub_set ?_) ?_; focus (simp [Mem.set_at, nomem, *]; done))
              | (refine call_F (f19) (Seens.refl _ _) ?_)
              | (refine pure_F (f19) (Seens.refl _ _) ?_)
              | (refine call_F (f8) (Seens.refl _ _) ?_)
              | (refine pure_F (f8) (Seens.refl _ _) ?_)
              | (refine call_F (f20') (Seens.refl _ _) ?_)
              | (refine pure_F (f20') (Seens.refl _ _) ?_)
              | (refine call_F (f21) (Seens.refl _ _) ?_)
              | (refine pure_F (f21) (Seens.refl _ _) ?_)
            clear f8 f19 f20' f21 f18
            refine again_intro (l.length - (i + 1)) (by omega) (nomem.set N (.cells false 35 (Ban.cells H))) (nomem_set_sub (by simp [Mem.set_at, Ban.cells, *])) ⟨i + 1, o', b', H, N, .vs ((rowB o' b').map Obj.cells) false, by omega, rfl, rfl, hHo, fun _ => g3, .inr rfl, ?_, ?_, ?_, ?_, ?_, ?_, ?_, ?_, ?_, ?_⟩
            all_goals try (simp (disch := omega) only [nth_upd, pickB_true, pickB_false, inB_lt, upd_len, cast_succ, Int.cast_ofNat_Int, Nat.reduceBEq, beq_self_eq_true, reduceCtorEq, *]; done)
          · obtain ⟨x1, x2, x3⟩ := (hbusy' : Lk _ _ _ _ _ _).lock rfl hb
            have x3' : (⟨o'.client, o'.inst⟩ : Ban) = who := x3
            replace x3 : Kept _ := x3
            have hb' : o.locked = true → who = H := fun e => Classical.byContradiction fun q => hb ⟨e, q⟩
            clear hbusy' hHc hb
            cases hlk : o.locked with
            | true =>
              have hb2 := hb' hlk
              rw [hlk] at e9
              clear hb'
              subst hb2
              repeat' first
                | simp -dsimp (disch := omega) only [↓rulesA, rulesB, rulesC, Int.reduceLT, nth, upd, put, storeN, AV.one, Nat.reduceBEq, Nat.reduceBNe, Int.reduceBEq, Int.reduceBNe, Int.reduceLE, Int.reduceEq, Int.reduceMod, Int.reduceNeg, boolBin, strBin, intBin, unA, fillA, ne_eq, reduceCtorEq, Nat.reduceAdd, Nat.reduceSub, Nat.reduceLeDiff, Nat.reduceLT, Nat.reduceEqDiff, Int.reduceToNat, eq_self, rulesT, bne_self_eq_false, mm_min, mm_max, buOf_some, nilCheck_vp, nilCheck_ptr, nilCheck_yld, nilCheck_func, ix_32, ix_33, ne_35, eq_35, Ban.all, Ban.len, Ban.take, Ban.drop, Ban.sall, Ban.g0, Ban.g1, Res.all, Res.len, Res.take, Res.sall, Res.g0, Res.g1, Res.g2, Obj.all, Obj.len, Obj.take, Obj.drop, Obj.sall, Obj.g2, obj_hold, neb, nebb, ban_set, text_size, intC_0, *]
                | (refine allK_intro fun n hn => ?_; try simp only [fresh_set] at hn)
                | (refine ifK_intro (fun h => ?_) (fun h => ?_) <;> (try simp only [decide_eq_true_eq, decide_eq_false_iff_not, Bool.not_eq_true', Bool.not_eq_false'] at h) <;> try (exfalso; (try simp only [beq_iff_eq, beq_eq_false_iff_ne, bne_iff_ne, bne_eq_false_iff_eq, ne_eq] at h); omega))
                | (refine keeps_sub (Mem.sub_set ?_) ?_; focus (simp [Mem.set_at, nomem, *]; done))
                | (refine call_F (f19) (Seens.refl _ _) ?_)
                | (refine pure_F (f19) (Seens.refl _ _) ?_)
                | (refine call_F (f8) (Seens.refl _ _) ?_)
                | (refine pure_F (f8) (Seens.refl _ _) ?_)
                | (refine call_F (f20') (Seens.refl _ _) ?_)
                | (refine pure_F (f20') (Seens.refl _ _) ?_)
                | (refine call_F (f21) (Seens.refl _ _) ?_)
                | (refine pure_F (f21) (Seens.refl _ _) ?_)
              clear f8 f19 f20' f21 f18
              refine again_intro (l.length - (i + 1)) (by omega) (nomem.set N (.cells false 35 (Ban.cells who))) (nomem_set_sub (by simp [Mem.set_at, Ban.cells, *])) ⟨i + 1, o', b', who, N, .vs ((rowB o' b').map Obj.cells) false, by omega, rfl, rfl, (show Kept (who = holdO o') from (x3 : _ = _).symm), fun _ => g3, .inr rfl, ?_, ?_, ?_, ?_, ?_, ?_, ?_, ?_, ?_, ?_⟩
              all_goals try (simp (disch := omega) only [nth_upd, pickB_true, pickB_false, inB_lt, upd_len, cast_succ, Int.cast_ofNat_Int, Nat.reduceBEq, beq_self_eq_true, reduceCtorEq, *]; done)
            | false =>
              rw [hlk] at e9
              clear hb'
              repeat' first
                | simp -dsimp (disch := omega) only [↓rulesA, rulesB, rulesC, Int.reduceLT, nth, upd, put, storeN, AV.one, Nat.reduceBEq, Nat.reduceBNe, Int.reduceBEq, Int.reduceBNe, Int.reduceLE, Int.reduceEq, Int.reduceMod, Int.reduceNeg, boolBin, strBin, intBin, unA, fillA, ne_eq, reduceCtorEq, Nat.reduceAdd, Nat.reduceSub, Nat.reduceLeDiff, Nat.reduceLT, Nat.reduceEqDiff, Int.reduceToNat, eq_self, rulesT, bne_self_eq_false, mm_min, mm_max, buOf_some, nilCheck_vp, nilCheck_ptr, nilCheck_yld, nilCheck_func, ix_32, ix_33, ne_35, eq_35, Ban.all, Ban.len, Ban.take, Ban.drop, Ban.sall, Ban.g0, Ban.g1, Res.all, Res.len, Res.take, Res.sall, Res.g0, Res.g1, Res.g2, Obj.all, Obj.len, Obj.take, Obj.drop, Obj.sall, Obj.g2, obj_hold, neb, nebb, ban_set, text_size, intC_0, *]
                | (refine allK_intro fun n hn => ?_; try simp only [fresh_set] at hn)
                | (refine ifK_intro (fun h => ?_) (fun h => ?_) <;> (try simp only [decide_eq_true_eq, decide_eq_false_iff_not, Bool.not_eq_true', Bool.not_eq_false'] at h) <;> try (exfalso; (try simp only [beq_iff_eq, beq_eq_false_iff_ne, bne_iff_ne, bne_eq_false_iff_eq, ne_eq] at h); omega))
                | (refine keeps_sub (Mem.sub_set ?_) ?_; focus (simp [Mem.set_at, nomem, *]; done))
                | (refine call_F (f19) (Seens.refl _ _) ?_)
                | (refine pure_F (f19) (Seens.refl _ _) ?_)
                | (refine call_F (f8) (Seens.refl _ _) ?_)
                | (refine pure_F (f8) (Seens.refl _ _) ?_)
                | (refine call_F (f20') (Seens.refl _ _) ?_)
                | (refine pure_F (f20') (Seens.refl _ _) ?_)
                | (refine call_F (f21) (Seens.refl _ _) ?_)
                | (refine pure_F (f21) (Seens.refl _ _) ?_)
              clear f8 f19 f20' f21 f18
              refine again_intro (l.length - (i + 1)) (by omega) (nomem.set N (.cells false 35 (Ban.cells who))) (nomem_set_sub (by simp [Mem.set_at, Ban.cells, *])) ⟨i + 1, o', b', who, N, .vs ((rowB o' b').map Obj.cells) false, by omega, rfl, rfl, (show Kept (who = holdO o') from (x3 : _ = _).symm), fun _ => g3, .inr rfl, ?_, ?_, ?_, ?_, ?_, ?_, ?_, ?_, ?_, ?_⟩
              all_goals try (simp (disch := omega) only [nth_upd, pickB_true, pickB_false, inB_lt, upd_len, cast_succ, Int.cast_ofNat_Int, Nat.reduceBEq, beq_self_eq_true, reduceCtorEq, *]; done)
        · by_cases k8 : k = 8
          · subst k8
            obtain ⟨x1, x2, x3⟩ := (hbusy' : Lk _ _ _ _ _ _).unlock rfl
            clear hbusy' hHc
            by_cases he : r.err = 0
            · obtain ⟨y1, y2⟩ := x1.1 he
              obtain ⟨z1, z2⟩ := x2 he
              have z2' : (⟨o'.client, o'.inst⟩ : Ban) = ⟨0, 0⟩ := z2
              replace z2 : Kept _ := z2
              clear x1 x2 x3
              rw [y1] at e9
              subst y2
              repeat' first
                | simp -dsimp (disch := omega) only [↓rulesA, rulesB, rulesC, Int.reduceLT, nth, upd, put, storeN, AV.one, Nat.reduceBEq, Nat.reduceBNe, Int.reduceBEq, Int.reduceBNe, Int.reduceLE, Int.reduceEq, Int.reduceMod, Int.reduceNeg, boolBin, strBin, intBin, unA, fillA, ne_eq, reduceCtorEq, Nat.reduceAdd, Nat.reduceSub, Nat.reduceLeDiff, Nat.reduceLT, Nat.reduceEqDiff, Int.reduceToNat, eq_self, rulesT, bne_self_eq_false, mm_min, mm_max, buOf_some, nilCheck_vp, nilCheck_ptr, nilCheck_yld, nilCheck_func, ix_32, ix_33, ne_35, eq_35, Ban.all, Ban.len, Ban.take, Ban.drop, Ban.sall, Ban.g0, Ban.g1, Res.all, Res.len, Res.take, Res.sall, Res.g0, Res.g1, Res.g2, Obj.all, Obj.len, Obj.take, Obj.drop, Obj.sall, Obj.g2, obj_hold, neb, nebb, ban_set, text_size, intC_0, *]
                | (refine allK_intro fun n hn => ?_; try simp only [fresh_set] at hn)
                | (refine ifK_intro (fun h => ?_) (fun h => ?_) <;> (try simp only [decide_eq_true_eq, decide_eq_false_iff_not, Bool.not_eq_true', Bool.not_eq_false'] at h) <;> try (exfalso; (try simp only [beq_iff_eq, beq_eq_false_iff_ne, bne_iff_ne, bne_eq_false_iff_eq, ne_eq] at h); omega))
                | (refine keeps_sub (Mem.sub_set ?_) ?_; focus (simp [Mem.set_at, nomem, *]; done))
                | (refine call_F (f19) (Seens.refl _ _) ?_)
                | (refine pure_F (f19) (Seens.refl _ _) ?_)
                | (refine call_F (f8) (Seens.refl _ _) ?_)
                | (refine pure_F (f8) (Seens.refl _ _) ?_)
                | (refine call_F (f20') (Seens.refl _ _) ?_)
                | (refine pure_F (f20') (Seens.refl _ _) ?_)
                | (refine call_F (f21) (Seens.refl _ _) ?_)
                | (refine pure_F (f21) (Seens.refl _ _) ?_)
              clear f8 f19 f20' f21 f18
              refine again_intro (l.length - (i + 1)) (by omega) (nomem.set N (.cells false 35 (Ban.cells ⟨0, 0⟩))) (nomem_set_sub (by simp [Mem.set_at, Ban.cells, *])) ⟨i + 1, o', b', ⟨0, 0⟩, N, .vs ((rowB o' b').map Obj.cells) false, by omega, rfl, rfl, (show Kept ((⟨0, 0⟩ : Ban) = holdO o') from (z2 : _ = _).symm), fun _ => g3, .inr rfl, ?_, ?_, ?_, ?_, ?_, ?_, ?_, ?_, ?_, ?_⟩
              all_goals try (simp (disch := omega) only [nth_upd, pickB_true, pickB_false, inB_lt, upd_len, cast_succ, Int.cast_ofNat_Int, Nat.reduceBEq, beq_self_eq_true, reduceCtorEq, *]; done)
            · obtain ⟨z1, z2⟩ := x3 he
              have z2' : (⟨o'.client, o'.inst⟩ : Ban) = H := z2
              replace z2 : Kept _ := z2
              have hb' : o.locked = true → who ≠ H := fun e q => he (x1.2 ⟨e, q⟩)
              clear x1 x2 x3
              cases hlk : o.locked with
              | true =>
                have hb2 := hb' hlk
                rw [hlk] at e9 z1
                clear hb'
                repeat' first
                  | simp -dsimp (disch := omega) only [↓rulesA, rulesB, rulesC, Int.reduceLT, nth, upd, put, storeN, AV.one, Nat.reduceBEq, Nat.reduceBNe, Int.reduceBEq, Int.reduceBNe, Int.reduceLE, Int.reduceEq, Int.reduceMod, Int.reduceNeg, boolBin, strBin, intBin, unA, fillA, ne_eq, reduceCtorEq, Nat.reduceAdd, Nat.reduceSub, Nat.reduceLeDiff, Nat.reduceLT, Nat.reduceEqDiff, Int.reduceToNat, eq_self, rulesT, bne_self_eq_false, mm_min, mm_max, buOf_some, nilCheck_vp, nilCheck_ptr, nilCheck_yld, nilCheck_func, ix_32, ix_33, ne_35, eq_35, Ban.all, Ban.len, Ban.take, Ban.drop, Ban.sall, Ban.g0, Ban.g1, Res.all, Res.len, Res.take, Res.sall, Res.g0, Res.g1, Res.g2, Obj.all, Obj.len, Obj.take, Obj.drop, Obj.sall, Obj.g2, obj_hold, neb, nebb, ban_set, text_size, intC_0, *]
                  | (refine allK_intro fun n hn => ?_; try simp only [fresh_set] at hn)
                  | (refine ifK_intro (fun h => ?_) (fun h => ?_) <;> (try simp only [decide_eq_true_eq, decide_eq_false_iff_not, Bool.not_eq_true', Bool.not_eq_false'] at h) <;> try (exfalso; (try simp only [beq_iff_eq, beq_eq_false_iff_ne, bne_iff_ne, bne_eq_false_iff_eq, ne_eq] at h); omega))
                  | (refine keeps_sub (Mem.sub_set ?_) ?_; focus (simp [Mem.set_at, nomem, *]; done))
                  | (refine call_F (f19) (Seens.refl _ _) ?_)
                  | (refine pure_F (f19) (Seens.refl _ _) ?_)
                  | (refine call_F (f8) (Seens.refl _ _) ?_)
                  | (refine pure_F (f8) (Seens.refl _ _) ?_)
                  | (refine call_F (f20') (Seens.refl _ _) ?_)
                  | (refine pure_F (f20') (Seens.refl _ _) ?_)
                  | (refine call_F (f21) (Seens.refl _ _) ?_)
                  | (refine pure_F (f21) (Seens.refl _ _) ?_)
                clear f8 f19 f20' f21 f18
                refine again_intro (l.length - (i + 1)) (by omega) (nomem.set N (.cells false 35 (Ban.cells H))) (nomem_set_sub (by simp [Mem.set_at, Ban.cells, *])) ⟨i + 1, o', b', H, N, .vs ((rowB o' b').map Obj.cells) false, by omega, rfl, rfl, (show Kept (H = holdO o') from (z2 : _ = _).symm), fun _ => g3, .inr rfl, ?_, ?_, ?_, ?_, ?_, ?_, ?_, ?_, ?_, ?_⟩
                all_goals try (simp (disch := omega) only [nth_upd, pickB_true, pickB_false, inB_lt, upd_len, cast_succ, Int.cast_ofNat_Int, Nat.reduceBEq, beq_self_eq_true, reduceCtorEq, *]; done)
              | false =>
                rw [hlk] at e9 z1
                clear hb'
                repeat' first
                  | simp -dsimp (disch := omega) only [↓rulesA, rulesB, rulesC, Int.reduceLT, nth, upd, put, storeN, AV.one, Nat.reduceBEq, Nat.reduceBNe, Int.reduceBEq, Int.reduceBNe, Int.reduceLE, Int.reduceEq, Int.reduceMod, Int.reduceNeg, boolBin, strBin, intBin, unA, fillA, ne_eq, reduceCtorEq, Nat.reduceAdd, Nat.reduceSub, Nat.reduceLeDiff, Nat.reduceLT, Nat.reduceEqDiff, Int.reduceToNat, eq_self, rulesT, bne_self_eq_false, mm_min, mm_max, buOf_some, nilCheck_vp, nilCheck_ptr, nilCheck_yld, nilCheck_func, ix_32, ix_33, ne_35, eq_35, Ban.all, Ban.len, Ban.take, Ban.drop, Ban.sall, Ban.g0, Ban.g1, Res.all, Res.len, Res.take, Res.sall, Res.g0, Res.g1, Res.g2, Obj.all, Obj.len, Obj.take, Obj.drop, Obj.sall, Obj.g2, obj_hold, neb, nebb, ban_set, text_size, intC_0, *]
                  | (refine allK_intro fun n hn => ?_; try simp only [fresh_set] at hn)
                  | (refine ifK_intro (fun h => ?_) (fun h => ?_) <;> (try simp only [decide_eq_true_eq, decide_eq_false_iff_not, Bool.not_eq_true', Bool.not_eq_false'] at h) <;> try (exfalso; (try simp only [beq_iff_eq, beq_eq_false_iff_ne, bne_iff_ne, bne_eq_false_iff_eq, ne_eq] at h); omega))
                  | (refine keeps_sub (Mem.sub_set ?_) ?_; focus (simp [Mem.set_at, nomem, *]; done))
                  | (refine call_F (f19) (Seens.refl _ _) ?_)
                  | (refine pure_F (f19) (Seens.refl _ _) ?_)
                  | (refine call_F (f8) (Seens.refl _ _) ?_)
                  | (refine pure_F (f8) (Seens.refl _ _) ?_)
                  | (refine call_F (f20') (Seens.refl _ _) ?_)
                  | (refine pure_F (f20') (Seens.refl _ _) ?_)
                  | (refine call_F (f21) (Seens.refl _ _) ?_)
                  | (refine pure_F (f21) (Seens.refl _ _) ?_)
                clear f8 f19 f20' f21 f18
                refine again_intro (l.length - (i + 1)) (by omega) (nomem.set N (.cells false 35 (Ban.cells H))) (nomem_set_sub (by simp [Mem.set_at, Ban.cells, *])) ⟨i + 1, o', b', H, N, .vs ((rowB o' b').map Obj.cells) false, by omega, rfl, rfl, (show Kept (H = holdO o') from (z2 : _ = _).symm), fun _ => g3, .inr rfl, ?_, ?_, ?_, ?_, ?_, ?_, ?_, ?_, ?_, ?_⟩
                all_goals try (simp (disch := omega) only [nth_upd, pickB_true, pickB_false, inB_lt, upd_len, cast_succ, Int.cast_ofNat_Int, Nat.reduceBEq, beq_self_eq_true, reduceCtorEq, *]; done)
          · by_cases k4 : k = 4
            · subst k4
              obtain ⟨z1, z2⟩ := (hbusy' : Lk _ _ _ _ _ _).gone rfl
              have z2' : (⟨o'.client, o'.inst⟩ : Ban) = ⟨0, 0⟩ := z2
              replace z2 : Kept _ := z2
              clear hbusy' hHc
              repeat' first
                | simp -dsimp (disch := omega) only [↓rulesA, rulesB, rulesC, Int.reduceLT, nth, upd, put, storeN, AV.one, Nat.reduceBEq, Nat.reduceBNe, Int.reduceBEq, Int.reduceBNe, Int.reduceLE, Int.reduceEq, Int.reduceMod, Int.reduceNeg, boolBin, strBin, intBin, unA, fillA, ne_eq, reduceCtorEq, Nat.reduceAdd, Nat.reduceSub, Nat.reduceLeDiff, Nat.reduceLT, Nat.reduceEqDiff, Int.reduceToNat, eq_self, rulesT, bne_self_eq_false, mm_min, mm_max, buOf_some, nilCheck_vp, nilCheck_ptr, nilCheck_yld, nilCheck_func, ix_32, ix_33, ne_35, eq_35, Ban.all, Ban.len, Ban.take, Ban.drop, Ban.sall, Ban.g0, Ban.g1, Res.all, Res.len, Res.take, Res.sall, Res.g0, Res.g1, Res.g2, Obj.all, Obj.len, Obj.take, Obj.drop, Obj.sall, Obj.g2, obj_hold, neb, nebb, ban_set, text_size, intC_0, *]
                | (refine allK_intro fun n hn => ?_; try simp only [fresh_set] at hn)
                | (refine ifK_intro (fun h => ?_) (fun h => ?_) <;> (try simp only [decide_eq_true_eq, decide_eq_false_iff_not, Bool.not_eq_true', Bool.not_eq_false'] at h) <;> try (exfalso; (try simp only [beq_iff_eq, beq_eq_false_iff_ne, bne_iff_ne, bne_eq_false_iff_eq, ne_eq] at h); omega))
                | (refine keeps_sub (Mem.sub_set ?_) ?_; focus (simp [Mem.set_at, nomem, *]; done))
                | (refine call_F (f19) (Seens.refl _ _) ?_)
                | (refine pure_F (f19) (Seens.refl _ _) ?_)
                | (refine call_F (f8) (Seens.refl _ _) ?_)
                | (refine pure_F (f8) (Seens.refl _ _) ?_)
                | (refine call_F (f20') (Seens.refl _ _) ?_)
                | (refine pure_F (f20') (Seens.refl _ _) ?_)
                | (refine call_F (f21) (Seens.refl _ _) ?_)
                | (refine pure_F (f21) (Seens.refl _ _) ?_)
              clear f8 f19 f20' f21 f18
              refine again_intro (l.length - (i + 1)) (by omega) (nomem.set N (.cells false 35 (Ban.cells ⟨0, 0⟩))) (nomem_set_sub (by simp [Mem.set_at, Ban.cells, *])) ⟨i + 1, o', b', ⟨0, 0⟩, N, .vs ((rowB o' b').map Obj.cells) false, by omega, rfl, rfl, (show Kept ((⟨0, 0⟩ : Ban) = holdO o') from (z2 : _ = _).symm), fun _ => g3, .inr rfl, ?_, ?_, ?_, ?_, ?_, ?_, ?_, ?_, ?_, ?_⟩
              all_goals try (simp (disch := omega) only [nth_upd, pickB_true, pickB_false, inB_lt, upd_len, cast_succ, Int.cast_ofNat_Int, Nat.reduceBEq, beq_self_eq_true, reduceCtorEq, *]; done)
            · obtain ⟨z1, z2⟩ := (hbusy' : Lk _ _ _ _ _ _).else_ k7 k8 k9 k4
              have z2' : (⟨o'.client, o'.inst⟩ : Ban) = H := z2
              replace z2 : Kept _ := z2
              clear hbusy' hHc
              repeat' first
                | simp -dsimp (disch := omega) only [↓rulesA, rulesB, rulesC, Int.reduceLT, nth, upd, put, storeN, AV.one, Nat.reduceBEq, Nat.reduceBNe, Int.reduceBEq, Int.reduceBNe, Int.reduceLE, Int.reduceEq, Int.reduceMod, Int.reduceNeg, boolBin, strBin, intBin, unA, fillA, ne_eq, reduceCtorEq, Nat.reduceAdd, Nat.reduceSub, Nat.reduceLeDiff, Nat.reduceLT, Nat.reduceEqDiff, Int.reduceToNat, eq_self, rulesT, bne_self_eq_false, mm_min, mm_max, buOf_some, nilCheck_vp, nilCheck_ptr, nilCheck_yld, nilCheck_func, ix_32, ix_33, ne_35, eq_35, Ban.all, Ban.len, Ban.take, Ban.drop, Ban.sall, Ban.g0, Ban.g1, Res.all, Res.len, Res.take, Res.sall, Res.g0, Res.g1, Res.g2, Obj.all, Obj.len, Obj.take, Obj.drop, Obj.sall, Obj.g2, obj_hold, neb, nebb, ban_set, text_size, intC_0, *]
                | (refine allK_intro fun n hn => ?_; try simp only [fresh_set] at hn)
                | (refine ifK_intro (fun h => ?_) (fun h => ?_) <;> (try simp only [decide_eq_true_eq, decide_eq_false_iff_not, Bool.not_eq_true', Bool.not_eq_false'] at h) <;> try (exfalso; (try simp only [beq_iff_eq, beq_eq_false_iff_ne, bne_iff_ne, bne_eq_false_iff_eq, ne_eq] at h); omega))
                | (refine keeps_sub (Mem.sub_set ?_) ?_; focus (simp [Mem.set_at, nomem, *]; done))
                | (refine call_F (f19) (Seens.refl _ _) ?_)
                | (refine pure_F (f19) (Seens.refl _ _) ?_)
                | (refine call_F (f8) (Seens.refl _ _) ?_)
                | (refine pure_F (f8) (Seens.refl _ _) ?_)
                | (refine call_F (f20') (Seens.refl _ _) ?_)
                | (refine pure_F (f20') (Seens.refl _ _) ?_)
                | (refine call_F (f21) (Seens.refl _ _) ?_)
                | (refine pure_F (f21) (Seens.refl _ _) ?_)
              clear f8 f19 f20' f21 f18
              refine again_intro (l.length - (i + 1)) (by omega) (nomem.set N (.cells false 35 (Ban.cells H))) (nomem_set_sub (by simp [Mem.set_at, Ban.cells, *])) ⟨i + 1, o', b', H, N, .vs ((rowB o' b').map Obj.cells) false, by omega, rfl, rfl, (show Kept (H = holdO o') from (z2 : _ = _).symm), fun _ => g3, .inr rfl, ?_, ?_, ?_, ?_, ?_, ?_, ?_, ?_, ?_, ?_⟩
              all_goals try (simp (disch := omega) only [nth_upd, pickB_true, pickB_false, inB_lt, upd_len, cast_succ, Int.cast_ofNat_Int, Nat.reduceBEq, beq_self_eq_true, reduceCtorEq, *]; done)
    · have f19 := F19 (l.getD i default)
      have f8 := F8 nm
      clear hone hH hv
      generalize hw : l.getD i default = who at *
      by_cases g1 : i < ks.length
      · cases g2 : whoB who with
        | false =>
          rw [g2] at f19
          clear hgo
          repeat' first
            | simp -dsimp (disch := omega) only [↓rulesA, rulesB, rulesC, Int.reduceLT, nth, upd, put, storeN, AV.one, Nat.reduceBEq, Nat.reduceBNe, Int.reduceBEq, Int.reduceBNe, Int.reduceLE, Int.reduceEq, Int.reduceMod, Int.reduceNeg, boolBin, strBin, intBin, unA, fillA, ne_eq, reduceCtorEq, Nat.reduceAdd, Nat.reduceSub, Nat.reduceLeDiff, Nat.reduceLT, Nat.reduceEqDiff, Int.reduceToNat, eq_self, rulesT, bne_self_eq_false, mm_min, mm_max, buOf_some, nilCheck_vp, nilCheck_ptr, nilCheck_yld, nilCheck_func, ix_32, Ban.all, Ban.len, Ban.take, Ban.drop, Ban.sall, *]
            | (refine allK_intro fun n hn => ?_; try simp only [fresh_set] at hn)
            | (refine ifK_intro (fun h => ?_) (fun h => ?_) <;> (try simp only [decide_eq_true_eq, decide_eq_false_iff_not, Bool.not_eq_true', Bool.not_eq_false'] at h) <;> try (exfalso; (try simp only [beq_iff_eq, beq_eq_false_iff_ne, bne_iff_ne, bne_eq_false_iff_eq, ne_eq] at h); omega))
            | (refine keeps_sub (Mem.sub_set ?_) ?_; focus (simp [Mem.set_at, nomem, *]; done))
            | (refine call_F (f19) (Seens.refl _ _) ?_)
            | (refine pure_F (f19) (Seens.refl _ _) ?_)
            | (refine call_F (f8) (Seens.refl _ _) ?_)
            | (refine pure_F (f8) (Seens.refl _ _) ?_)
            | (refine call_F (f18) (Seens.refl _ _) ?_)
            | (refine pure_F (f18) (Seens.refl _ _) ?_)
          exact .val
        | true =>
          rw [g2] at f19
          cases g3 : nameOk nm with
          | true => exact absurd ⟨g1, g2, g3⟩ hgo
          | false =>
            rw [g3] at f8
            clear hgo
            repeat' first
              | simp -dsimp (disch := omega) only [↓rulesA, rulesB, rulesC, Int.reduceLT, nth, upd, put, storeN, AV.one, Nat.reduceBEq, Nat.reduceBNe, Int.reduceBEq, Int.reduceBNe, Int.reduceLE, Int.reduceEq, Int.reduceMod, Int.reduceNeg, boolBin, strBin, intBin, unA, fillA, ne_eq, reduceCtorEq, Nat.reduceAdd, Nat.reduceSub, Nat.reduceLeDiff, Nat.reduceLT, Nat.reduceEqDiff, Int.reduceToNat, eq_self, rulesT, bne_self_eq_false, mm_min, mm_max, buOf_some, nilCheck_vp, nilCheck_ptr, nilCheck_yld, nilCheck_func, ix_32, Ban.all, Ban.len, Ban.take, Ban.drop, Ban.sall, *]
              | (refine allK_intro fun n hn => ?_; try simp only [fresh_set] at hn)
              | (refine ifK_intro (fun h => ?_) (fun h => ?_) <;> (try simp only [decide_eq_true_eq, decide_eq_false_iff_not, Bool.not_eq_true', Bool.not_eq_false'] at h) <;> try (exfalso; (try simp only [beq_iff_eq, beq_eq_false_iff_ne, bne_iff_ne, bne_eq_false_iff_eq, ne_eq] at h); omega))
              | (refine keeps_sub (Mem.sub_set ?_) ?_; focus (simp [Mem.set_at, nomem, *]; done))
              | (refine call_F (f19) (Seens.refl _ _) ?_)
              | (refine pure_F (f19) (Seens.refl _ _) ?_)
              | (refine call_F (f8) (Seens.refl _ _) ?_)
              | (refine pure_F (f8) (Seens.refl _ _) ?_)
              | (refine call_F (f18) (Seens.refl _ _) ?_)
              | (refine pure_F (f18) (Seens.refl _ _) ?_)
            exact .val
      · clear hgo
        repeat' first
          | simp -dsimp (disch := omega) only [↓rulesA, rulesB, rulesC, Int.reduceLT, nth, upd, put, storeN, AV.one, Nat.reduceBEq, Nat.reduceBNe, Int.reduceBEq, Int.reduceBNe, Int.reduceLE, Int.reduceEq, Int.reduceMod, Int.reduceNeg, boolBin, strBin, intBin, unA, fillA, ne_eq, reduceCtorEq, Nat.reduceAdd, Nat.reduceSub, Nat.reduceLeDiff, Nat.reduceLT, Nat.reduceEqDiff, Int.reduceToNat, eq_self, rulesT, bne_self_eq_false, mm_min, mm_max, buOf_some, nilCheck_vp, nilCheck_ptr, nilCheck_yld, nilCheck_func, ix_32, Ban.all, Ban.len, Ban.take, Ban.drop, Ban.sall, *]
          | (refine allK_intro fun n hn => ?_; try simp only [fresh_set] at hn)
          | (refine ifK_intro (fun h => ?_) (fun h => ?_) <;> (try simp only [decide_eq_true_eq, decide_eq_false_iff_not, Bool.not_eq_true', Bool.not_eq_false'] at h) <;> try (exfalso; (try simp only [beq_iff_eq, beq_eq_false_iff_ne, bne_iff_ne, bne_eq_false_iff_eq, ne_eq] at h); omega))
          | (refine keeps_sub (Mem.sub_set ?_) ?_; focus (simp [Mem.set_at, nomem, *]; done))
          | (refine call_F (f19) (Seens.refl _ _) ?_)
          | (refine pure_F (f19) (Seens.refl _ _) ?_)
          | (refine call_F (f8) (Seens.refl _ _) ?_)
          | (refine pure_F (f8) (Seens.refl _ _) ?_)
          | (refine call_F (f18) (Seens.refl _ _) ?_)
          | (refine pure_F (f18) (Seens.refl _ _) ?_)
        exact .val
  · clear hone hH hv
    repeat' first
      | simp -dsimp (disch := omega) only [↓rulesA, rulesB, rulesC, Int.reduceLT, nth, upd, put, storeN, AV.one, Nat.reduceBEq, Nat.reduceBNe, Int.reduceBEq, Int.reduceBNe, Int.reduceLE, Int.reduceEq, Int.reduceMod, Int.reduceNeg, boolBin, strBin, intBin, unA, fillA, ne_eq, reduceCtorEq, Nat.reduceAdd, Nat.reduceSub, Nat.reduceLeDiff, Nat.reduceLT, Nat.reduceEqDiff, Int.reduceToNat, eq_self, rulesT, bne_self_eq_false, mm_min, mm_max, buOf_some, nilCheck_vp, nilCheck_ptr, nilCheck_yld, nilCheck_func, *]
      | (refine allK_intro fun n hn => ?_; try simp only [fresh_set] at hn)
      | (refine ifK_intro (fun h => ?_) (fun h => ?_) <;> (try simp only [decide_eq_true_eq, decide_eq_false_iff_not, Bool.not_eq_true', Bool.not_eq_false'] at h) <;> try (exfalso; (try simp only [beq_iff_eq, beq_eq_false_iff_ne, bne_iff_ne, bne_eq_false_iff_eq, ne_eq] at h); omega))
      | (refine keeps_sub (Mem.sub_set ?_) ?_; focus (simp [Mem.set_at, nomem, *]; done))
      | (refine call_F (f18) (Seens.refl _ _) ?_)
      | (refine pure_F (f18) (Seens.refl _ _) ?_)
    exact .val
theorem ints_of {x : AV} (h : ShapedV Try.prog 33 x) : ∃ l : List Int, x = .vs (l.map intC) false ∧ l.length * 8 ≤ 140737488351232 ∧ ∀ k ∈ l, -9223372036854775808 ≤ k ∧ k ≤ 9223372036854775807 := by
  obtain ⟨l, e, h1, _, h2⟩ := Shaped.rows intC (fun k => -9223372036854775808 ≤ k ∧ k ≤ 9223372036854775807) ti_33 rfl ti_3 rfl (fun x hx hl => by
    match x, hl with
    | [c], _ =>
      obtain ⟨b, rfl, hb⟩ := Shaped.i64 ti_3 rfl hx
      exact ⟨b, rfl, hb⟩) (h.one ti_33 rfl)
  exact ⟨l, e, h1, h2⟩
theorem bans_of {x : AV} (h : ShapedV Try.prog 32 x) : ∃ l : List Ban, x = .vs (l.map Ban.cells) false ∧ l.length * 16 ≤ 140737488351232 := by
  obtain ⟨l, e, h1, _, h2⟩ := Shaped.rows Ban.cells Ban.ok ti_32 rfl ti_35 rfl (fun x hx hl => by
    obtain ⟨d, e, hd⟩ := Ban.of_shaped hx hl
    exact ⟨d, e, hd⟩) (h.one ti_32 rfl)
  exact ⟨l, e, h1⟩
theorem locks_law : ∀ args, ShapedAll Try.prog Try.f4.params.toList args → F Try.prog 4 args (.val (.bool true)) := by
  intro args h
  have hp : Try.f4.params.toList = [9, 32, 33] := by kernel_rfl
  rw [hp] at h
  match args, h with
  | [a, b, c], ⟨h0, h1, h2, _⟩ =>
    obtain ⟨s, rfl, hs⟩ := Shaped.txt ti_9 rfl (h0.one ti_9 rfl)
    obtain ⟨l, rfl, l1⟩ := bans_of h1
    obtain ⟨ks, rfl, k1, k2⟩ := ints_of h2
    exact F4 s l ks k2 hs (by omega) (by omega)
end Go.Proofs.Ytanfgfclpjmngaa

