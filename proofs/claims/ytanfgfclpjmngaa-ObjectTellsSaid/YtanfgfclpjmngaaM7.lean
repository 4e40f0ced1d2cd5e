/- Package 19: what In leaves: the rows. -/
import Derived.Test.YtanfgfclpjmngaaM6
set_option maxRecDepth 100000
set_option maxHeartbeats 1000000
set_option linter.unusedSimpArgs false
set_option linter.unusedVariables false
namespace Go.Proofs.Ytanfgfclpjmngaa
open Go.Abs
attribute [local irreducible] C X CC Y CV CW binK litK AppK PureC PureCV againK loopV rangeV allK ifK got onB condK V stepsK planK opK firstK seeE keepsK

theorem oAt_good {l : List Obj} (hf : fitB l = true) (nm : List UInt8) : foundB l nm (placeN l nm) = true → objOk (oAt l nm) = true ∧ (oAt l nm).name = nm := fun h => by
  obtain ⟨h1, h2, h3⟩ := found_name h
  rw [h3]
  refine ⟨?_, h2⟩
  rw [getD_get l _ h1]
  exact ((fit_iff l).1 hf).2.1 _ (List.getElem_mem h1)
theorem inDo_good {l : List Obj} (hf : fitB l = true) {who : Ban} {op : Opr} (hdo : doOk who op = true) (hS : (inDo l who op).there = true) : objOk (inDo l who op).o = true ∧ (inDo l who op).o.name = op.name :=
  do_fit hdo (oAt_good hf op.name) hS
theorem names_set (l : List Obj) (k : Nat) (o : Obj) (hk : k < l.length) (h : o.name = (l.getD k default).name) : (l.set k o).map (·.name) = l.map (·.name) := by
  rw [List.map_set, h, getD_get l k hk]
  apply List.ext_getElem?
  intro i
  rw [List.getElem?_set]
  split
  · rename_i e; subst e; simp [hk]
  · rfl
theorem pw_names (l : List Obj) : l.Pairwise (fun a b => lessT a.name b.name = true) ↔ (l.map (·.name)).Pairwise (fun a b => lessT a b = true) := by rw [List.pairwise_map]
theorem in_fit {l : List Obj} (hf : fitB l = true) (who : Ban) (op : Opr) : fitB (inL l who op) = true := by
  obtain ⟨f1, f2, f3⟩ := (fit_iff l).1 hf
  have hp := place_fit hf op.name
  unfold inL
  split
  · exact hf
  rename_i hd
  have hdo : doOk who op = true := by simpa using hd
  split
  · exact hf
  split
  · rename_i hS
    obtain ⟨g1, g2⟩ := inDo_good hf hdo hS
    generalize inDo l who op = S at *
    split
    · rename_i hfd
      obtain ⟨h1, h2, h3⟩ := found_name hfd
      refine (fit_iff _).2 ⟨by rw [List.length_set]; exact f1, fun o ho => ?_, ?_⟩
      · rcases List.mem_or_eq_of_mem_set ho with ho | ho
        · exact f2 o ho
        · rw [ho]; exact g1
      · rw [pw_names, names_set _ _ _ h1 (by rw [g2, h2]), ← pw_names]; exact f3
    · rename_i hfd
      split
      · exact hf
      · rename_i h16
        have hnf := not_found hf (by simpa using hfd)
        generalize placeN l op.name = k at *
        have hlo : ∀ a ∈ l.take k, lessT a.name op.name = true := fun a ha => by
          obtain ⟨i, hi, rfl⟩ := List.getElem_of_mem ha
          rw [List.length_take] at hi
          have := hp.lo i (by omega)
          rw [getD_get l i (by omega)] at this
          rw [List.getElem_take]; exact this
        have hhi : ∀ a ∈ l.drop k, lessT op.name a.name = true := fun a ha => by
          obtain ⟨i, hi, rfl⟩ := List.getElem_of_mem ha
          rw [List.length_drop] at hi
          have := hp.hi (k + i) (by omega) (by omega)
          rw [getD_get l (k + i) (by omega)] at this
          rw [List.getElem_drop]
          exact less_total _ _ this (hnf _ (List.getElem_mem _))
        refine (fit_iff _).2 ⟨?_, fun o ho => ?_, ?_⟩
        · have := hp.le; simp only [List.length_append, List.length_take, List.length_cons, List.length_drop]; omega
        · rcases List.mem_append.1 ho with ho | ho
          · exact f2 o (List.mem_of_mem_take ho)
          · rcases List.mem_cons.1 ho with ho | ho
            · rw [ho]; exact g1
            · exact f2 o (List.mem_of_mem_drop ho)
        · rw [List.pairwise_append]
          refine ⟨f3.sublist (List.take_sublist _ _), ?_, fun a ha b hb => ?_⟩
          · rw [List.pairwise_cons]
            exact ⟨fun b hb => by rw [g2]; exact hhi b hb, f3.sublist (List.drop_sublist _ _)⟩
          · rcases List.mem_cons.1 hb with hb | hb
            · rw [hb, g2]; exact hlo a ha
            · exact less_trans _ _ _ (hlo a ha) (hhi b hb)
  · split
    · rename_i hfd
      obtain ⟨h1, h2, h3⟩ := found_name hfd
      have hsub : (l.take (placeN l op.name) ++ l.drop (placeN l op.name + 1)).Sublist l := by
        have e : l.take (placeN l op.name) ++ l.drop (placeN l op.name + 1) = l.eraseIdx (placeN l op.name) := by rw [List.eraseIdx_eq_take_drop_succ]
        rw [e]; exact List.eraseIdx_sublist _ _
      exact (fit_iff _).2 ⟨Nat.le_trans hsub.length_le f1, fun o ho => f2 o (hsub.subset ho), f3.sublist hsub⟩
    · exact hf
theorem in_same {l : List Obj} {who : Ban} {op : Opr} (h : inDo l who op = sheetOf (oAt l op.name) (foundB l op.name (placeN l op.name)) who op) : inL l who op = l := by
  unfold inL
  rw [h]
  cases hfd : foundB l op.name (placeN l op.name) with
  | true =>
    obtain ⟨h1, h2, h3⟩ := found_name hfd
    have e1 : (sheetOf (oAt l op.name) true who op).there = true := rfl
    have e2 : (sheetOf (oAt l op.name) true who op).o = l.getD (placeN l op.name) default := h3
    rw [e1, e2]
    simp only [if_true]
    have : l.set (placeN l op.name) (l.getD (placeN l op.name) default) = l := by
      rw [getD_get l _ h1]; exact List.set_getElem_self h1
    rw [this]
    split <;> (try split) <;> rfl
  | false =>
    have e1 : (sheetOf (oAt l op.name) false who op).there = false := rfl
    rw [e1]
    simp
theorem in_err {l : List Obj} {who : Ban} {op : Opr} (h : (inR l who op).err ≠ 0) : inL l who op = l := by
  by_cases hd : doOk who op = false
  · unfold inL; rw [if_pos hd]
  by_cases h10 : op.kind = 10
  · unfold inL; rw [if_neg hd, if_pos h10]
  unfold inR at h
  rw [if_neg hd, if_neg h10] at h
  split at h
  · rename_i hc
    unfold inL
    rw [if_neg hd, if_neg h10, hc.1, hc.2.1]
    simp only [if_true]
    rw [if_neg (by decide), if_pos hc.2.2]
  · exact in_same (do_err h)
theorem in_looks {l : List Obj} {who : Ban} {op : Opr} (h : changesB op.kind = false) : inL l who op = l := in_same (do_looks h)
theorem in_mem {l : List Obj} (hf : fitB l = true) {who : Ban} {op : Opr} {x : Obj} (hx : x ∈ l) (hn : x.name ≠ op.name) : x ∈ inL l who op := by
  unfold inL
  split
  · exact hx
  split
  · exact hx
  split
  · split
    · rename_i hfd
      obtain ⟨h1, h2, h3⟩ := found_name hfd
      obtain ⟨i, hi, rfl⟩ := List.getElem_of_mem hx
      have hne : placeN l op.name ≠ i := fun e => hn (by rw [← h2, e, getD_get l i hi])
      rw [List.mem_iff_getElem?]
      exact ⟨i, by rw [List.getElem?_set_ne hne]; simp [hi]⟩
    · split
      · exact hx
      · rw [← List.take_append_drop (placeN l op.name) l] at hx
        rcases List.mem_append.1 hx with hx | hx
        · exact List.mem_append.2 (.inl hx)
        · exact List.mem_append.2 (.inr (List.mem_cons_of_mem _ hx))
  · split
    · rename_i hfd
      obtain ⟨h1, h2, h3⟩ := found_name hfd
      obtain ⟨i, hi, rfl⟩ := List.getElem_of_mem hx
      have hne : placeN l op.name ≠ i := fun e => hn (by rw [← h2, e, getD_get l i hi])
      rw [← List.eraseIdx_eq_take_drop_succ, List.mem_eraseIdx_iff_getElem]
      exact ⟨i, hi, Ne.symm hne, rfl⟩
    · exact hx
theorem in_len {l : List Obj} (hf : fitB l = true) (who : Ban) (op : Opr) : (inL l who op).length ≤ l.length + 1 := by
  have hp := (place_fit hf op.name).le
  unfold inL
  split
  · omega
  split
  · omega
  split
  · split
    · rw [List.length_set]; omega
    · split
      · omega
      · simp only [List.length_append, List.length_take, List.length_cons, List.length_drop]; omega
  · split
    · simp only [List.length_append, List.length_take, List.length_drop]; omega
    · omega
end Go.Proofs.Ytanfgfclpjmngaa


/- Package 19: finding; the law ObjectKeeps. -/
set_option maxRecDepth 100000
set_option maxHeartbeats 1000000
set_option linter.unusedSimpArgs false
set_option linter.unusedVariables false
namespace Go.Proofs.Ytanfgfclpjmngaa
open Go.Abs
attribute [local irreducible] C X CC Y CV CW binK litK AppK PureC PureCV againK loopV rangeV allK ifK got onB condK V stepsK planK opK firstK seeE keepsK

theorem F21 (l : List Obj) (x : Bool) (nm : List UInt8) (hfit : fitB l = true) : F Try.prog 21 [.vs (l.map Obj.cells) x, .val (.string ⟨nm.toArray⟩)] (.tup [.agg (oAt l nm).cells, .val (.bool (foundB l nm (placeN l nm)))]) := by
  have hl16 := fit_len hfit
  have f35 := F35 l x nm (by omega) _ (place_fit hfit nm)
  refine F21_of ?_
  unfold k21
  cases hfd : foundB l nm (placeN l nm) with
  | true =>
    obtain ⟨h1, h2, h3⟩ := found_name hfd
    rw [hfd] at f35
    rw [h3]
    clear h3 h2 hfd hfit
    generalize placeN l nm = k at *
    repeat' first
      | simp -dsimp (disch := omega) only [↓rulesA, rulesB, rulesC, Int.reduceLT, nth, upd, put, storeN, AV.one, Nat.reduceBEq, Nat.reduceBNe, Int.reduceBEq, Int.reduceBNe, Int.reduceLE, Int.reduceEq, Int.reduceMod, Int.reduceNeg, boolBin, strBin, intBin, unA, fillA, ne_eq, reduceCtorEq, Nat.reduceAdd, Nat.reduceSub, Nat.reduceLeDiff, Nat.reduceLT, Nat.reduceEqDiff, Int.reduceToNat, eq_self, rulesT, bne_self_eq_false, mm_min, mm_max, buOf_some, nilCheck_vp, nilCheck_ptr, nilCheck_yld, nilCheck_func, ix_24, Obj.all, Obj.len, Obj.take, Obj.sall, *]
      | (refine allK_intro fun n hn => ?_; try simp only [fresh_set] at hn)
      | (refine ifK_intro (fun h => ?_) (fun h => ?_) <;> (try simp only [decide_eq_true_eq, decide_eq_false_iff_not, Bool.not_eq_true', Bool.not_eq_false'] at h) <;> try (exfalso; (try simp only [beq_iff_eq, beq_eq_false_iff_ne, bne_iff_ne, bne_eq_false_iff_eq, ne_eq] at h); omega))
      | (refine keeps_sub (Mem.sub_set ?_) ?_; focus (simp [Mem.set_at, nomem, *]; done))
      | (refine call_F (f35) (Seens.refl _ _) ?_)
      | (refine pure_F (f35) (Seens.refl _ _) ?_)
    exact New.eq rfl rfl
  | false =>
    have h3 : oAt l nm = noObj := by unfold oAt; rw [if_neg (by rw [hfd]; decide)]
    rw [hfd] at f35
    rw [h3]
    clear h3 hfd hfit
    generalize placeN l nm = k at *
    repeat' first
      | simp -dsimp (disch := omega) only [↓rulesA, rulesB, rulesC, Int.reduceLT, nth, upd, put, storeN, AV.one, Nat.reduceBEq, Nat.reduceBNe, Int.reduceBEq, Int.reduceBNe, Int.reduceLE, Int.reduceEq, Int.reduceMod, Int.reduceNeg, boolBin, strBin, intBin, unA, fillA, ne_eq, reduceCtorEq, Nat.reduceAdd, Nat.reduceSub, Nat.reduceLeDiff, Nat.reduceLT, Nat.reduceEqDiff, Int.reduceToNat, eq_self, rulesT, bne_self_eq_false, mm_min, mm_max, buOf_some, nilCheck_vp, nilCheck_ptr, nilCheck_yld, nilCheck_func, ix_24, Obj.all, Obj.len, Obj.take, Obj.sall, *]
      | (refine allK_intro fun n hn => ?_; try simp only [fresh_set] at hn)
      | (refine ifK_intro (fun h => ?_) (fun h => ?_) <;> (try simp only [decide_eq_true_eq, decide_eq_false_iff_not, Bool.not_eq_true', Bool.not_eq_false'] at h) <;> try (exfalso; (try simp only [beq_iff_eq, beq_eq_false_iff_ne, bne_iff_ne, bne_eq_false_iff_eq, ne_eq] at h); omega))
      | (refine keeps_sub (Mem.sub_set ?_) ?_; focus (simp [Mem.set_at, nomem, *]; done))
      | (refine call_F (f35) (Seens.refl _ _) ?_)
      | (refine pure_F (f35) (Seens.refl _ _) ?_)
    exact New.eq rfl rfl
theorem F7 (l : List Obj) (who : Ban) (op : Opr) (hop : op.ok) (hll : l.length * 56 ≤ 140737488351232) : F Try.prog 7 [.vs (l.map Obj.cells) false, .agg who.cells, .agg op.cells] (.val (.bool true)) := by
  have f14 := F14 l false
  refine F7_of ?_
  unfold k7
  cases hfit : fitB l with
  | false =>
    rw [hfit] at f14
    repeat' first
      | simp -dsimp (disch := omega) only [↓rulesA, rulesB, rulesC, Int.reduceLT, nth, upd, put, storeN, AV.one, Nat.reduceBEq, Nat.reduceBNe, Int.reduceBEq, Int.reduceBNe, Int.reduceLE, Int.reduceEq, Int.reduceMod, Int.reduceNeg, boolBin, strBin, intBin, unA, fillA, ne_eq, reduceCtorEq, Nat.reduceAdd, Nat.reduceSub, Nat.reduceLeDiff, Nat.reduceLT, Nat.reduceEqDiff, Int.reduceToNat, eq_self, rulesT, bne_self_eq_false, mm_min, mm_max, buOf_some, nilCheck_vp, nilCheck_ptr, nilCheck_yld, nilCheck_func, Ban.all, Ban.len, Ban.take, Opr.all, Opr.len, Opr.take, Opr.drop, Opr.g0, Opr.g1, *]
      | (refine allK_intro fun n hn => ?_; try simp only [fresh_set] at hn)
      | (refine ifK_intro (fun h => ?_) (fun h => ?_) <;> (try simp only [decide_eq_true_eq, decide_eq_false_iff_not, Bool.not_eq_true', Bool.not_eq_false'] at h) <;> try (exfalso; (try simp only [beq_iff_eq, beq_eq_false_iff_ne, bne_iff_ne, bne_eq_false_iff_eq, ne_eq] at h); omega))
      | (refine keeps_sub (Mem.sub_set ?_) ?_; focus (simp [Mem.set_at, nomem, *]; done))
      | (refine call_F (f14) (Seens.refl _ _) ?_)
      | (refine pure_F (f14) (Seens.refl _ _) ?_)
      | (refine call_F (F18) (Seens.refl _ _) ?_)
      | (refine pure_F (F18) (Seens.refl _ _) ?_)
    exact .val
  | true =>
    rw [hfit] at f14
    have hl16 := fit_len hfit
    have f20 := F20 l false who op hop hfit
    have hL := in_fit hfit who op
    have f14L := F14 (inL l who op) false
    rw [hL] at f14L
    have hL16 := fit_len hL
    have f17 := F17 (inL l who op) l false false (by omega)
    have f12 := F12 op.kind
    have hE : (inR l who op).err ≠ 0 → inL l who op = l := in_err
    have hC : changesB op.kind = false → inL l who op = l := in_looks
    have hM : ∀ x ∈ l, x.name ≠ op.name → x ∈ inL l who op := fun x hx hn => in_mem hfit hx hn
    have hlen := in_len hfit who op
    have f21 := fun nm => F21 (inL l who op) false nm hL
    have hfind := fun {x : Obj} (hx : x ∈ inL l who op) => find_mem hL hx
    generalize inL l who op = L at *
    generalize inR l who op = R at *
    generalize changesB op.kind = cb at *
    have key : ∀ b : Bool, decide (L = l) = b → (b = true ∨ (R.err = 0 ∧ cb = true)) := fun b hb => by
      cases b with
      | true => exact .inl rfl
      | false =>
        have hne := of_decide_eq_false hb
        refine .inr ⟨Classical.byContradiction fun h => hne (hE h), ?_⟩
        cases cb with
        | true => rfl
        | false => exact absurd (hC rfl) hne
    generalize hsm : decide (L = l) = sm at f17 key
    have key' := key sm rfl
    clear key hsm hE hC hfit hL
    replace key' : Kept _ := key'
    replace hM : Kept _ := hM
    replace hfind : Kept (∀ x ∈ L, foundB L x.name (placeN L x.name) = true ∧ oAt L x.name = x) := fun x hx => ⟨(hfind hx).1, (hfind hx).2.1⟩
    repeat' first
      | simp -dsimp (disch := omega) only [↓rulesA, rulesB, rulesC, Int.reduceLT, nth, upd, put, storeN, AV.one, Nat.reduceBEq, Nat.reduceBNe, Int.reduceBEq, Int.reduceBNe, Int.reduceLE, Int.reduceEq, Int.reduceMod, Int.reduceNeg, boolBin, strBin, intBin, unA, fillA, ne_eq, reduceCtorEq, Nat.reduceAdd, Nat.reduceSub, Nat.reduceLeDiff, Nat.reduceLT, Nat.reduceEqDiff, Int.reduceToNat, eq_self, rulesT, bne_self_eq_false, mm_min, mm_max, buOf_some, nilCheck_vp, nilCheck_ptr, nilCheck_yld, nilCheck_func, Ban.all, Ban.len, Ban.take, Opr.all, Opr.len, Opr.take, Opr.drop, Opr.g0, Opr.g1, Res.all, Res.len, Res.take, Res.sall, Res.g0, *]
      | (refine allK_intro fun n hn => ?_; try simp only [fresh_set] at hn)
      | (refine ifK_intro (fun h => ?_) (fun h => ?_) <;> (try simp only [decide_eq_true_eq, decide_eq_false_iff_not, Bool.not_eq_true', Bool.not_eq_false'] at h) <;> try (exfalso; (try simp only [beq_iff_eq, beq_eq_false_iff_ne, bne_iff_ne, bne_eq_false_iff_eq, ne_eq] at h); omega))
      | (refine keeps_sub (Mem.sub_set ?_) ?_; focus (simp [Mem.set_at, nomem, *]; done))
      | (refine call_F (f14) (Seens.refl _ _) ?_)
      | (refine pure_F (f14) (Seens.refl _ _) ?_)
      | (refine call_F (f14L) (Seens.refl _ _) ?_)
      | (refine pure_F (f14L) (Seens.refl _ _) ?_)
      | (refine call_F (f20) (Seens.refl _ _) ?_)
      | (refine pure_F (f20) (Seens.refl _ _) ?_)
      | (refine call_F (f17) (Seens.refl _ _) ?_)
      | (refine pure_F (f17) (Seens.refl _ _) ?_)
      | (refine call_F (f12) (Seens.refl _ _) ?_)
      | (refine pure_F (f12) (Seens.refl _ _) ?_)
    all_goals first
      | (exfalso
         rcases (key' : _ ∨ _) with q | ⟨q1, q2⟩ <;> simp_all; done)
      | skip
    all_goals
      clear f14 f14L f20 f17 f12 key'
      refine loop_intro (fun j env m => ∃ (i nO : Nat), i ≤ l.length ∧ j = l.length - i ∧ m = nomem.set nO (.cells false 23 op.cells) ∧ env.length = 87 ∧ nth env 0 = .vs (l.map Obj.cells) false ∧ nth env 5 = .ptr nO 0 ∧ nth env 7 = .vs (L.map Obj.cells) false ∧ nth env 50 = .vs (l.map Obj.cells) false ∧ nth env 51 = .val (.int .i64 l.length) ∧ nth env 52 = .val (.int .i64 i)) l.length (nomem.set _ (.cells false 23 op.cells)) ?_ ⟨0, _, by omega, rfl, rfl, rfl, rfl, rfl, rfl, rfl, rfl, rfl⟩ ?_
      · exact nomem_set_sub (by simp [Mem.set_at, *])
      rintro j env m ⟨i, nO, hi, rfl, rfl, hlen', e0, e5, e7, e50, e51, e52⟩
      by_cases hil : i < l.length
      · have hx : l[i] ∈ l := List.getElem_mem hil
        have hxe := getD_get l i hil
        generalize l[i] = o at hx hxe
        by_cases hn : o.name = op.name
        · have hb : (o.name == op.name) = true := by rw [hn]; exact beq_self_eq_true _
          have f := f21 o.name
          clear hM hfind hx hn f21
          generalize oAt L o.name = y at *
          generalize foundB L o.name (placeN L o.name) = fb at *
          repeat' first
            | simp -dsimp (disch := omega) only [↓rulesA, rulesB, rulesC, Int.reduceLT, nth, upd, put, storeN, AV.one, Nat.reduceBEq, Nat.reduceBNe, Int.reduceBEq, Int.reduceBNe, Int.reduceLE, Int.reduceEq, Int.reduceMod, Int.reduceNeg, boolBin, strBin, intBin, unA, fillA, ne_eq, reduceCtorEq, Nat.reduceAdd, Nat.reduceSub, Nat.reduceLeDiff, Nat.reduceLT, Nat.reduceEqDiff, Int.reduceToNat, eq_self, rulesT, bne_self_eq_false, mm_min, mm_max, buOf_some, nilCheck_vp, nilCheck_ptr, nilCheck_yld, nilCheck_func, ix_24, hxe, Obj.all, Obj.len, Obj.take, Obj.sall, Obj.g0, Opr.g1, Opr.len, text_tl, *]
            | (refine allK_intro fun n hn => ?_; try simp only [fresh_set] at hn)
            | (refine ifK_intro (fun h => ?_) (fun h => ?_) <;> (try simp only [decide_eq_true_eq, decide_eq_false_iff_not, Bool.not_eq_true', Bool.not_eq_false'] at h) <;> try (exfalso; (try simp only [beq_iff_eq, beq_eq_false_iff_ne, bne_iff_ne, bne_eq_false_iff_eq, ne_eq] at h); omega))
            | (refine keeps_sub (Mem.sub_set ?_) ?_; focus (simp [Mem.set_at, nomem, *]; done))
            | (refine call_F (f) (Seens.refl _ _) ?_)
            | (refine pure_F (f) (Seens.refl _ _) ?_)
          refine again_intro (l.length - (i + 1)) (by omega) (nomem.set nO (.cells false 23 op.cells)) (nomem_set_sub (by simp [Mem.set_at, *])) ⟨i + 1, nO, by omega, rfl, rfl, ?_, ?_, ?_, ?_, ?_, ?_, ?_⟩
          all_goals try (simp (disch := omega) only [nth_upd, pickB_true, pickB_false, inB_lt, upd_len, cast_succ, Int.cast_ofNat_Int, Nat.reduceBEq, beq_self_eq_true, reduceCtorEq, *]; done)
        · have hb : (o.name == op.name) = false := by rw [beq_eq_false_iff_ne]; exact hn
          obtain ⟨q1, q2⟩ := (hfind : ∀ _, _) o ((hM : ∀ _, _) o hx hn)
          have f := f21 o.name
          rw [q1, q2] at f
          have hoo := ne_43 o o
          rw [decide_eq_true rfl] at hoo
          clear hM hfind hx hn f21 q1 q2
          repeat' first
            | simp -dsimp (disch := omega) only [↓rulesA, rulesB, rulesC, Int.reduceLT, nth, upd, put, storeN, AV.one, Nat.reduceBEq, Nat.reduceBNe, Int.reduceBEq, Int.reduceBNe, Int.reduceLE, Int.reduceEq, Int.reduceMod, Int.reduceNeg, boolBin, strBin, intBin, unA, fillA, ne_eq, reduceCtorEq, Nat.reduceAdd, Nat.reduceSub, Nat.reduceLeDiff, Nat.reduceLT, Nat.reduceEqDiff, Int.reduceToNat, eq_self, rulesT, bne_self_eq_false, mm_min, mm_max, buOf_some, nilCheck_vp, nilCheck_ptr, nilCheck_yld, nilCheck_func, ix_24, hxe, Obj.all, Obj.len, Obj.take, Obj.sall, Obj.g0, Opr.g1, Opr.len, text_tl, *]
            | (refine allK_intro fun n hn => ?_; try simp only [fresh_set] at hn)
            | (refine ifK_intro (fun h => ?_) (fun h => ?_) <;> (try simp only [decide_eq_true_eq, decide_eq_false_iff_not, Bool.not_eq_true', Bool.not_eq_false'] at h) <;> try (exfalso; (try simp only [beq_iff_eq, beq_eq_false_iff_ne, bne_iff_ne, bne_eq_false_iff_eq, ne_eq] at h); omega))
            | (refine keeps_sub (Mem.sub_set ?_) ?_; focus (simp [Mem.set_at, nomem, *]; done))
            | (refine call_F (f) (Seens.refl _ _) ?_)
            | (refine pure_F (f) (Seens.refl _ _) ?_)
          refine again_intro (l.length - (i + 1)) (by omega) (nomem.set nO (.cells false 23 op.cells)) (nomem_set_sub (by simp [Mem.set_at, *])) ⟨i + 1, nO, by omega, rfl, rfl, ?_, ?_, ?_, ?_, ?_, ?_, ?_⟩
          all_goals try (simp (disch := omega) only [nth_upd, pickB_true, pickB_false, inB_lt, upd_len, cast_succ, Int.cast_ofNat_Int, Nat.reduceBEq, beq_self_eq_true, reduceCtorEq, *]; done)
      · clear hM hfind f21
        repeat' first
          | simp -dsimp (disch := omega) only [↓rulesA, rulesB, rulesC, Int.reduceLT, nth, upd, put, storeN, AV.one, Nat.reduceBEq, Nat.reduceBNe, Int.reduceBEq, Int.reduceBNe, Int.reduceLE, Int.reduceEq, Int.reduceMod, Int.reduceNeg, boolBin, strBin, intBin, unA, fillA, ne_eq, reduceCtorEq, Nat.reduceAdd, Nat.reduceSub, Nat.reduceLeDiff, Nat.reduceLT, Nat.reduceEqDiff, Int.reduceToNat, eq_self, rulesT, bne_self_eq_false, mm_min, mm_max, buOf_some, nilCheck_vp, nilCheck_ptr, nilCheck_yld, nilCheck_func, *]
          | (refine allK_intro fun n hn => ?_; try simp only [fresh_set] at hn)
          | (refine ifK_intro (fun h => ?_) (fun h => ?_) <;> (try simp only [decide_eq_true_eq, decide_eq_false_iff_not, Bool.not_eq_true', Bool.not_eq_false'] at h) <;> try (exfalso; (try simp only [beq_iff_eq, beq_eq_false_iff_ne, bne_iff_ne, bne_eq_false_iff_eq, ne_eq] at h); omega))
          | (refine keeps_sub (Mem.sub_set ?_) ?_; focus (simp [Mem.set_at, nomem, *]; done))
          | (refine call_F (F18) (Seens.refl _ _) ?_)
          | (refine pure_F (F18) (Seens.refl _ _) ?_)
        exact .val
theorem keeps_law : ∀ args, ShapedAll Try.prog Try.f7.params.toList args → F Try.prog 7 args (.val (.bool true)) := by
  intro args h
  have hp : Try.f7.params.toList = [24, 35, 23] := by kernel_rfl
  rw [hp] at h
  match args, h with
  | [a, b, c], ⟨h0, h1, h2, _⟩ =>
    obtain ⟨l, rfl, l1, l2⟩ := objs_of h0
    obtain ⟨cs, rfl, hl, hs'⟩ := h1.cells ti_35 rfl
    obtain ⟨who, rfl, _⟩ := Ban.of_shaped hs' hl
    obtain ⟨cs2, rfl, hl2, hs2⟩ := h2.cells ti_23 rfl
    obtain ⟨op, rfl, ho⟩ := Opr.of_shaped hs2 hl2
    exact F7 l who op ho l1
end Go.Proofs.Ytanfgfclpjmngaa

