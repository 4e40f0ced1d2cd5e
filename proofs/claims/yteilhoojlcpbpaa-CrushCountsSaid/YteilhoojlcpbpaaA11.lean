/- The abstract layer, eleventh part: what append comes to. -/
import Derived.Test.YteilhoojlcpbpaaA10
set_option linter.unusedVariables false
set_option linter.unusedSimpArgs false
namespace Go.Abs
variable {P : Program} {κ : K} {m : Mem} {w : World}

/-- A name in use that is nowhere. -/
def K.ghost (κ : K) (n : Nat) : K := { κ with rho := fun k => if k = n then some none else κ.rho k }
theorem K.le_ghost {κ : K} {n : Nat} (h : κ.rho n = none) : κ.le (κ.ghost n) := ⟨fun _ _ _ h => h, fun k l' hk => by
  unfold K.ghost
  simp only
  split
  · rename_i e; rw [e, h] at hk; cases hk
  · exact hk⟩
theorem K.ghost_same (κ : K) (n : Nat) : (κ.ghost n).rho n = some none := by simp [K.ghost]
theorem K.ghost_ne (κ : K) {n k : Nat} (h : k ≠ n) : (κ.ghost n).rho k = κ.rho k := by simp [K.ghost, h]
theorem K.ghost_some {κ : K} {n k : Nat} {l : Loc} (h : (κ.ghost n).rho k = some (some l)) : k ≠ n ∧ κ.rho k = some (some l) := by
  by_cases e : k = n
  · subst e; rw [K.ghost_same] at h; cases h
  · exact ⟨e, by rw [← K.ghost_ne κ e]; exact h⟩
/-- An own row without cells needs no place. -/
theorem Step.empty (hs : Sim P κ m w) {n : Nat} (hm : m n = none) (hr : κ.rho n = none) (t : TypeId) : Step P κ m w (κ.ghost n) (m.set n (.cells true t [])) w := by
  have hle : κ.le (κ.ghost n) := K.le_ghost hr
  refine ⟨hle, ⟨hs.prot, ?_, fun k l h => hs.lt k l (K.ghost_some h).2, ?_, ?_⟩, Nat.le_refl _, fun _ _ _ => rfl, ?_, rfl, rfl, rfl, fun _ _ _ h => .inl h, fun k hk hk' => by
    have e : k ≠ n := fun e => hk (e ▸ hr)
    rw [Mem.set_ne _ _ e]; exact hk'⟩
  · intro k b hk
    by_cases e : k = n
    · subst e; rw [Mem.set_same] at hk; cases hk; exact .inr ⟨K.ghost_same .., t, rfl⟩
    · rw [Mem.set_ne _ _ e] at hk
      rcases hs.blk k b hk with ⟨l', h1, h2, h3⟩ | ⟨h1, h2⟩
      · exact .inl ⟨l', (K.ghost_ne _ e).trans h1, h2.mono hle, h3⟩
      · exact .inr ⟨(K.ghost_ne _ e).trans h1, h2⟩
  · intro k k' l1 l2 hne h1 h2 h3 h4
    obtain ⟨e, h3⟩ := K.ghost_some h3
    obtain ⟨e', h4⟩ := K.ghost_some h4
    rw [Mem.set_ne _ _ e] at h1
    rw [Mem.set_ne _ _ e'] at h2
    exact hs.excl k k' l1 l2 hne h1 h2 h3 h4
  · obtain ⟨N, hN⟩ := hs.fin
    refine ⟨max N (n + 1), fun k hk => ?_⟩
    have e : k ≠ n := by omega
    rw [Mem.set_ne _ _ e, K.ghost_ne _ e]
    exact hN k (by omega)
  · rintro c hc ⟨k, l', h1, h2, h3⟩
    obtain ⟨e, h1⟩ := K.ghost_some h1
    rw [Mem.set_ne _ _ e] at h2
    exact ⟨k, l', h1, h2, h3⟩

/-- The block behind an own row is another own row's from now on. -/
theorem Step.move {w' : World} (hs : Sim P κ m w) {n N : Nat} {l l' : Loc} (hm : m n ≠ none) (hl : κ.rho n = some (some l)) (hp : ∀ o, κ.prot l.blk o = none) (hN : m N = none) (hrN : κ.rho N = none)
    (hblk : l'.blk = l.blk) (hb : But w w' l.blk) (b : Blk) (hok : BlkOK P (κ.add N l') w' l' b) : Step P κ m w (κ.add N l') ((m.del n).set N b) w' := by
  have hle : κ.le (κ.add N l') := K.le_add hrN
  have heap : ∀ c, c < w.heap.size → c ≠ l.blk → w'.heap[c]? = w.heap[c]? := hb.blk
  refine ⟨hle, ⟨?_, ?_, ?_, ?_, ?_⟩, hb.size, ?_, ?_, hb.os, hb.tape, hb.output, fun _ _ _ h => .inl h, fun k hk hk' => by
    have e : k ≠ N := fun e => hk (e ▸ hrN)
    rw [Mem.set_ne _ _ e]; unfold Mem.del; split <;> first | rfl | exact hk'⟩
  · intro c o v h
    have hne : c ≠ l.blk := fun e => by rw [e] at h; have := hp o; rw [show (κ.add N l').prot l.blk o = κ.prot l.blk o from rfl, this] at h; cases h
    rw [cell_of_heap (heap c (hs.protLt h) hne)]
    exact hs.prot c o v h
  · intro k b' hk
    by_cases e : k = N
    · subst e
      rw [Mem.set_same] at hk; cases hk
      exact .inl ⟨l', K.add_same .., hok, fun o => by rw [hblk]; exact hp o⟩
    · rw [Mem.set_ne _ _ e] at hk
      have hkn : k ≠ n := fun e => by subst e; simp at hk
      have hk' : m k = some b' := Mem.del_sub m n k b' hk
      rcases hs.blk k b' hk' with ⟨l2, h1, h2, h3⟩ | ⟨h1, h2⟩
      · exact .inl ⟨l2, (K.add_ne _ _ e).trans h1, (h2.congr (heap _ h2.lt (hs.excl k n l2 l hkn (by rw [hk']; simp) hm h1 hl))).mono hle, h3⟩
      · exact .inr ⟨(K.add_ne _ _ e).trans h1, h2⟩
  · intro k l2 h
    by_cases e : k = N
    · subst e; rw [K.add_same] at h; cases h; exact hok.lt
    · rw [K.add_ne _ _ e] at h; exact Nat.lt_of_lt_of_le (hs.lt k l2 h) hb.size
  · intro k k' l1 l2 hne h1 h2 h3 h4
    by_cases e : k = N
    · subst e
      rw [K.add_same] at h3; cases h3
      have e' : k' ≠ k := Ne.symm hne
      rw [K.add_ne _ _ e'] at h4
      rw [Mem.set_ne _ _ e'] at h2
      have hkn : k' ≠ n := fun e => by subst e; simp at h2
      rw [hblk]
      exact fun e => hs.excl k' n l2 l hkn ((Mem.del_sub m n).live h2) hm h4 hl e.symm
    · rw [K.add_ne _ _ e] at h3
      rw [Mem.set_ne _ _ e] at h1
      have hkn : k ≠ n := fun e => by subst e; simp at h1
      by_cases e' : k' = N
      · subst e'
        rw [K.add_same] at h4; cases h4
        rw [hblk]
        exact hs.excl k n l1 l hkn ((Mem.del_sub m n).live h1) hm h3 hl
      · rw [K.add_ne _ _ e'] at h4
        rw [Mem.set_ne _ _ e'] at h2
        exact hs.excl k k' l1 l2 hne ((Mem.del_sub m n).live h1) ((Mem.del_sub m n).live h2) h3 h4
  · obtain ⟨M, hM⟩ := hs.fin
    refine ⟨max M (N + 1), fun k hk => ?_⟩
    have e : k ≠ N := by omega
    rw [K.add_ne _ _ e, Mem.set_ne _ _ e]
    refine ⟨(hM k (by omega)).1, ?_⟩
    unfold Mem.del; split
    · rfl
    · exact (hM k (by omega)).2
  · intro c hc hnb
    exact heap c hc fun e => hnb ⟨n, l, hl, hm, e.symm⟩
  · rintro c hc ⟨k, l2, h1, h2, h3⟩
    by_cases e : k = N
    · subst e; rw [K.add_same] at h1; cases h1
      exact ⟨n, l, hl, hm, by rw [← hblk]; exact h3⟩
    · rw [K.add_ne _ _ e] at h1
      rw [Mem.set_ne _ _ e] at h2
      exact ⟨k, l2, h1, (Mem.del_sub m n).live h2, h3⟩

theorem rels_append {a b : List AV} {ca cb : Array Value} (ha : Rels κ a ca) (hb : Rels κ b cb) : Rels κ (a ++ b) (ca ++ cb) := by
  refine ⟨by simp [ha.1, hb.1], fun i h h' => ?_⟩
  have e : a.length = ca.size := ha.1
  by_cases hi : i < a.length
  · rw [List.getElem_append_left hi, Array.getElem_append_left (by omega)]
    exact ha.2 _ _ _
  · rw [List.getElem_append_right (by omega), Array.getElem_append_right (by omega)]
    have := hb.2 (i - a.length) (by simp at h; omega) (by simp at h'; omega)
    simpa [e] using this

/-- A new row behind append. -/
theorem append_fresh (hs : Sim P κ m w) {e : TypeId} {j : TI} {z : List AV} {t xt ty : TypeId} (hT : AppT P t xt e j z) {base : Option Addr} {sLen sCap : Nat} {cx : Value} {k : Nat} {src old : List AV} {news olds : Array Value}
    (hsrc : AppSrc P κ w xt e j cx k src news) (hold : (Builtin.firstCells j.size sLen (.slice base sLen sCap)).run P w.drew = .ok olds w.drew) (ho : Rels κ old olds) (hol : old.length = sLen * j.size)
    (hroom : sCap < sLen + k) (hsz : (sLen + k) * j.bytes ≤ 140737488355328) {N : Nat} (hN : m N = none) (hrN : κ.rho N = none) :
    ∃ cv w' κ', (Builtin.append_ #[t, xt] ty #[.slice base sLen sCap, cx]).run P w = .ok cv w' ∧ Step P κ m w κ' (m.set N (.cells true e (old ++ src))) w' ∧ Rel κ' (.sl N 0 (sLen + k) (sLen + k)) cv := by
  obtain ⟨cap, rest, g1, g2, g3⟩ := run_append_new (ty := ty) hT hsrc hold hroom hsz
  have hcell : P.cellsOf e = j.size := cellsOf_ti hT.elem
  have hst := new_cells (w' := w.drew.alloc (.cells (olds ++ news ++ rest) e)) hs hN hrN (opn := true) (t := e) (cs := old ++ src) (rels_append ho hsrc.rels) (cap - (sLen + k)) rest (fun h => by cases h) (by rw [hcell]; exact g2)
    (fz := (0, 0)) (fun i _ => by simp) ((But.drew w _).trans (But.alloc _ _ _)) (heap_alloc_new' w.drew _)
  refine ⟨_, _, _, g3, hst, ?_⟩
  refine .sl (K.add_same ..) (.inr ⟨?_, ?_⟩) (Nat.le_refl _) (.inr ⟨rfl, rfl⟩)
  · simp only [List.length_append, hol, hsrc.len, hcell]
    rw [Nat.add_mul]; omega
  · simp only; omega

def AppK (P : Program) (t xt : TypeId) (s x : AV) (m : Mem) (K : AV → Mem → Prop) : Prop :=
  ∃ e j z k src, AppT P t xt e j z ∧ srcB P m xt j z x = some (k, src) ∧
  ((∃ n off len bt cs, s = .sl n off len len ∧ m n = some (.cells true bt cs) ∧ P.cellsOf bt = j.size ∧ off + len * j.size = cs.length ∧ (len + k) * j.bytes ≤ 140737488355328 ∧
      ∀ N, m N = none → K (.sl N 0 (len + k) (len + k)) ((m.del n).set N (.cells true e (cs.drop off ++ src)))) ∨
   ((s = .val (.slice none 0 0) ∨ s = .vs [] true) ∧ k * j.bytes ≤ 140737488355328 ∧ ∀ N, m N = none → K (.sl N 0 k k) (m.set N (.cells true e src))) ∨
   (∃ es, s = .vs es true ∧ 0 < k ∧ (∀ e ∈ es, e.length = j.size) ∧ (es.length + k) * j.bytes ≤ 140737488355328 ∧ ∀ N, m N = none → K (.sl N 0 (es.length + k) (es.length + k)) (m.set N (.cells true e (es.flatten ++ src)))) ∨
   (∃ n off len cap opn bt cs, s = .sl n off len cap ∧ m n = some (.cells opn bt cs) ∧ len + k ≤ cap ∧ off + (len + k) * j.size ≤ cs.length ∧
      K (.sl n off (len + k) cap) (m.set n (.cells opn bt (setRange cs (off + len * j.size) src)))) ∨
   (∃ n off len cap bt cs, s = .sl n off len cap ∧ m n = some (.cells false bt cs) ∧ cap < len + k ∧ off + len * j.size ≤ cs.length ∧ (len + k) * j.bytes ≤ 140737488355328 ∧
      ∀ N, m N = none → K (.sl N 0 (len + k) (len + k)) (m.set N (.cells true e ((cs.drop off).take (len * j.size) ++ src)))))

/-- The cells of an own slice, read in a later world. -/
theorem own_first (hs : Sim P κ m w) {n off len cap : Nat} {opn : Bool} {bt : TypeId} {cs : List AV} (hm : m n = some (.cells opn bt cs)) {s : Nat} (hfit : off + len * s ≤ cs.length) {cv : Value} (hx : Rel κ (.sl n off len cap) cv) :
    ∃ base cap', cv = .slice base len cap' ∧ ∃ olds, Rels κ ((cs.drop off).take (len * s)) olds ∧ ∀ w', Ext w w' → (Builtin.firstCells s len (.slice base len cap')).run P w' = .ok olds w' := by
  have hlen : ((cs.drop off).take (len * s)).length = len * s := by simp; omega
  cases hx with
  | snil => exact ⟨none, 0, rfl, #[], ⟨by simp, fun i h => by simp at h⟩, fun w' _ => rfl⟩
  | szero => exact ⟨_, 0, rfl, #[], ⟨by simp, fun i h => by simp at h⟩, fun w' _ => by simp [Builtin.firstCells, loadCells, loadCellsFrom]⟩
  | @sl _ _ _ _ cap' c' o' l q1 q2 q3 q4 =>
    refine ⟨_, cap', rfl, ?_⟩
    rcases hs.blk n _ hm with ⟨l', e1, e2, _⟩ | ⟨e1, _⟩
    · rw [q1] at e1; cases e1
      obtain ⟨arr, t', fz, z1, z2, z3, z4, z5, z6, z7⟩ := e2
      refine ⟨Array.ofFn fun q : Fin (len * s) => (arr[l.base + (off + q)]?).getD (.bool false), ⟨by simp [hlen], fun q h1 h2 => ?_⟩, fun w' hw => ?_⟩
      · rw [hlen] at h1
        obtain ⟨cv, y1, y2⟩ := z7 (off + q) (by omega)
        simp only [List.getElem_take, List.getElem_drop, Array.getElem_ofFn, y1, Option.getD_some]
        exact y2
      · simp only [Builtin.firstCells]
        rcases Nat.eq_zero_or_pos len with h0 | h0
        · subst h0; simp [loadCells, loadCellsFrom]
        · have ha : c' = l.blk ∧ o' = l.base + off := by
            rcases q4 with q4 | q4
            · rcases q2 with q2 | q2 <;> omega
            · exact q4
          obtain ⟨rfl, rfl⟩ := ha
          refine run_loadCells' (fun q => (arr[l.base + (off + q)]?).getD (.bool false)) (len * s) (fun q hq => hw.cell ?_)
          obtain ⟨cv, y1, y2⟩ := z7 (off + q) (by omega)
          simp only [World.cell?, z1, Nat.add_assoc, y1, Option.getD_some]
          rfl
    · rw [q1] at e1; cases e1

theorem news_one {s : Nat} {cx : Value} {k : Nat} {cs : List AV} {news : Array Value} (h : SrcOK P κ w s cx k cs news) : ∀ u ∈ news.toList, u.oneCell' = true := by
  intro u hu
  obtain ⟨i, hi, rfl⟩ := List.getElem_of_mem hu
  simp only [Array.length_toList] at hi
  have hi' : i < cs.length := by rw [h.rels.1]; exact hi
  exact ((h.rels.2 i hi' hi).one (List.all_eq_true.1 h.one _ (List.getElem_mem _))).1

theorem AppSrc.news_one {xt e : TypeId} {j : TI} {cx : Value} {k : Nat} {cs : List AV} {news : Array Value} (h : AppSrc P κ w xt e j cx k cs news) : ∀ u ∈ news.toList, u.oneCell' = true := by
  intro u hu
  obtain ⟨i, hi, rfl⟩ := List.getElem_of_mem hu
  simp only [Array.length_toList] at hi
  have hi' : i < cs.length := by rw [h.rels.1]; exact hi
  exact ((h.rels.2 i hi' hi).one (List.all_eq_true.1 h.one _ (List.getElem_mem _))).1

theorem appK_sound (hs : Sim P κ m w) {t xt ty : TypeId} {s x : AV} {K' : AV → Mem → Prop} (h : AppK P t xt s x m K') {cs cx : Value} (hcs : Rel κ s cs) (hcx : Rel κ x cx) :
    ∃ cv r m' κ' w', (Builtin.append_ #[t, xt] ty #[cs, cx]).run P w = .ok cv w' ∧ K' r m' ∧ Step P κ m w κ' m' w' ∧ Rel κ' r cv := by
  obtain ⟨e, j, z, k, src, hT, hsrcA, h⟩ := h
  obtain ⟨news, hsrc⟩ := srcB_sound hs hT hsrcA hcx
  obtain ⟨N, hrN, hN⟩ := hs.fresh
  have hcell : P.cellsOf e = j.size := cellsOf_ti hT.elem
  have nilish : ∀ (base : Option Addr), (∀ n off, Rel κ (.sl n off 0 0) (.slice base 0 0)) → k * j.bytes ≤ 140737488355328 →
      ∃ cv κ' w', (Builtin.append_ #[t, xt] ty #[.slice base 0 0, cx]).run P w = .ok cv w' ∧ Step P κ m w κ' (m.set N (.cells true e src)) w' ∧ Rel κ' (.sl N 0 k k) cv := by
    intro base hrel hsz
    rcases Nat.eq_zero_or_pos k with h0 | h0
    · subst h0
      have hl : src = [] := List.eq_nil_of_length_eq_zero (by rw [hsrc.len]; simp)
      subst hl
      have hn : news.toList = [] := List.eq_nil_of_length_eq_zero (by simp [← hsrc.rels.1])
      refine ⟨.slice base 0 0, κ.ghost N, w, ?_, Step.empty hs hN hrN e, (hrel N 0).mono (K.le_ghost hrN)⟩
      rw [run_append_in hT hsrc (by omega), hn]
      cases base <;> simp [storeCells]
    · obtain ⟨cv, w', κ', g1, g2, g3⟩ := append_fresh (ty := ty) (base := base) (sLen := 0) (sCap := 0) (old := []) (olds := #[]) hs hT hsrc (by cases base <;> simp [Builtin.firstCells, loadCells, loadCellsFrom]) ⟨rfl, fun i h => by simp at h⟩ (by simp) (by omega) (by simpa using hsz) hN hrN
      rw [Nat.zero_add] at g3
      exact ⟨cv, κ', w', g1, by simpa using g2, g3⟩
  rcases h with ⟨n, off, len, bt, bcs, rfl, hm, hbt, htip, hsz, hK⟩ | ⟨hnil, hsz, hK⟩ | ⟨es, rfl, hk, hes, hsz, hK⟩ | ⟨n, off, len, cap, opn, bt, bcs, rfl, hm, hroom, hfit, hK⟩ | ⟨n, off, len, cap, bt, bcs, rfl, hm, hroom, hfit, hsz, hK⟩
  · -- the tip of an open row
    have hdel : (m.del n).sub m := Mem.del_sub m n
    have hsub : ((m.del n).set N (.cells true e (bcs.drop off ++ src))).sub (m.set N (.cells true e (bcs.drop off ++ src))) := by
      intro q b hq
      by_cases eq : q = N
      · subst eq; rw [Mem.set_same] at hq ⊢; exact hq
      · rw [Mem.set_ne _ _ eq] at hq ⊢; exact hdel q b hq
    have hold0 : len = 0 → bcs.drop off = [] := fun h0 => by subst h0; simp at htip; simp [htip]
    have small : ∀ base, len = 0 → (∀ n off, Rel κ (.sl n off 0 0) (.slice base 0 0)) → cs = .slice base 0 0 → ∃ cv r m' κ' w', (Builtin.append_ #[t, xt] ty #[cs, cx]).run P w = .ok cv w' ∧ K' r m' ∧ Step P κ m w κ' m' w' ∧ Rel κ' r cv := by
      intro base h0 hrel hcv
      subst h0
      obtain ⟨cv, κ', w', g1, g2, g3⟩ := nilish base hrel (by simpa using hsz)
      refine ⟨cv, _, _, κ', w', by rw [hcv]; exact g1, hK N hN, ?_, by simpa using g3⟩
      have : Step P κ m w κ' (m.set N (.cells true e (bcs.drop off ++ src))) w' := by rw [hold0 rfl]; exact g2
      exact this.sub hsub
    have hcs2 := hcs
    cases hcs with
    | snil => exact small none rfl (fun _ _ => .snil) rfl
    | szero => exact small _ rfl (fun _ _ => .szero) rfl
    | @sl _ _ _ _ cap' c' o' l q1 q2 q3 q4 =>
      by_cases hc0 : cap' = 0
      · have : len = 0 := by rcases q2 with q2 | q2 <;> omega
        subst hc0
        exact small _ this (fun _ _ => .szero) (by rw [this])
      · obtain ⟨rfl, rfl⟩ := q4.resolve_left hc0
        rcases hs.blk n _ hm with ⟨l', e1, e2, e3⟩ | ⟨e1, _⟩
        · rw [q1] at e1; cases e1
          have e2' := e2
          obtain ⟨arr, t', fz, z1, z2, z3, z4, z5, z6, z7⟩ := e2
          have hls : l.size = j.size := (z6 rfl).trans hbt
          by_cases hroom : len + k ≤ cap'
          · -- within the capacity
            have hcap : cap' ≤ len + l.ext := by rcases q2 with q2 | q2 <;> omega
            have hnl : news.toList.length = k * j.size := by simp [← hsrc.rels.1, hsrc.len]
            have hmul : (len + l.ext) * j.size = len * j.size + l.ext * j.size := Nat.add_mul ..
            have hmul2 : (len + k) * j.size = len * j.size + k * j.size := Nat.add_mul ..
            have hmul3 : (len + k) * j.size ≤ (len + l.ext) * j.size := Nat.mul_le_mul_right _ (by omega)
            rw [hls] at z4
            obtain ⟨w', g1, g2, g3⟩ := run_storeCells' P l.blk t' fz (l.base + off + len * j.size) news.toList 0 arr w z1 (fun k hk => z2 k (Nat.le_of_lt hk)) (by rw [hnl]; omega) hsrc.news_one
            refine ⟨.slice (some ⟨l.blk, l.base + off, none⟩) (len + k) cap', _, _, κ.add N ⟨l.blk, l.base + off, j.size, (len + k) * j.size, cap' - (len + k)⟩, w', ?_, hK N hN, ?_, ?_⟩
            · rw [run_append_in hT hsrc hroom]
              simp only [addr_plain]
              rw [g1]; rfl
            · refine Step.move (l' := ⟨l.blk, l.base + off, j.size, (len + k) * j.size, cap' - (len + k)⟩) hs (by rw [hm]; simp) q1 e3 hN hrN rfl g3 _ ?_
              refine ⟨_, t', fz, g2, ?_, ?_, ?_, fun h => by simp at h, fun _ => hcell.symm, ?_⟩
              · rw [overwrite_size]; exact z2
              · simp only [List.length_append, List.length_drop, hsrc.len]; omega
              · rw [overwrite_size]
                simp only
                have : (len + k) * j.size + (cap' - (len + k)) * j.size = cap' * j.size := by rw [← Nat.add_mul]; congr 1; omega
                have h2 : cap' * j.size ≤ (len + l.ext) * j.size := Nat.mul_le_mul_right _ hcap
                omega
              · intro i hi
                simp only [List.length_append, List.length_drop, hsrc.len] at hi
                have e := overwrite_get news.toList arr (l.base + off + len * j.size + 0) (by rw [hnl]; omega) (l.base + off + i)
                rw [hnl] at e
                by_cases hc : i < len * j.size
                · rw [if_neg (by omega)] at e
                  obtain ⟨cv, y1, y2⟩ := z7 (off + i) (by omega)
                  refine ⟨cv, by rw [← Nat.add_assoc] at y1; exact e.trans y1, ?_⟩
                  rw [List.getElem_append_left (by simp; omega)]
                  simp only [List.getElem_drop]
                  exact y2.mono (K.le_add hrN)
                · rw [if_pos (by omega)] at e
                  have i1 : i - len * j.size < src.length := by rw [hsrc.len]; omega
                  have i2 : i - len * j.size < news.size := by rw [← hsrc.rels.1]; exact i1
                  have i3 : l.base + off + i - (l.base + off + len * j.size + 0) = i - len * j.size := by omega
                  rw [i3, Array.getElem?_toList, Array.getElem?_eq_getElem i2] at e
                  refine ⟨_, e, ?_⟩
                  rw [List.getElem_append_right (by simp; omega)]
                  have i4 : i - (bcs.drop off).length = i - len * j.size := by simp; omega
                  simp only [i4]
                  exact (hsrc.rels.2 _ i1 i2).mono (K.le_add hrN)
            · exact .sl (K.add_same ..) (.inr ⟨by simp, by simp only; omega⟩) (Nat.le_refl _) (.inr ⟨rfl, rfl⟩)
          · obtain ⟨base, cap2, hcv, olds, ho1, ho2⟩ := own_first (s := j.size) hs hm (by omega) hcs2
            cases hcv
            have hdr : (bcs.drop off).take (len * j.size) = bcs.drop off := List.take_of_length_le (by simp; omega)
            rw [hdr] at ho1
            obtain ⟨cv, w', κ', g1, g2, g3⟩ := append_fresh (ty := ty) hs hT hsrc (ho2 w.drew (fun _ _ => rfl)) ho1 (by simp; omega) (by omega) hsz hN hrN
            exact ⟨cv, _, _, κ', w', g1, hK N hN, g2.sub hsub, g3⟩
        · rw [q1] at e1; cases e1
  · rcases hnil with rfl | rfl
    · obtain ⟨rfl, _⟩ := hcs.val_inv
      obtain ⟨cv, κ', w', g1, g2, g3⟩ := nilish none (fun _ _ => .snil) hsz
      exact ⟨cv, _, _, κ', w', g1, hK N hN, g2, g3⟩
    · cases hcs with
      | vnil =>
        obtain ⟨cv, κ', w', g1, g2, g3⟩ := nilish none (fun _ _ => .snil) hsz
        exact ⟨cv, _, _, κ', w', g1, hK N hN, g2, g3⟩
      | vz =>
        obtain ⟨cv, κ', w', g1, g2, g3⟩ := nilish _ (fun _ _ => .szero) hsz
        exact ⟨cv, _, _, κ', w', g1, hK N hN, g2, g3⟩
      | vs f q1 q2 q3 q4 q5 =>
        have : _ = 0 := q3 rfl
        subst this
        obtain ⟨cv, κ', w', g1, g2, g3⟩ := nilish _ (fun _ _ => .szero) hsz
        exact ⟨cv, _, _, κ', w', g1, hK N hN, g2, g3⟩
  · cases hcs with
    | vnil =>
      obtain ⟨cv, κ', w', g1, g2, g3⟩ := nilish none (fun _ _ => .snil) (by simpa using hsz)
      exact ⟨cv, _, _, κ', w', g1, hK N hN, by simpa using g2, by simpa using g3⟩
    | vz =>
      obtain ⟨cv, κ', w', g1, g2, g3⟩ := nilish _ (fun _ _ => .szero) (by simpa using hsz)
      exact ⟨cv, _, _, κ', w', g1, hK N hN, by simpa using g2, by simpa using g3⟩
    | @vs _ _ c o s cap f q1 q2 q3 q4 q5 =>
      have hcapeq : cap = es.length := q3 rfl
      obtain ⟨r1, r2⟩ := flatten_rels (κ := κ) hes f q5
      have hold : (Builtin.firstCells j.size es.length (.slice (some ⟨c, o, none⟩) es.length cap)).run P w.drew = .ok (Array.ofFn fun q : Fin (es.length * j.size) => f (q / j.size) (q % j.size)) w.drew := by
        simp only [Builtin.firstCells]
        refine run_loadCells' (fun q => f (q / j.size) (q % j.size)) (es.length * j.size) (fun q hq => ?_)
        have hi1 : q / j.size < es.length := by rw [Nat.div_lt_iff_lt_mul hT.pos]; exact hq
        have hs' : j.size = s := by rw [← hes _ (List.getElem_mem hi1), q1 _ (List.getElem_mem hi1)]
        have := q4 (q / j.size) (q % j.size) hi1 (by rw [← hs']; exact Nat.mod_lt _ hT.pos)
        rw [← hs', Nat.mul_comm (q / j.size) j.size, Nat.div_add_mod] at this
        exact hs.prot _ _ _ this
      obtain ⟨cv, w', κ', g1, g2, g3⟩ := append_fresh (ty := ty) (old := es.flatten) hs hT hsrc hold ⟨by simp [r1], fun q h1 h2 => by simpa using r2 q h1⟩ r1 (by omega) hsz hN hrN
      exact ⟨cv, _, _, κ', w', g1, hK N hN, g2, g3⟩
  · -- within the capacity that is known
    have run : ∀ base cap', cs = .slice base len cap' → len + k ≤ cap' → (k = 0 ∨ ∃ l, κ.rho n = some (some l) ∧ base = some ⟨l.blk, l.base + off, none⟩) → Rel κ (.sl n off (len + k) cap) (.slice base (len + k) cap') → ∃ cv r m' κ' w', (Builtin.append_ #[t, xt] ty #[cs, cx]).run P w = .ok cv w' ∧ K' r m' ∧ Step P κ m w κ' m' w' ∧ Rel κ' r cv := by
      intro base cap' hcv hr hb hrel
      rw [hcv, run_append_in hT hsrc hr]
      rcases hb with h0 | ⟨l, hl, hb⟩
      · subst h0
        have hl : src = [] := List.eq_nil_of_length_eq_zero (by rw [hsrc.len]; simp)
        subst hl
        have hn : news.toList = [] := List.eq_nil_of_length_eq_zero (by simp [← hsrc.rels.1])
        have hset : setRange bcs (off + len * j.size) [] = bcs := by simp [setRange]
        have hmm : m.set n (.cells opn bt (setRange bcs (off + len * j.size) [])) = m := by
          rw [hset]; funext q; unfold Mem.set; split
          · rename_i eq; rw [eq, hm]
          · rfl
        refine ⟨.slice base (len + 0) cap', _, _, κ, w, ?_, hK, by rw [hmm]; exact Step.refl hs, hrel⟩
        rw [hn]
        cases base <;> simp [storeCells]
      · subst hb
        have hmul2 : (len + k) * j.size = len * j.size + k * j.size := Nat.add_mul ..
        obtain ⟨w', g1, g2⟩ := store_cells hs hm hl (off := off + len * j.size) (vs := src) (by rw [hsrc.len]; omega) hsrc.rels hsrc.news_one
        refine ⟨_, _, _, κ, w', ?_, hK, g2, hrel⟩
        simp only [addr_plain]
        rw [Nat.add_assoc, g1]; rfl
    cases hcs with
    | snil => exact run none 0 rfl (by omega) (.inl (by omega)) (by have : k = 0 := by omega
                                                                    subst this; exact .snil)
    | szero => exact run _ 0 rfl (by omega) (.inl (by omega)) (by have : k = 0 := by omega
                                                                  subst this; exact .szero)
    | @sl _ _ _ _ cap' c' o' l q1 q2 q3 q4 =>
      have hcc : cap ≤ cap' := by rcases q2 with q2 | q2 <;> omega
      refine run _ cap' rfl (by omega) ?_ (.sl q1 q2 hroom q4)
      rcases q4 with q4 | ⟨rfl, rfl⟩
      · exact .inl (by omega)
      · exact .inr ⟨l, q1, rfl⟩
  · -- a closed row that is full
    obtain ⟨base, cap2, hcv, olds, ho1, ho2⟩ := own_first (s := j.size) hs hm hfit hcs
    have hcap2 : cap2 < len + k := by
      cases hcs with
      | snil => cases hcv; omega
      | szero => cases hcv; omega
      | @sl _ _ _ _ cap' c' o' l q1 q2 q3 q4 =>
        cases hcv
        rcases hs.blk n _ hm with ⟨l', e1, e2, _⟩ | ⟨e1, _⟩
        · rw [q1] at e1; cases e1
          obtain ⟨arr, t', fz, z1, z2, z3, z4, z5, z6, z7⟩ := e2
          have := z5 rfl
          rcases q2 with q2 | q2 <;> omega
        · rw [q1] at e1; cases e1
    subst hcv
    obtain ⟨cv, w', κ', g1, g2, g3⟩ := append_fresh (ty := ty) hs hT hsrc (ho2 w.drew (fun _ _ => rfl)) ho1 (by simp; omega) hcap2 hsz hN hrN
    exact ⟨cv, _, _, κ', w', g1, hK N hN, g2, g3⟩
end Go.Abs
