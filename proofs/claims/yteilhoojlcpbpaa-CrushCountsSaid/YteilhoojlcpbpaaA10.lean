/- The abstract layer, tenth part: append. -/
import Derived.Test.YteilhoojlcpbpaaA9
set_option linter.unusedVariables false
set_option linter.unusedSimpArgs false
namespace Go.Abs
variable {P : Program} {κ : K} {m : Mem} {w : World}

/-! ### What is appended -/
/-- How many elements, and their cells. -/
def srcA (P : Program) (m : Mem) (xt : TypeId) (s : Nat) (x : AV) : Option (Nat × List AV) :=
  match ti P xt with
  | some i => match i.desc, x with
    | .slice _, .vs es _ => if ∀ e ∈ es, e.length = s ∧ e.all AV.one = true then some (es.length, es.flatten) else none
    | .slice _, .val (.slice none 0 0) => some (0, [])
    | .slice _, .sl n off len _ => match m n with
      | some (.cells _ _ cs) => if off + len * s ≤ cs.length ∧ ((cs.drop off).take (len * s)).all AV.one = true then some (len, (cs.drop off).take (len * s)) else none
      | _ => none
    | .string, .val (.string b) => if s = 1 then some (b.size, b.data.toList.map fun c => .val (.int .u8 c.toNat)) else none
    | _, _ => none
  | none => none

/-- The source reads so in every later world. -/
structure SrcOK (P : Program) (κ : K) (w : World) (s : Nat) (cx : Value) (k : Nat) (cs : List AV) (news : Array Value) : Prop where
  len : cs.length = k * s
  one : cs.all AV.one = true
  rels : Rels κ cs news
  lenOf : ∀ w', (Builtin.lenOf cx).run P w' = .ok k w'
  first : ∀ w', Ext w w' → (Builtin.firstCells s k cx).run P w' = .ok news w'

theorem flatten_rels {es : List (List AV)} {s : Nat} (hl : ∀ e ∈ es, e.length = s) (f : Nat → Nat → Value) (hr : ∀ i (hi : i < es.length) j (hj : j < es[i].length), Rel κ es[i][j] (f i j)) :
    es.flatten.length = es.length * s ∧ ∀ q (h : q < es.flatten.length), Rel κ es.flatten[q] (f (q / s) (q % s)) := by
  induction es generalizing f with
  | nil => exact ⟨by simp, fun q h => by simp at h⟩
  | cons e es ih =>
    have he : e.length = s := hl e (by simp)
    obtain ⟨h1, h2⟩ := ih (fun x hx => hl x (by simp [hx])) (fun i j => f (i + 1) j) (fun i hi j hj => hr (i + 1) (by simpa using hi) j (by simpa using hj))
    refine ⟨by simp only [List.flatten_cons, List.length_append, h1, he, List.length_cons]; rw [Nat.add_mul]; omega, fun q h => ?_⟩
    by_cases hq : q < s
    · simp only [List.flatten_cons]
      rw [List.getElem_append_left (by omega), Nat.div_eq_of_lt hq, Nat.mod_eq_of_lt hq]
      exact hr 0 (by simp) q (by simpa [he] using hq)
    · have hs : 0 < s := by
        rcases Nat.eq_zero_or_pos s with h0 | h0
        · subst h0
          simp only [List.flatten_cons, List.length_append, h1, he, Nat.mul_zero] at h; omega
        · exact h0
      simp only [List.flatten_cons, List.length_append, h1, he] at h
      have := h2 (q - s) (by omega)
      simp only [List.flatten_cons]
      rw [List.getElem_append_right (by omega)]
      have e1 : q / s = (q - s) / s + 1 := by rw [Nat.div_eq_sub_div hs (by omega)]
      have e2 : q % s = (q - s) % s := (Nat.mod_eq_sub_mod (by omega))
      rw [e1, e2]
      have e3 : q - e.length = q - s := by rw [he]
      simp only [e3]
      exact this

theorem srcA_sound (hs : Sim P κ m w) {xt : TypeId} {s : Nat} {x : AV} {k : Nat} {cs : List AV} (h : srcA P m xt s x = some (k, cs)) {cx : Value} (hx : Rel κ x cx) : ∃ news, SrcOK P κ w s cx k cs news := by
  unfold srcA at h
  split at h
  · rename_i i hi
    split at h
    · rename_i e es ex hd
      split at h
      · rename_i hall
        cases h
        cases hx with
        | vnil => exact ⟨#[], by simp, rfl, ⟨rfl, fun i h => by simp at h⟩, fun w' => rfl, fun w' _ => rfl⟩
        | vz => exact ⟨#[], by simp, by simp, ⟨by simp, fun i h => by simp at h⟩, fun w' => rfl, fun w' _ => by simp [Builtin.firstCells, loadCells, loadCellsFrom]⟩
        | @vs _ _ c o s' cap f q1 q2 q3 q4 q5 =>
          have hss : ∀ e ∈ es, e.length = s := fun e he => (hall e he).1
          obtain ⟨g1, g2⟩ := flatten_rels (κ := κ) hss f q5
          refine ⟨Array.ofFn fun q : Fin (es.length * s) => f (q / s) (q % s), g1, ?_, ⟨by simp [g1], fun q h1 h2 => by simpa using g2 q h1⟩, fun w' => rfl, fun w' hw => ?_⟩
          · rw [List.all_eq_true]
            intro x hx
            obtain ⟨e, he, hxe⟩ := List.mem_flatten.1 hx
            exact List.all_eq_true.1 (hall e he).2 x hxe
          · simp only [Builtin.firstCells]
            refine run_loadCells' (fun q => f (q / s) (q % s)) (es.length * s) (fun q hq => hw.cell (hs.prot _ _ _ ?_))
            have hs0 : 0 < s := by
              rcases Nat.eq_zero_or_pos s with h0 | h0
              · subst h0; omega
              · exact h0
            have hi1 : q / s < es.length := by rw [Nat.div_lt_iff_lt_mul hs0]; exact hq
            have hs' : s = s' := by rw [← hss _ (List.getElem_mem hi1), q1 _ (List.getElem_mem hi1)]
            have := q4 (q / s) (q % s) hi1 (by rw [← hs']; exact Nat.mod_lt _ hs0)
            rw [← hs', Nat.mul_comm (q / s) s, Nat.div_add_mod] at this
            exact this
      · cases h
    · cases h
      obtain ⟨rfl, _⟩ := hx.val_inv
      exact ⟨#[], by simp, rfl, ⟨rfl, fun i h => by simp at h⟩, fun w' => rfl, fun w' _ => rfl⟩
    · rename_i e n off len cap hd
      split at h
      · rename_i opn bt bcs hm
        split at h
        · rename_i hfit
          cases h
          have zero : k = 0 ∨ 0 < k := Nat.eq_zero_or_pos k
          cases hx with
          | snil => exact ⟨#[], by simp, by simp, ⟨by simp, fun i h => by simp at h⟩, fun w' => rfl, fun w' _ => rfl⟩
          | szero => exact ⟨#[], by simp, by simp, ⟨by simp, fun i h => by simp at h⟩, fun w' => rfl, fun w' _ => by simp [Builtin.firstCells, loadCells, loadCellsFrom]⟩
          | @sl _ _ _ _ cap' c' o' l q1 q2 q3 q4 =>
            rcases hs.blk n _ hm with ⟨l', e1, e2, _⟩ | ⟨e1, _⟩
            · rw [q1] at e1; cases e1
              obtain ⟨arr, t', fz, z1, z2, z3, z4, z5, z6, z7⟩ := e2
              have hlen : ((bcs.drop off).take (k * s)).length = k * s := by simp; omega
              refine ⟨Array.ofFn fun q : Fin (k * s) => (arr[l.base + (off + q)]?).getD (.bool false), hlen, hfit.2, ⟨by simp [hlen], fun q h1 h2 => ?_⟩, fun w' => rfl, fun w' hw => ?_⟩
              · rw [hlen] at h1
                obtain ⟨cv, y1, y2⟩ := z7 (off + q) (by omega)
                simp only [List.getElem_take, List.getElem_drop, Array.getElem_ofFn, y1, Option.getD_some]
                exact y2
              · simp only [Builtin.firstCells]
                rcases zero with h0 | h0
                · subst h0; simp [loadCells, loadCellsFrom]
                · have ha : c' = l.blk ∧ o' = l.base + off := by
                    rcases q4 with q4 | q4
                    · rcases q2 with q2 | q2 <;> omega
                    · exact q4
                  obtain ⟨rfl, rfl⟩ := ha
                  refine run_loadCells' (fun q => (arr[l.base + (off + q)]?).getD (.bool false)) (k * s) (fun q hq => hw.cell ?_)
                  obtain ⟨cv, y1, y2⟩ := z7 (off + q) (by omega)
                  simp only [World.cell?, z1, Nat.add_assoc, y1, Option.getD_some]
                  rfl
            · rw [q1] at e1; cases e1
        · cases h
      · cases h
    · rename_i b hd
      split at h
      · rename_i hs1
        cases h
        subst hs1
        obtain ⟨rfl, _⟩ := hx.val_inv
        refine ⟨b.data.map fun c => .int .u8 c.toNat, by simp, ?_, ⟨by simp, fun i h1 h2 => ?_⟩, fun w' => rfl, fun w' _ => ?_⟩
        · rw [List.all_eq_true]
          intro x hx
          obtain ⟨c, _, rfl⟩ := List.mem_map.1 hx
          rfl
        · simp only [List.getElem_map, Array.getElem_map, Array.getElem_toList]
          exact .val rfl
        · have : (b.extract 0 b.size) = b := by
            simp
          simp only [Builtin.firstCells, this, Sem.run_pure]
      · cases h
    · cases h
  · cases h

/-! ### append's own steps -/
structure AppT (P : Program) (t xt e : TypeId) (j : TI) (z : List AV) : Prop where
  desc : ∃ i, ti P t = some i ∧ i.desc = .slice e
  src : ∃ i, ti P xt = some i ∧ ((∃ e, i.desc = .slice e) ∨ i.desc = .string ∨ ∃ k, i.desc = .int k)
  elem : ti P e = some j
  zero : zeroA P e = some z
  zlen : z.length = j.size
  pos : 0 < j.size
  bpos : 0 < j.bytes

/-- What is appended: elements that are read, or so many zeros. -/
structure AppSrc (P : Program) (κ : K) (w : World) (xt e : TypeId) (j : TI) (cx : Value) (k : Nat) (cs : List AV) (news : Array Value) : Prop where
  len : cs.length = k * j.size
  one : cs.all AV.one = true
  rels : Rels κ cs news
  how : ((∃ i, ti P xt = some i ∧ ((∃ e, i.desc = .slice e) ∨ i.desc = .string)) ∧ (∀ w', (Builtin.lenOf cx).run P w' = .ok k w') ∧ (∀ w', Ext w w' → (Builtin.firstCells j.size k cx).run P w' = .ok news w')) ∨
    ((∃ i kk, ti P xt = some i ∧ i.desc = .int kk) ∧ (∃ kk, cx = .int kk k) ∧ k * j.bytes ≤ 281474976710656 ∧ k ≤ 9223372036854775807 ∧ ∃ zv, (∀ w, (zeroValue e).run P w = .ok zv w) ∧ news = Builtin.zeroCells zv.cells k)
theorem SrcOK.app {xt e : TypeId} {j : TI} {cx : Value} {k : Nat} {cs : List AV} {news : Array Value} (h : SrcOK P κ w j.size cx k cs news) (hx : ∃ i, ti P xt = some i ∧ ((∃ e, i.desc = .slice e) ∨ i.desc = .string)) : AppSrc P κ w xt e j cx k cs news :=
  ⟨h.len, h.one, h.rels, .inl ⟨hx, h.lenOf, h.first⟩⟩
/-- How many elements, and their cells: zeros too. -/
def srcB (P : Program) (m : Mem) (xt : TypeId) (j : TI) (z : List AV) (x : AV) : Option (Nat × List AV) :=
  match srcA P m xt j.size x with
  | some r => some r
  | none => match ti P xt, x with
    | some i, .val (.int _ q) => match i.desc with
      | .int _ => if 0 ≤ q ∧ q * j.bytes ≤ 281474976710656 ∧ q ≤ 9223372036854775807 ∧ z.all AV.one = true then some (q.toNat, (List.replicate q.toNat z).flatten) else none
      | _ => none
    | _, _ => none
theorem srcB_of {m : Mem} {xt : TypeId} {j : TI} {z : List AV} {x : AV} {r : Nat × List AV} (h : srcA P m xt j.size x = some r) : srcB P m xt j z x = some r := by simp only [srcB, h]
theorem srcB_zeros {m : Mem} {xt : TypeId} {j i : TI} {z : List AV} {kk k' : IntKind} {q : Int} (hi : ti P xt = some i) (hd : i.desc = .int k') (h0 : 0 ≤ q) (h1 : q * j.bytes ≤ 281474976710656) (h2 : q ≤ 9223372036854775807) (hz : z.all AV.one = true) :
    srcB P m xt j z (.val (.int kk q)) = some (q.toNat, (List.replicate q.toNat z).flatten) := by
  have : srcA P m xt j.size (.val (.int kk q)) = none := by simp only [srcA, hi, hd]
  simp only [srcB, this, hi, hd]
  rw [if_pos ⟨h0, h1, h2, hz⟩]
theorem srcB_sound (hs : Sim P κ m w) {t xt e : TypeId} {j : TI} {z : List AV} (hT : AppT P t xt e j z) {x : AV} {k : Nat} {cs : List AV} (h : srcB P m xt j z x = some (k, cs)) {cx : Value} (hx : Rel κ x cx) : ∃ news, AppSrc P κ w xt e j cx k cs news := by
  unfold srcB at h
  split at h
  · rename_i r hr
    cases h
    obtain ⟨news, hok⟩ := srcA_sound hs hr hx
    refine ⟨news, hok.app ?_⟩
    unfold srcA at hr
    split at hr
    · rename_i i hi
      split at hr
      · rename_i e' _ _ hd; exact ⟨i, hi, .inl ⟨_, hd⟩⟩
      · rename_i e' hd; exact ⟨i, hi, .inl ⟨_, hd⟩⟩
      · rename_i e' _ _ _ _ hd; exact ⟨i, hi, .inl ⟨_, hd⟩⟩
      · rename_i _ hd; exact ⟨i, hi, .inr hd⟩
      · cases hr
    · cases hr
  · split at h
    · rename_i i kk q hi hlast
      split at h
      · rename_i k' hd
        split at h
        · rename_i hc
          cases h
          obtain ⟨c1, c2, c3, c4⟩ := hc
          obtain ⟨rfl, _⟩ := hx.val_inv
          obtain ⟨zv, z1, z2, _⟩ := zeroA_sound (κ := κ) hT.zero
          have hr := rels_zeros z2 (by rw [hT.zlen]; exact hT.pos) q.toNat
          have hzc : Builtin.zeroCells zv.cells q.toNat = (Array.range (q.toNat * z.length)).map (zv.cells[· % zv.cells.size]!) := by
            simp only [Builtin.zeroCells, z2.1]
          have hq : (q.toNat : Int) = q := Int.toNat_of_nonneg c1
          refine ⟨Builtin.zeroCells zv.cells q.toNat, by simp [hT.zlen], ?_, by rw [hzc]; exact hr, .inr ⟨⟨i, k', hi, hd⟩, ⟨kk, by rw [hq]⟩, ?_, by omega, zv, z1, rfl⟩⟩
          · rw [List.all_eq_true] at *
            intro y hy
            obtain ⟨l, hl, hy⟩ := List.mem_flatten.1 hy
            rw [List.mem_replicate] at hl
            rw [hl.2] at hy
            exact c4 y hy
          · have : ((q.toNat * j.bytes : Nat) : Int) ≤ (281474976710656 : Nat) := by rw [Int.natCast_mul, hq]; exact c2
            exact Int.ofNat_le.1 this
        · cases h
      · cases h
    · cases h

theorem run_append_in {t xt ty e : TypeId} {j : TI} {z : List AV} (hT : AppT P t xt e j z) {base : Option Addr} {sLen sCap : Nat} {cx : Value} {k : Nat} {cs : List AV} {news : Array Value} (hsrc : AppSrc P κ w xt e j cx k cs news) (hroom : sLen + k ≤ sCap) :
    (Builtin.append_ #[t, xt] ty #[.slice base sLen sCap, cx]).run P w =
      (match base with | some a => (storeCells (a.add (sLen * j.size)) news.toList).run P w | none => .ok () w).andThen fun _ w' => .ok (.slice base (sLen + k) sCap) w' := by
  obtain ⟨i, hi, hd⟩ := hT.desc
  rcases hsrc.how with ⟨⟨i2, hi2, hd2⟩, hlen, hfirst⟩ | ⟨⟨i2, kk, hi2, hd2⟩, ⟨k2, rfl⟩, hb, hmax, zv, hz, rfl⟩
  · have hf := hfirst w (Ext.refl w)
    rcases hd2 with ⟨e2, hd2⟩ | hd2 <;> cases base <;>
      simp [Builtin.append_, run_underlying' hi, hd, run_sizeOf hT.elem, run_underlying' hi2, hd2, hlen, hroom, hf]
  · have hw : IntKind.i64.wrap (k : Int) = (k : Int) := IntWalk.i64_in _ (by omega)
    obtain ⟨_, i3, h31, h32, h33, h34⟩ := ti_spec hT.elem
    have h48 : ¬ (281474976710656 < (k : Int) * (i3.bytes : Int)) := by
      rw [h33]
      have : ((k * j.bytes : Nat) : Int) ≤ (281474976710656 : Nat) := Int.ofNat_le.2 hb
      rw [Int.natCast_mul] at this; omega
    have hneg : ¬ ((k : Int) < 0) := by omega
    by_cases hk0 : k = 0
    · subst hk0
      have hzc : (Builtin.zeroCells zv.cells 0) = #[] := by simp [Builtin.zeroCells]
      have hroom' : sLen ≤ sCap := by omega
      cases base <;>
        simp [Builtin.append_, run_underlying' hi, hd, run_sizeOf hT.elem, run_underlying' hi2, hd2, asInt, asIntOf, show IntKind.i64.wrap 0 = 0 from by decide, typeInfo, h31, hroom', hzc]
    · have hks : ¬ (k * j.size = 0) := Nat.mul_ne_zero hk0 (by have := hT.pos; omega)
      have hpos : ¬ (j.size = 0) := by have := hT.pos; omega
      cases base <;>
        simp [Builtin.append_, run_underlying' hi, hd, run_sizeOf hT.elem, run_underlying' hi2, hd2, asInt, asIntOf, hw, typeInfo, h31, hroom, h48, hneg, hk0, hpos, hks, hz]

theorem run_append_new {t xt ty e : TypeId} {j : TI} {z : List AV} (hT : AppT P t xt e j z) {base : Option Addr} {sLen sCap : Nat} {cx : Value} {k : Nat} {cs : List AV} {news olds : Array Value} (hsrc : AppSrc P κ w xt e j cx k cs news)
    (hold : (Builtin.firstCells j.size sLen (.slice base sLen sCap)).run P w.drew = .ok olds w.drew) (hroom : sCap < sLen + k) (hsz : (sLen + k) * j.bytes ≤ 140737488355328) :
    ∃ (cap : Nat) (rest : Array Value), sLen + k ≤ cap ∧ (cap - (sLen + k)) * j.size ≤ rest.size ∧
    (Builtin.append_ #[t, xt] ty #[.slice base sLen sCap, cx]).run P w = .ok (.slice (some ⟨w.heap.size, 0, none⟩) (sLen + k) cap) (w.drew.alloc (.cells (olds ++ news ++ rest) e)) := by
  obtain ⟨i, hi, hd⟩ := hT.desc
  obtain ⟨zv, z1, z2, _⟩ := zeroA_sound (κ := κ) hT.zero
  obtain ⟨_, i3, h31, h32, h33, h34⟩ := ti_spec hT.elem
  have hn : ¬ (sLen + k ≤ sCap) := by omega
  have hlen : sLen + k ≤ 140737488355328 := Nat.le_trans (Nat.le_mul_of_pos_right _ hT.bpos) hsz
  have h63 : ¬ (((sLen + k : Nat) : Int) > IntKind.i64.max) := by simp only [IntKind.max_i64]; omega
  have h63' : ¬ (9223372036854775807 < ((sLen : Int) + (k : Int))) := by omega
  have h48 : ¬ (Builtin.nextslicecap (sLen + k) sCap * i3.bytes > 2 ^ 48) := by
    have := growslice_fits (old := sCap) hroom hsz
    rw [h33]; omega
  have h48' : ¬ (281474976710656 < Builtin.nextslicecap (sLen + k) sCap * i3.bytes) := by simpa using h48
  have hb0 : ¬ (i3.bytes = 0) := by rw [h33]; have := hT.bpos; omega
  refine ⟨grownCap w (sLen + k) sCap e, Builtin.zeroCells zv.cells (grownCap w (sLen + k) sCap e - (sLen + k)), grownCap_ge .., ?_, ?_⟩
  · rw [size_zeroCells, ← z2.1, hT.zlen]; exact Nat.le_refl _
  · rcases hsrc.how with ⟨⟨i2, hi2, hd2⟩, hle, hfirst⟩ | ⟨⟨i2, kk, hi2, hd2⟩, ⟨k2, rfl⟩, hb, hmax, zv', hz, rfl⟩
    · have hf := hfirst w.drew (fun _ _ => rfl)
      rcases hd2 with ⟨e2, hd2⟩ | hd2 <;>
        simp [Builtin.append_, run_underlying' hi, hd, run_sizeOf hT.elem, run_underlying' hi2, hd2, hle, hn, typeInfo, h31, h63', h48', hold, hf, z1, Question.forced, newRow, grownCap]
    · have hw : IntKind.i64.wrap (k : Int) = (k : Int) := IntWalk.i64_in _ (by omega)
      have hzz : zv' = zv := by have := (hz w).symm.trans (z1 w); simpa using this
      subst hzz
      have h48 : ¬ (281474976710656 < (k : Int) * (i3.bytes : Int)) := by
        rw [h33]
        have : ((k * j.bytes : Nat) : Int) ≤ (281474976710656 : Nat) := Int.ofNat_le.2 hb
        rw [Int.natCast_mul] at this; omega
      have hneg : ¬ ((k : Int) < 0) := by omega
      by_cases hk0 : k = 0
      · subst hk0
        have hzc : (Builtin.zeroCells zv'.cells 0) = #[] := by simp [Builtin.zeroCells]
        have hn' : ¬ (sLen ≤ sCap) := by omega
        have h48'' : ¬ (281474976710656 < Builtin.nextslicecap sLen sCap * i3.bytes) := by simpa using h48'
        have h63'' : ¬ (9223372036854775807 < (sLen : Int)) := by omega
        simp [Builtin.append_, run_underlying' hi, hd, run_sizeOf hT.elem, run_underlying' hi2, hd2, asInt, asIntOf, show IntKind.i64.wrap 0 = 0 from by decide, typeInfo, h31, hn', h63'', h48'', hold, hz, hzc, Question.forced, newRow, grownCap]
      · have hks : ¬ (k * j.size = 0) := Nat.mul_ne_zero hk0 (by have := hT.pos; omega)
        have hpos : ¬ (j.size = 0) := by have := hT.pos; omega
        simp [Builtin.append_, run_underlying' hi, hd, run_sizeOf hT.elem, run_underlying' hi2, hd2, asInt, asIntOf, hw, typeInfo, h31, hn, h63', h48', h48, hneg, hk0, hpos, hks, hold, hz, Question.forced, newRow, grownCap]
end Go.Abs
