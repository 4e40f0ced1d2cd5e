/- The abstract layer, fifth part: the other quiet operations, and all quiet operations in one function. -/
import Derived.Test.YteilhoojlcpbpaaA4
import Derived.Laws.StructEq
import Derived.Laws.BytesArg
set_option linter.unusedVariables false
set_option linter.unusedSimpArgs false
namespace Go.Abs
variable {P : Program} {κ : K} {m : Mem} {w : World}

/-! ### Slicing -/
def exactA (mx : Option AV) (ex : Bool) (h mm : Nat) : Bool := match mx with | some _ => h == mm | none => ex && h == mm
def sliceA (P : Program) (m : Mem) (t : TypeId) (x : AV) (lo hi mx : Option AV) : Option AV :=
  match ti P t with
  | none => none
  | some i => match i.desc with
    | .string => match x with
      | .val (.string s) => match boundsA s.size s.size lo hi none with
        | some (l, h, _) => if mx.isSome then none else some (.val (.string (s.extract l h)))
        | none => none
      | _ => none
    | .slice e => match ti P e with
      | none => none
      | some j => match x with
        | .val (.slice none 0 0) => match boundsA 0 0 lo hi mx with
          | some _ => some (.val (.slice none 0 0))
          | none => none
        | .vs es ex => match boundsA es.length es.length lo hi mx with
          | some (l, h, mm) => if ∀ e ∈ es, e.length = j.size then some (.vs ((es.drop l).take (h - l)) (exactA mx ex h mm)) else none
          | none => none
        | .sl n off len cap => match m n with
          | some (.cells opn bt _) => if opn = false ∨ P.cellsOf bt = j.size then
              (match boundsA len cap lo hi mx with
              | some (l, h, mm) => some (.sl n (off + l * j.size) (h - l) (mm - l))
              | none => none) else none
          | _ => none
        | _ => none
    | .array len e => match ti P e with
      | none => none
      | some j => match x with
        | .ptr n off => match boundsA len len lo hi mx with
          | some (l, h, mm) => some (.sl n (off + l * j.size) (h - l) (mm - l))
          | none => none
        | _ => none
    | _ => none

theorem sliceA_sound (hs : Sim P κ m w) {t : TypeId} {x r : AV} {lo hi mx : Option AV} (h : sliceA P m t x lo hi mx = some r) {cv : Value} {clo chi cmx : Option Value} (hx : Rel κ x cv)
    (h1 : OptRel κ lo clo) (h2 : OptRel κ hi chi) (h3 : OptRel κ mx cmx) : ∃ v, Rel κ r v ∧ ∀ w, (Instr.sliceAt t cv clo chi cmx).run P w = .ok v w := by
  unfold sliceA at h
  split at h
  · cases h
  · rename_i i ht
    split at h
    · rename_i hd
      split at h
      · rename_i s
        obtain ⟨rfl, _⟩ := hx.val_inv
        split at h
        · rename_i l h' _ hb
          split at h
          · cases h
          · rename_i hmx
            cases h
            have hmn : mx = none := by simpa using hmx
            subst hmn
            have hcn : cmx = none := by cases cmx with | none => rfl | some _ => exact h3.elim
            subst hcn
            obtain ⟨m', hr, _⟩ := boundsA_sound (P := P) (isS := false) hb (Nat.le_refl _) (Nat.le_refl _) h1 h2 (show OptRel κ none none from trivial)
            refine ⟨.string (s.extract l h'), .val rfl, fun w => ?_⟩
            simp only [Instr.sliceAt, Instr.slice, Sem.run_bind, run_underlying' ht, hd, Result.andThen_ok, Option.isSome_none, Bool.false_eq_true, if_false, hr, Sem.run_pure]
        · cases h
      · cases h
    · rename_i e hd
      split at h
      · cases h
      · rename_i j hj
        split at h
        · obtain ⟨rfl, _⟩ := hx.val_inv
          split at h
          · rename_i b hb
            obtain ⟨l, hh, mm⟩ := b
            cases h
            obtain ⟨m', hr, g1, g2, g3, g4⟩ := boundsA_sound (P := P) (isS := true) hb (Nat.le_refl _) (Nat.le_refl _) h1 h2 h3
            have hm0 : m' = 0 := by omega
            have hl0 : l = 0 := by omega
            have hh0 : hh = 0 := by omega
            subst hm0 hl0 hh0
            refine ⟨.slice none 0 0, .val rfl, fun w => ?_⟩
            simp only [Instr.sliceAt, Instr.slice, Sem.run_bind, run_underlying' ht, hd, Result.andThen_ok, hr, run_sizeOf hj, Sem.run_pure, Nat.sub_self, if_true]
          · cases h
        · rename_i es ex
          split at h
          · rename_i l hh mm hb
            split at h
            · rename_i hall
              cases h
              have hx' := hx
              cases hx with
              | vnil =>
                obtain ⟨m', hr, g1, g2, g3, g4⟩ := boundsA_sound (P := P) (isS := true) hb (Nat.le_refl _) (Nat.le_refl _) h1 h2 h3
                simp only [List.length_nil] at g3 g4 hr
                have hm0 : m' = 0 := by omega
                have hl0 : l = 0 := by omega
                have hh0 : hh = 0 := by omega
                subst hm0 hl0 hh0
                refine ⟨.slice none 0 0, by simpa using Rel.vnil, fun w => ?_⟩
                simp only [Instr.sliceAt, Instr.slice, Sem.run_bind, run_underlying' ht, hd, Result.andThen_ok, hr, run_sizeOf hj, Sem.run_pure, Nat.sub_self, if_true]
              | @vz _ a =>
                obtain ⟨m', hr, g1, g2, g3, g4⟩ := boundsA_sound (P := P) (isS := true) hb (Nat.le_refl _) (Nat.le_refl _) h1 h2 h3
                simp only [List.length_nil] at g3 g4 hr
                have hm0 : m' = 0 := by omega
                have hl0 : l = 0 := by omega
                have hh0 : hh = 0 := by omega
                subst hm0 hl0 hh0
                refine ⟨.slice (some a) 0 0, by simpa using Rel.vz, fun w => ?_⟩
                simp only [Instr.sliceAt, Instr.slice, Sem.run_bind, run_underlying' ht, hd, Result.andThen_ok, hr, run_sizeOf hj, Sem.run_pure, Nat.sub_self, if_true]
              | @vs _ _ c o s cap f q1 q2 q3 q4 q5 =>
                obtain ⟨m', hr, g1, g2, g3, g4⟩ := boundsA_sound (P := P) (isS := true) hb (Nat.le_refl _) q2 h1 h2 h3
                have hlen : ((es.drop l).take (hh - l)).length = hh - l := by simp; omega
                refine ⟨.slice (some (if m' = l then ⟨c, o, none⟩ else ⟨c, o + l * j.size, none⟩)) (hh - l) (m' - l), ?_, ?_⟩
                · have hsz : ∀ k, k < es.length → s = j.size := fun k hk => by
                    rw [← q1 _ (List.getElem_mem hk), hall _ (List.getElem_mem hk)]
                  have key : ∀ (oo : Nat), (l < hh → oo = o + l * s) → Rel κ (.vs ((es.drop l).take (hh - l)) (exactA mx ex hh mm)) (.slice (some ⟨c, oo, none⟩) (hh - l) (m' - l)) := fun oo ho => by
                    have := @Rel.vs κ ((es.drop l).take (hh - l)) (exactA mx ex hh mm) c oo s (m' - l) (fun i jj => f (l + i) jj)
                      (fun e he => q1 e (List.mem_of_mem_drop (List.mem_of_mem_take he))) (by rw [hlen]; omega)
                      (fun hex => by
                        rw [hlen]
                        unfold exactA at hex
                        cases mx with
                        | some a =>
                          simp only [beq_iff_eq] at hex
                          rcases g4 with ⟨g, _⟩ | ⟨_, g⟩
                          · cases g
                          · omega
                        | none =>
                          simp only [Bool.and_eq_true, beq_iff_eq] at hex
                          rcases g4 with ⟨_, g5, g6⟩ | ⟨g, _⟩
                          · have := q3 hex.1; omega
                          · exact absurd rfl g)
                      (fun i jj hi hjj => by
                        rw [hlen] at hi
                        rw [ho (by omega)]
                        have := q4 (l + i) jj (by omega) hjj
                        rw [Nat.add_mul] at this
                        rw [show o + l * s + (i * s + jj) = o + (l * s + i * s + jj) by omega]
                        exact this)
                      (fun i hi jj hjj => by
                        simp only [List.getElem_take, List.getElem_drop] at hjj ⊢
                        exact q5 (l + i) (by rw [hlen] at hi; omega) jj hjj)
                    rw [hlen] at this
                    exact this
                  by_cases hml : m' = l
                  · rw [if_pos hml]; exact key o (fun hlt => by rcases g4 with ⟨_, g5, g6⟩ | ⟨_, g6⟩ <;> omega)
                  · rw [if_neg hml]; exact key (o + l * j.size) (fun hlt => by rw [hsz l (by omega)])
                · intro w
                  simp only [Instr.sliceAt, Instr.slice, Sem.run_bind, run_underlying' ht, hd, Result.andThen_ok, hr, run_sizeOf hj, Sem.run_pure, Option.map_some, addr_plain]
                  split <;> rfl
            · cases h
          · cases h
        · rename_i n off len cap
          split at h
          · rename_i opn bt bcs hm
            split at h
            · rename_i hopn
              split at h
              · rename_i l hh mm hb
                cases h
                cases hx with
                | snil =>
                  obtain ⟨m', hr, g1, g2, g3, g4⟩ := boundsA_sound (P := P) (isS := true) hb (Nat.le_refl _) (Nat.le_refl _) h1 h2 h3
                  have hm0 : m' = 0 := by omega
                  have hl0 : l = 0 := by omega
                  have hh0 : hh = 0 := by omega
                  have hmm0 : mm = 0 := by omega
                  subst hm0 hl0 hh0 hmm0
                  refine ⟨.slice none 0 0, .snil, fun w => ?_⟩
                  simp only [Instr.sliceAt, Instr.slice, Sem.run_bind, run_underlying' ht, hd, Result.andThen_ok, hr, run_sizeOf hj, Sem.run_pure, Nat.sub_self, if_true]
                | @szero _ _ a =>
                  obtain ⟨m', hr, g1, g2, g3, g4⟩ := boundsA_sound (P := P) (isS := true) hb (Nat.le_refl _) (Nat.le_refl _) h1 h2 h3
                  have hm0 : m' = 0 := by omega
                  have hl0 : l = 0 := by omega
                  have hh0 : hh = 0 := by omega
                  have hmm0 : mm = 0 := by omega
                  subst hm0 hl0 hh0 hmm0
                  refine ⟨.slice (some a) 0 0, .szero, fun w => ?_⟩
                  simp only [Instr.sliceAt, Instr.slice, Sem.run_bind, run_underlying' ht, hd, Result.andThen_ok, hr, run_sizeOf hj, Sem.run_pure, Nat.sub_self, if_true]
                | @sl _ _ _ _ cap' c' o' loc q1 q2 q3 q4 =>
                  have hcc : cap ≤ cap' := by rcases q2 with q2 | q2 <;> omega
                  obtain ⟨m', hr, g1, g2, g3, g4⟩ := boundsA_sound (P := P) (isS := true) hb q3 hcc h1 h2 h3
                  have hext : (opn = false → loc.ext = 0) ∧ (opn = true → loc.size = P.cellsOf bt) := by
                    rcases hs.blk n _ hm with ⟨l', e1, e2, _⟩ | ⟨e1, _⟩
                    · rw [q1] at e1; cases e1
                      obtain ⟨arr, t', fz, z1, z2, z3, z4, z5, z6, z7⟩ := e2
                      exact ⟨z5, z6⟩
                    · rw [q1] at e1; cases e1
                  refine ⟨.slice (some ⟨c', if m' = l then o' else o' + l * j.size, none⟩) (hh - l) (m' - l), .sl q1 ?_ (by omega) ?_, ?_⟩
                  · rcases g4 with ⟨_, g5, g6⟩ | ⟨_, g6⟩
                    · subst g5 g6
                      rcases q2 with q2 | ⟨q2, q2'⟩
                      · exact .inl (by omega)
                      · rcases hopn with ho | ho
                        · have := hext.1 ho; exact .inl (by omega)
                        · cases opn with
                          | false => have := hext.1 rfl; exact .inl (by omega)
                          | true =>
                            have := hext.2 rfl
                            refine .inr ⟨?_, by omega⟩
                            rw [← q2, this, ho, Nat.add_assoc, ← Nat.add_mul]
                            congr 2
                            omega
                    · exact .inl (by omega)
                  · split
                    · exact .inl (by omega)
                    · rcases q4 with q4 | ⟨rfl, rfl⟩
                      · exact .inl (by omega)
                      · exact .inr ⟨rfl, by rw [Nat.add_assoc]⟩
                  · intro w
                    simp only [Instr.sliceAt, Instr.slice, Sem.run_bind, run_underlying' ht, hd, Result.andThen_ok, hr, run_sizeOf hj, Sem.run_pure, Option.map_some, addr_plain]
                    split <;> rfl
              · cases h
            · cases h
          · cases h
        · cases h
    · rename_i len e hd
      split at h
      · cases h
      · rename_i j hj
        split at h
        · rename_i n off
          split at h
          · rename_i l hh mm hb
            cases h
            cases hx with
            | @ptr _ _ loc q1 =>
              obtain ⟨m', hr, g1, g2, g3, g4⟩ := boundsA_sound (P := P) (isS := false) hb (Nat.le_refl _) (Nat.le_refl _) h1 h2 h3
              have hmm : m' = mm := by rcases g4 with ⟨_, g5, g6⟩ | ⟨_, g6⟩ <;> omega
              subst hmm
              refine ⟨.slice (some ⟨loc.blk, if m' = l then loc.base + off else loc.base + off + l * j.size, none⟩) (hh - l) (m' - l), .sl q1 (.inl rfl) (by omega) ?_, ?_⟩
              · split
                · exact .inl (by omega)
                · exact .inr ⟨rfl, by rw [Nat.add_assoc]⟩
              · intro w
                simp only [Instr.sliceAt, Sem.run_bind, run_underlying' ht, hd, Result.andThen_ok, Instr.sureAddr, hr, run_sizeOf hj, Sem.run_pure, addr_plain]
                split <;> rfl
          · cases h
        · cases h
    · cases h

/-! ### Lengths -/
def lenA (P : Program) (m : Mem) (t : TypeId) (x : AV) : Option AV :=
  match ti P t with
  | none => none
  | some i => match i.desc, x with
    | .string, .val (.string s) => some (.val (.int .i64 s.size))
    | .slice _, .vs es _ => some (.val (.int .i64 es.length))
    | .slice _, .sl _ _ n _ => some (.val (.int .i64 n))
    | .slice _, .val (.slice none 0 0) => some (.val (.int .i64 0))
    | .array n _, _ => some (.val (.int .i64 n))
    | .map _ _, .val (.map none) => some (.val (.int .i64 0))
    | .map _ _, .map n => match m n with
      | some (.map es) => some (.val (.int .i64 es.length))
      | _ => none
    | _, _ => none
theorem lenA_sound (hs : Sim P κ m w) {t ty : TypeId} {ts : Array TypeId} {x r : AV} (ht : ts[0]? = some t) (h : lenA P m t x = some r) {cv : Value} {args : Array Value} (ha : args[0]? = some cv) (hx : Rel κ x cv) :
    ∃ v, Rel κ r v ∧ ∀ w', Ext w w' → (Builtin.len_ ts ty args).run P w' = .ok v w' := by
  unfold lenA at h
  split at h
  · cases h
  · rename_i i hi
    split at h
    · rename_i s hd; cases h
      obtain ⟨rfl, _⟩ := hx.val_inv
      exact ⟨_, .val rfl, fun w' hw => by simp only [Builtin.len_, ht, ha, Sem.run_bind, run_underlying' hi, Result.andThen_ok, hd]; rfl⟩
    · rename_i e es ex hd; cases h
      cases hx with
      | vnil => exact ⟨_, .val rfl, fun w' hw => by simp only [Builtin.len_, ht, ha, Sem.run_bind, run_underlying' hi, Result.andThen_ok, hd]; rfl⟩
      | vz => exact ⟨_, .val rfl, fun w' hw => by simp only [Builtin.len_, ht, ha, Sem.run_bind, run_underlying' hi, Result.andThen_ok, hd]; rfl⟩
      | vs f _ _ _ _ _ => exact ⟨_, .val rfl, fun w' hw => by simp only [Builtin.len_, ht, ha, Sem.run_bind, run_underlying' hi, Result.andThen_ok, hd]; rfl⟩
    · rename_i e n off k cap hd; cases h
      cases hx with
      | szero => exact ⟨_, .val rfl, fun w' hw => by simp only [Builtin.len_, ht, ha, Sem.run_bind, run_underlying' hi, Result.andThen_ok, hd]; rfl⟩
      | snil => exact ⟨_, .val rfl, fun w' hw => by simp only [Builtin.len_, ht, ha, Sem.run_bind, run_underlying' hi, Result.andThen_ok, hd]; rfl⟩
      | sl _ _ _ _ => exact ⟨_, .val rfl, fun w' hw => by simp only [Builtin.len_, ht, ha, Sem.run_bind, run_underlying' hi, Result.andThen_ok, hd]; rfl⟩
    · rename_i e hd; cases h
      obtain ⟨rfl, _⟩ := hx.val_inv
      exact ⟨_, .val rfl, fun w' hw => by simp only [Builtin.len_, ht, ha, Sem.run_bind, run_underlying' hi, Result.andThen_ok, hd]; rfl⟩
    · rename_i n e hd; cases h
      exact ⟨.int .i64 n, .val rfl, fun w' hw => by simp only [Builtin.len_, ht, ha, Sem.run_bind, run_underlying' hi, Result.andThen_ok, hd]; rfl⟩
    · rename_i k e hd; cases h
      obtain ⟨rfl, _⟩ := hx.val_inv
      exact ⟨_, .val rfl, fun w' hw => by simp only [Builtin.len_, ht, ha, Sem.run_bind, run_underlying' hi, Result.andThen_ok, hd]; rfl⟩
    · rename_i k e n hd
      split at h
      · rename_i es hm
        cases h
        cases hx with
        | @map _ l q =>
          rcases hs.blk n _ hm with ⟨l', e1, e2, _⟩ | ⟨e1, t', e2⟩
          · rw [q] at e1; cases e1
            obtain ⟨ents, clock, z1, z2, _⟩ := e2
            refine ⟨.int .i64 es.length, .val rfl, fun w' hw => ?_⟩
            have z1 := (hw _ (hs.lt _ _ q)).trans z1
            simp only [Builtin.len_, ht, ha, Sem.run_bind, run_underlying' hi, Result.andThen_ok, hd]
            simp [getObj, Sem.run, z1, z2, goInt]
          · cases e2
      · cases h
    · cases h

/-! ### The least and the greatest -/
def mmA (big : Bool) : List AV → Option AV
  | .val (.int k x) :: rest => rest.foldlM (fun (a : AV) b => match a, b with
      | .val (.int k x), .val (.int _ y) => some (AV.val (.int k (if big then (if y > x then y else x) else (if y < x then y else x))))
      | _, _ => none) (.val (.int k x))
  | _ => none
end Go.Abs
