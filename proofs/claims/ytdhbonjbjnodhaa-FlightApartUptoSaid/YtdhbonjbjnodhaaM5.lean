/- The texts D8 D9 D10 D11 D12 D13 D14 D15 D16 D17 D18 D19 D20 D21 D22 D23: what is proved on the way to the law. No conditions but those each theorem states. -/
import Derived.Test.YtdhbonjbjnodhaaM4
set_option maxRecDepth 100000
set_option maxHeartbeats 1000000
set_option linter.unusedSimpArgs false
set_option linter.unusedVariables false
namespace Go.Proofs.Ytdhbonjbjnodhaa
open Go.Abs
attribute [local irreducible] C X CC Y CV CW binK litK AppK PureC PureCV againK loopV rangeV allK ifK got onB condK V stepsK planK opK firstK seeE keepsK
theorem New.mono {m M : Mem} (hs : m.sub M) : ∀ {v R : AV}, New m v R → New M v R := by
  intro v R h
  induction h with
  | val => exact .val
  | agg h1 h2 ih => exact .agg h1 ih
  | tup h1 h2 ih => exact .tup h1 ih
  | vnil => exact New.vnil (x' := false)
  | nil => exact .nil
  | sl h1 h2 h3 h4 h5 ih => exact .sl (hs _ _ h1) h2 h3 h4 ih
  | ptr h1 h2 h3 h4 ih => exact .ptr (hs _ _ h1) h2 h3 ih
  | fn h1 h2 h3 h4 ih1 ih2 => exact .fn h1 ih1 h3 ih2
def putF (f : Fl) (w : Way) (body : List UInt8) : Fl × Int × Int :=
  if 0 < wayN f.cut w then (f, 0, 40) else if 65536 ≤ f.list.length ∨ f.next = 4611686018427387904 then (f, 0, 21)
  else (⟨f.next + 1, f.list ++ [⟨f.next + 1, w.from_, w.to_, body⟩], f.cut⟩, f.next + 1, 0)
def res3 (p : Fl × Int × Int) : AV := .tup [.agg (p.1.rc false false), .val (.int .i64 p.2.1), .val (.int .i64 p.2.2)]
theorem oc_is (f : Fl) (N M : Nat) : f.oc N M = [.val (.int .i64 f.next), .sl N 0 f.list.length f.list.length, .sl M 0 f.cut.length f.cut.length] := rfl
theorem apart {m : Mem} {a n : Nat} {b : Blk} (h : m a = some b) (hn : m n = none) : a ≠ n ∧ n ≠ a := ⟨fun e => (by rw [e, hn] at h; cases h), fun e => (by rw [← e, hn] at h; cases h)⟩
theorem left_at {m1 m m1' M' : Mem} (h : Go.Abs.Left m1 m m1' M') {q : Nat} {b : Blk} (h1 : m1 q = none) (h2 : m q = some b) : M' q = some b ∧ ∀ n c, m1' n = some c → q ≠ n ∧ n ≠ q :=
  ⟨(h q b h1 h2).2, fun n c hn => by
    have := (h q b h1 h2).1
    exact ⟨fun e => (by rw [e, hn] at this; cases this), fun e => (by rw [← e, hn] at this; cases this)⟩⟩
def three (a b c : Option AV) : Option AV := match a, b, c with
  | some a, some b, some c => some (.tup [a, b, c])
  | _, _, _ => none
theorem three_some (a b c : AV) : three (some a) (some b) (some c) = some (.tup [a, b, c]) := Eq.trans rfl rfl
theorem resL_three (P : Program) (m : Mem) (env : List AV) (x y z : ResultVar) : resL P m env [x, y, z] = three (resOne P m env x) (resOne P m env y) (resOne P m env z) := by
  simp only [resL, List.mapM_cons, List.mapM_nil, three]
  cases resOne P m env x <;> cases resOne P m env y <;> cases resOne P m env z <;> rfl
theorem cleans_append : ∀ (a b : List AV), AV.clean.cleans (a ++ b) = (AV.clean.cleans a && AV.clean.cleans b)
  | [], b => rfl
  | x :: a, b => by
    show (x.clean && AV.clean.cleans (a ++ b)) = ((x.clean && AV.clean.cleans a) && AV.clean.cleans b)
    rw [cleans_append a b, Bool.and_assoc]
mutual
theorem flatClean : ∀ (x : AV), x.flat = true → x.clean = true
  | .val _, _ => rfl
  | .agg cs, h => flatsClean cs h
  | .tup cs, h => flatsClean cs h
theorem flatsClean : ∀ (l : List AV), AV.flat.flats l = true → AV.clean.cleans l = true
  | [], _ => rfl
  | x :: l, h => by
    simp only [AV.flat.flats, Bool.and_eq_true] at h
    show (x.clean && AV.clean.cleans l) = true
    rw [flatClean x h.1, flatsClean l h.2]; rfl
end
theorem AV.clean_flats {l : List AV} (h : AV.flat.flats l = true) : AV.clean.cleans l = true := (flatsClean l h)
def FlR (g : Fl) (x : AV) (m' : Mem) : Prop := ∃ (N M cN cM : Nat) (oN oM : Bool) (rN rM : List AV), N ≠ M ∧ x = .agg [.val (.int .i64 g.next), .sl N 0 g.list.length cN, .sl M 0 g.cut.length cM] ∧ AV.clean.cleans rN = true ∧ AV.clean.cleans rM = true ∧ m' = (nomem.set N (.cells oN 44 ((g.list.map Frame.cells).flatten ++ rN))).set M (.cells oM 60 ((g.cut.map Way.cells).flatten ++ rM))
def Res (g : Fl) (post : List AV) (r : AV) (m' : Mem) : Prop := ∃ x, r = .tup (x :: post) ∧ AV.flat.flats post = true ∧ FlR g x m'
def res (g : Fl) (post : List AV) : AV := .tup (.agg (g.rc false false) :: post)
theorem new_fl {g : Fl} {m : Mem} {v w : AV} (h1 : New m v (.vs (g.list.map Frame.cells) false)) (h2 : New m w (.vs (g.cut.map Way.cells) false)) : New m (.agg [.val (.int .i64 g.next), v, w]) (.agg (g.rc false false)) :=
  .agg rfl fun i a b => by
    match i, a with
    | 0, _ => exact .val
    | 1, _ => exact h1
    | 2, _ => exact h2
theorem new_listP {l : List Frame} {m : Mem} {N c : Nat} {opn : Bool} {rest : List AV} (h : m N = some (.cells opn 44 ((l.map Frame.cells).flatten ++ rest))) : New m (.sl N 0 l.length c) (.vs (l.map Frame.cells) false) := New.rowPre Frame.cells (s := 4) (fun _ => rfl) fflat l h
theorem new_cutP {l : List Way} {m : Mem} {N c : Nat} {opn : Bool} {rest : List AV} (h : m N = some (.cells opn 60 ((l.map Way.cells).flatten ++ rest))) : New m (.sl N 0 l.length c) (.vs (l.map Way.cells) false) := New.rowPre Way.cells (s := 2) (fun _ => rfl) wflat l h
theorem FlR.at {g : Fl} {x : AV} {m' : Mem} (h : FlR g x m') : ∃ (N M cN cM : Nat) (oN oM : Bool) (rN rM : List AV), N ≠ M ∧ x = .agg [.val (.int .i64 g.next), .sl N 0 g.list.length cN, .sl M 0 g.cut.length cM] ∧ AV.clean.cleans rN = true ∧ AV.clean.cleans rM = true ∧ m' N = some (.cells oN 44 ((g.list.map Frame.cells).flatten ++ rN)) ∧ m' M = some (.cells oM 60 ((g.cut.map Way.cells).flatten ++ rM)) := by
  obtain ⟨N, M, cN, cM, oN, oM, rN, rM, hne, hx, c1, c2, rfl⟩ := h
  exact ⟨N, M, cN, cM, oN, oM, rN, rM, hne, hx, c1, c2, by rw [Mem.set_ne _ _ hne, Mem.set_same], Mem.set_same _ _ _⟩
theorem FlR.new {g : Fl} {x : AV} {m' : Mem} (h : FlR g x m') : New m' x (.agg (g.rc false false)) := by
  obtain ⟨N, M, cN, cM, oN, oM, rN, rM, hne, rfl, c1, c2, h1, h2⟩ := h.at
  exact new_fl (new_listP h1) (new_cutP h2)
theorem clean_row {α : Type} (F : α → List AV) (hF : ∀ a, AV.flat.flats (F a) = true) {l : List α} {r : List AV} (h : AV.clean.cleans r = true) : AV.clean.cleans ((l.map F).flatten ++ r) = true := by
  induction l with
  | nil => exact h
  | cons a l ih =>
    rw [List.map_cons, List.flatten_cons, List.append_assoc, cleans_append, ih, Bool.and_true]
    exact AV.clean_flats (hF a)
theorem FlR.clean {g : Fl} {x : AV} {m' : Mem} (h : FlR g x m') : x.clean = true ∧ ∀ n b, m' n = some b → cleanB b := by
  obtain ⟨N, M, cN, cM, oN, oM, rN, rM, hne, rfl, c1, c2, rfl⟩ := h
  refine ⟨rfl, fun n b hb => ?_⟩
  unfold Mem.set at hb
  split at hb
  · cases hb; exact clean_row Way.cells wflat c2
  · split at hb
    · cases hb; exact clean_row Frame.cells fflat c1
    · cases hb
theorem Res.new {g : Fl} {post : List AV} {r : AV} {m' : Mem} (h : Res g post r m') : New m' r (res g post) := by
  obtain ⟨x, rfl, hp, hx⟩ := h
  refine .tup rfl fun i a b => ?_
  cases i with
  | zero => exact hx.new
  | succ i => exact New.flats hp i (by simpa using a)
theorem Res.clean {g : Fl} {post : List AV} {r : AV} {m' : Mem} (h : Res g post r m') : r.clean = true ∧ ∀ n b, m' n = some b → cleanB b := by
  obtain ⟨x, rfl, hp, hx⟩ := h
  refine ⟨?_, hx.clean.2⟩
  show (x.clean && AV.clean.cleans post) = true
  rw [hx.clean.1, AV.clean_flats hp]; rfl
theorem fl_turn {g : Fl} {N M k j cN cM : Nat} {oN oM : Bool} {rN rM : List AV} {m : Mem} (hk : g.list.length = k) (hj : g.cut.length = j) (hne : N ≠ M) (c1 : AV.clean.cleans rN = true) (c2 : AV.clean.cleans rM = true) (h1 : m N = some (.cells oN 44 ((g.list.map Frame.cells).flatten ++ rN))) (h2 : m M = some (.cells oM 60 ((g.cut.map Way.cells).flatten ++ rM))) :
    ∃ m0, m0.sub m ∧ FlR g (.agg [.val (.int .i64 g.next), .sl N 0 k cN, .sl M 0 j cM]) m0 :=
  ⟨_, Mem.set_sub (nomem_set_sub h1) h2, N, M, cN, cM, oN, oM, rN, rM, hne, by rw [hk, hj], c1, c2, rfl⟩
theorem res_turn {g : Fl} {post : List AV} {N M k j cN cM : Nat} {oN oM : Bool} {rN rM : List AV} {m : Mem} (hp : AV.flat.flats post = true) (hk : g.list.length = k) (hj : g.cut.length = j) (hne : N ≠ M) (c1 : AV.clean.cleans rN = true) (c2 : AV.clean.cleans rM = true) (h1 : m N = some (.cells oN 44 ((g.list.map Frame.cells).flatten ++ rN))) (h2 : m M = some (.cells oM 60 ((g.cut.map Way.cells).flatten ++ rM))) :
    Turns Try.prog (.tup (.agg [.val (.int .i64 g.next), .sl N 0 k cN, .sl M 0 j cM] :: post)) m (Res g post) := by
  obtain ⟨m0, hs, h⟩ := fl_turn (cN := cN) (cM := cM) hk hj hne c1 c2 h1 h2
  exact Turns.sub hs ⟨_, rfl, hp, h⟩
theorem res_turn0 {g : Fl} {post : List AV} {N M k j cN cM : Nat} {oN oM : Bool} {m : Mem} (hp : AV.flat.flats post = true) (hk : g.list.length = k) (hj : g.cut.length = j) (hne : N ≠ M) (h1 : m N = some (.cells oN 44 (g.list.map Frame.cells).flatten)) (h2 : m M = some (.cells oM 60 (g.cut.map Way.cells).flatten)) :
    Turns Try.prog (.tup (.agg [.val (.int .i64 g.next), .sl N 0 k cN, .sl M 0 j cM] :: post)) m (Res g post) :=
  res_turn (rN := []) (rM := []) hp hk hj hne rfl rfl (by rw [List.append_nil]; exact h1) (by rw [List.append_nil]; exact h2)
def Res3 (p : Fl × Int × Int) : AV → Mem → Prop := Res p.1 [.val (.int .i64 p.2.1), .val (.int .i64 p.2.2)]
theorem lit1_22 (d : Frame) : litA Try.prog 22 1 [(0, .agg d.cells)] = some (44, 4, d.cells) := by
  simp only [litA, ti_22, ti_44, z_44, fillA, cells_agg, Frame.all, if_true]
  rfl
theorem frame_snoc (L : List Frame) (d : Frame) : (L.map Frame.cells).flatten ++ [d.cells].flatten = ((L ++ [d]).map Frame.cells).flatten := by simp
theorem way_cells (a b : Int) : (Way.cells ⟨a, b⟩) = [.val (.int .i64 a), .val (.int .i64 b)] := rfl
theorem C19 (f : Fl) (x y : Bool) (a b : Int) (body : List UInt8) (hfit : f.list.length ≤ 65536 ∧ f.cut.length ≤ 2000000000000 ∧ 0 ≤ f.next ∧ f.next ≤ 4611686018427387904) (hnd : f.cut.Nodup) :
    C Try.prog 19 [.agg (f.rc x y), .val (.int .i64 a), .val (.int .i64 b), .val (.string ⟨body.toArray⟩)] nomem (Res3 (putF f ⟨a, b⟩ body)) := by
  obtain ⟨h1, h2, h3, h4⟩ := hfit
  refine C.turn (C19_of ?_)
  unfold k19
  repeat' first
    | simp -dsimp (disch := omega) only [↓rulesA, rulesB, rulesC, Int.reduceLT, nth, upd, put, storeN, AV.one, Nat.reduceBEq, Nat.reduceBNe, Int.reduceBEq, Int.reduceBNe, Int.reduceLE, Int.reduceEq, Int.reduceMod, Int.reduceNeg, boolBin, strBin, intBin, unA, fillA, ne_eq, reduceCtorEq, Nat.reduceAdd, Nat.reduceSub, Nat.reduceLeDiff, Nat.reduceLT, Nat.reduceEqDiff, Int.reduceToNat, eq_self, rulesT, rulesD, Fl.g0, Fl.g1, Fl.g2, Fl.len, Fl.all, Fl.take, Fl.drop, Fl.sall, *]
    | (refine allK_intro fun n hn => ?_; try simp only [fresh_set] at hn)
    | (refine ifK_intro (fun h => ?_) (fun h => ?_) <;> (try simp only [rulesE] at h) <;> try (exfalso; (try simp only [rulesF] at h); omega))
    | (refine keeps_sub (Mem.sub_set ?_) ?_; focus (simp [Mem.set_at, nomem, *]; done))
  rename_i n4 hn4
  revert n
  intro n8 hn8
  refine call_at (C32 f x y (by omega) (by omega)) (nomem_sub _) fun r m1' M1 ⟨N, M, hr, hown⟩ hs1 hl1 => ?_
  subst hr
  obtain ⟨hne, hN, hM⟩ := hown
  obtain ⟨g4, i4⟩ := left_at hl1 (q := n4) rfl (by simp [Mem.set_at, *]; rfl)
  obtain ⟨g8, i8⟩ := left_at hl1 (q := n8) rfl (by simp [Mem.set_at, *]; rfl)
  have a1 := i4 _ _ hN
  have a2 := i4 _ _ hM
  have a3 := i8 _ _ hN
  have a4 := i8 _ _ hM
  have kN := hs1 _ _ hN
  have kM := hs1 _ _ hM
  clear hN hM hs1 hl1 i4 i8
  repeat' first
    | simp -dsimp (disch := omega) only [↓rulesA, rulesB, rulesC, Int.reduceLT, nth, upd, put, storeN, AV.one, Nat.reduceBEq, Nat.reduceBNe, Int.reduceBEq, Int.reduceBNe, Int.reduceLE, Int.reduceEq, Int.reduceMod, Int.reduceNeg, boolBin, strBin, intBin, unA, fillA, ne_eq, reduceCtorEq, Nat.reduceAdd, Nat.reduceSub, Nat.reduceLeDiff, Nat.reduceLT, Nat.reduceEqDiff, Int.reduceToNat, eq_self, rulesT, rulesD, oc_is, resL_three, three_some, Fl.g0, Fl.g1, Fl.g2, Fl.len, Fl.all, Fl.take, Fl.drop, Fl.sall, *]
    | (refine allK_intro fun n hn => ?_; try simp only [fresh_set] at hn)
    | (refine ifK_intro (fun h => ?_) (fun h => ?_) <;> (try simp only [rulesE] at h) <;> try (exfalso; (try simp only [rulesF] at h); omega))
    | (refine keeps_sub (Mem.sub_set ?_) ?_; focus (simp [Mem.set_at, nomem, *]; done))
  have d4 := apart g4 hn
  have d8 := apart g8 hn
  have dN := apart kN hn
  have dM := apart kM hn
  revert n
  intro n11 hn11 d4 d8 dN dM
  repeat' first
    | simp -dsimp (disch := omega) only [↓rulesA, rulesB, rulesC, Int.reduceLT, nth, upd, put, storeN, AV.one, Nat.reduceBEq, Nat.reduceBNe, Int.reduceBEq, Int.reduceBNe, Int.reduceLE, Int.reduceEq, Int.reduceMod, Int.reduceNeg, boolBin, strBin, intBin, unA, fillA, ne_eq, reduceCtorEq, Nat.reduceAdd, Nat.reduceSub, Nat.reduceLeDiff, Nat.reduceLT, Nat.reduceEqDiff, Int.reduceToNat, eq_self, rulesT, rulesD, oc_is, resL_three, three_some, Fl.g0, Fl.g1, Fl.g2, Fl.len, Fl.all, Fl.take, Fl.drop, Fl.sall, *]
    | (refine allK_intro fun n hn => ?_; try simp only [fresh_set] at hn)
    | (refine ifK_intro (fun h => ?_) (fun h => ?_) <;> (try simp only [rulesE] at h) <;> try (exfalso; (try simp only [rulesF] at h); omega))
    | (refine keeps_sub (Mem.sub_set ?_) ?_; focus (simp [Mem.set_at, nomem, *]; done))
  refine call_at (C33 f x y hnd (by omega)) (nomem_sub _) fun r m2' M2 ⟨W, hr, hW⟩ hs2 hl2 => ?_
  subst hr
  obtain ⟨g4', i4⟩ := left_at hl2 (q := n4) rfl (by simp [Mem.set_at, *]; rfl)
  obtain ⟨g8', i8⟩ := left_at hl2 (q := n8) rfl (by simp [Mem.set_at, *]; rfl)
  obtain ⟨g11, i11⟩ := left_at hl2 (q := n11) rfl (by simp [Mem.set_at, *]; rfl)
  obtain ⟨kN', iN⟩ := left_at hl2 (q := N) rfl (by simp [Mem.set_at, *]; rfl)
  obtain ⟨kM', iM⟩ := left_at hl2 (q := M) rfl (by simp [Mem.set_at, *]; rfl)
  have hlk := look_ways (hs2 _ _ hW) ⟨a, b⟩
  rw [way_cells] at hlk
  clear hl2 hs2 hW i4 i8 i11 iN iM g4 g8 kN kM hn11
  unfold putF
  by_cases hcut : 0 < wayN f.cut ⟨a, b⟩
  · rw [if_pos hcut]
    repeat' first
      | simp -dsimp (disch := omega) only [↓rulesA, rulesB, rulesC, Int.reduceLT, nth, upd, put, storeN, AV.one, Nat.reduceBEq, Nat.reduceBNe, Int.reduceBEq, Int.reduceBNe, Int.reduceLE, Int.reduceEq, Int.reduceMod, Int.reduceNeg, boolBin, strBin, intBin, unA, fillA, ne_eq, reduceCtorEq, Nat.reduceAdd, Nat.reduceSub, Nat.reduceLeDiff, Nat.reduceLT, Nat.reduceEqDiff, Int.reduceToNat, eq_self, rulesT, rulesD, oc_is, resL_three, three_some, Fl.g0, Fl.g1, Fl.g2, Fl.len, Fl.all, Fl.take, Fl.drop, Fl.sall, *]
      | (refine allK_intro fun n hn => ?_; try simp only [fresh_set] at hn)
      | (refine ifK_intro (fun h => ?_) (fun h => ?_) <;> (try simp only [rulesE] at h) <;> try (exfalso; (try simp only [rulesF] at h); omega))
      | (refine keeps_sub (Mem.sub_set ?_) ?_; focus (simp [Mem.set_at, nomem, *]; done))
    exact res_turn0 (g := f) (N := N) (M := M) (oN := true) (oM := true) rfl rfl rfl hne (by simp [Mem.set_at, *]) (by simp [Mem.set_at, *])
  · rw [if_neg hcut]
    by_cases hful : 65536 ≤ f.list.length ∨ f.next = 4611686018427387904
    · rw [if_pos hful]
      by_cases hlen : 65536 ≤ f.list.length
      · clear hful
        repeat' first
          | simp -dsimp (disch := omega) only [↓rulesA, rulesB, rulesC, Int.reduceLT, nth, upd, put, storeN, AV.one, Nat.reduceBEq, Nat.reduceBNe, Int.reduceBEq, Int.reduceBNe, Int.reduceLE, Int.reduceEq, Int.reduceMod, Int.reduceNeg, boolBin, strBin, intBin, unA, fillA, ne_eq, reduceCtorEq, Nat.reduceAdd, Nat.reduceSub, Nat.reduceLeDiff, Nat.reduceLT, Nat.reduceEqDiff, Int.reduceToNat, eq_self, rulesT, rulesD, oc_is, resL_three, three_some, Fl.g0, Fl.g1, Fl.g2, Fl.len, Fl.all, Fl.take, Fl.drop, Fl.sall, *]
          | (refine allK_intro fun n hn => ?_; try simp only [fresh_set] at hn)
          | (refine ifK_intro (fun h => ?_) (fun h => ?_) <;> (try simp only [rulesE] at h) <;> try (exfalso; (try simp only [rulesF] at h); omega))
          | (refine keeps_sub (Mem.sub_set ?_) ?_; focus (simp [Mem.set_at, nomem, *]; done))
        exact res_turn0 (g := f) (N := N) (M := M) (oN := true) (oM := true) rfl rfl rfl hne (by simp [Mem.set_at, *]) (by simp [Mem.set_at, *])
      · have hnx : (f.next == 4611686018427387904) = true := by rw [hful.resolve_left hlen]; rfl
        clear hful
        repeat' first
          | simp -dsimp (disch := omega) only [↓rulesA, rulesB, rulesC, Int.reduceLT, nth, upd, put, storeN, AV.one, Nat.reduceBEq, Nat.reduceBNe, Int.reduceBEq, Int.reduceBNe, Int.reduceLE, Int.reduceEq, Int.reduceMod, Int.reduceNeg, boolBin, strBin, intBin, unA, fillA, ne_eq, reduceCtorEq, Nat.reduceAdd, Nat.reduceSub, Nat.reduceLeDiff, Nat.reduceLT, Nat.reduceEqDiff, Int.reduceToNat, eq_self, rulesT, rulesD, oc_is, resL_three, three_some, Fl.g0, Fl.g1, Fl.g2, Fl.len, Fl.all, Fl.take, Fl.drop, Fl.sall, *]
          | (refine allK_intro fun n hn => ?_; try simp only [fresh_set] at hn)
          | (refine ifK_intro (fun h => ?_) (fun h => ?_) <;> (try simp only [rulesE] at h) <;> try (exfalso; (try simp only [rulesF] at h); omega))
          | (refine keeps_sub (Mem.sub_set ?_) ?_; focus (simp [Mem.set_at, nomem, *]; done))
        exact res_turn0 (g := f) (N := N) (M := M) (oN := true) (oM := true) rfl rfl rfl hne (by simp [Mem.set_at, *]) (by simp [Mem.set_at, *])
    · rw [if_neg hful]
      have hlen : ¬ 65536 ≤ f.list.length := fun h => hful (.inl h)
      have hnx : (f.next == 4611686018427387904) = false := beq_eq_false_iff_ne.2 fun h => hful (.inr h)
      have hnx2 : f.next < 4611686018427387904 := by
        have : f.next ≠ 4611686018427387904 := fun h => hful (.inr h)
        omega
      clear hful
      repeat' first
        | simp -dsimp (disch := omega) only [↓rulesA, rulesB, rulesC, Int.reduceLT, nth, upd, put, storeN, AV.one, Nat.reduceBEq, Nat.reduceBNe, Int.reduceBEq, Int.reduceBNe, Int.reduceLE, Int.reduceEq, Int.reduceMod, Int.reduceNeg, boolBin, strBin, intBin, unA, fillA, ne_eq, reduceCtorEq, Nat.reduceAdd, Nat.reduceSub, Nat.reduceLeDiff, Nat.reduceLT, Nat.reduceEqDiff, Int.reduceToNat, eq_self, rulesT, rulesD, oc_is, resL_three, three_some, Fl.g0, Fl.g1, Fl.g2, Fl.len, Fl.all, Fl.take, Fl.drop, Fl.sall, *]
        | (refine allK_intro fun n hn => ?_; try simp only [fresh_set] at hn)
        | (refine ifK_intro (fun h => ?_) (fun h => ?_) <;> (try simp only [rulesE] at h) <;> try (exfalso; (try simp only [rulesF] at h); omega))
        | (refine keeps_sub (Mem.sub_set ?_) ?_; focus (simp [Mem.set_at, nomem, *]; done))
      refine lit_vs (lit1_22 ⟨f.next + 1, a, b, body⟩) rfl ?_
      repeat' first
        | simp -dsimp (disch := omega) only [↓rulesA, rulesB, rulesC, Int.reduceLT, nth, upd, put, storeN, AV.one, Nat.reduceBEq, Nat.reduceBNe, Int.reduceBEq, Int.reduceBNe, Int.reduceLE, Int.reduceEq, Int.reduceMod, Int.reduceNeg, boolBin, strBin, intBin, unA, fillA, ne_eq, reduceCtorEq, Nat.reduceAdd, Nat.reduceSub, Nat.reduceLeDiff, Nat.reduceLT, Nat.reduceEqDiff, Int.reduceToNat, eq_self, rulesT, rulesD, oc_is, resL_three, three_some, Fl.g0, Fl.g1, Fl.g2, Fl.len, Fl.all, Fl.take, Fl.drop, Fl.sall, *]
        | (refine allK_intro fun n hn => ?_; try simp only [fresh_set] at hn)
        | (refine ifK_intro (fun h => ?_) (fun h => ?_) <;> (try simp only [rulesE] at h) <;> try (exfalso; (try simp only [rulesF] at h); omega))
        | (refine keeps_sub (Mem.sub_set ?_) ?_; focus (simp [Mem.set_at, nomem, *]; done))
      refine append_open app_22 (src_22 _ [⟨f.next + 1, a, b, body⟩] _) (cs := (f.list.map Frame.cells).flatten) (bt := 44) (by simp [Mem.set_at, *]) cs_44 (by rw [Frame.rlen, Nat.zero_add]) (by simp; omega) fun N2 hN2 => ?_
      simp only [fresh_set] at hN2
      obtain ⟨e1, e2, e3⟩ := hN2
      have p4 := apart g4' e3
      have p8 := apart g8' e3
      have pN := apart kN' e3
      have pM := apart kM' e3
      have hne' : M ≠ N := Ne.symm hne
      have hlc : (f.list ++ [⟨f.next + 1, a, b, body⟩] : List Frame).length = f.list.length + 1 := by simp
      repeat' first
        | simp -dsimp (disch := omega) only [↓rulesA, rulesB, rulesC, Int.reduceLT, nth, upd, put, storeN, AV.one, Nat.reduceBEq, Nat.reduceBNe, Int.reduceBEq, Int.reduceBNe, Int.reduceLE, Int.reduceEq, Int.reduceMod, Int.reduceNeg, boolBin, strBin, intBin, unA, fillA, ne_eq, reduceCtorEq, Nat.reduceAdd, Nat.reduceSub, Nat.reduceLeDiff, Nat.reduceLT, Nat.reduceEqDiff, Int.reduceToNat, eq_self, rulesT, rulesD, oc_is, resL_three, three_some, Fl.g0, Fl.g1, Fl.g2, Fl.len, Fl.all, Fl.take, Fl.drop, Fl.sall, *]
        | (refine allK_intro fun n hn => ?_; try simp only [fresh_set] at hn)
        | (refine ifK_intro (fun h => ?_) (fun h => ?_) <;> (try simp only [rulesE] at h) <;> try (exfalso; (try simp only [rulesF] at h); omega))
        | (refine keeps_sub (Mem.sub_set ?_) ?_; focus (simp [Mem.set_at, nomem, *]; done))
        | (refine keeps_stab ?_ ?_; focus ((repeat' first | exact stabK_nil _ _ | refine stabK_cons ?_ ?_ | (simp (disch := omega) only [quietA, Option.isSome_some, ↓rulesA, rulesB, rulesC, Int.reduceLT, nth, upd, put, storeN, AV.one, Nat.reduceBEq, Nat.reduceBNe, Int.reduceBEq, Int.reduceBNe, Int.reduceLE, Int.reduceEq, Int.reduceMod, Int.reduceNeg, boolBin, strBin, intBin, unA, fillA, ne_eq, reduceCtorEq, Nat.reduceAdd, Nat.reduceSub, Nat.reduceLeDiff, Nat.reduceLT, Nat.reduceEqDiff, Int.reduceToNat, eq_self, rulesT, rulesD, oc_is, resL_three, three_some, Fl.g0, Fl.g1, Fl.g2, Fl.len, Fl.all, Fl.take, Fl.drop, Fl.sall, *]; done)); done))
      refine res_turn0 (g := ⟨f.next + 1, f.list ++ [⟨f.next + 1, a, b, body⟩], f.cut⟩) (N := N2) (M := M) (oN := true) (oM := true) (post := [.val (.int .i64 (f.next + 1)), .val (.int .i64 0)]) rfl hlc rfl pM.2 ?_ ?_
      · show _ = some (Blk.cells true 44 ((f.list ++ [⟨f.next + 1, a, b, body⟩] : List Frame).map Frame.cells).flatten)
        rw [← frame_snoc]
        simp [Mem.set_at, Mem.del_at, *]
      · simp [Mem.set_at, Mem.del_at, *]
theorem F19 (f : Fl) (x y : Bool) (a b : Int) (body : List UInt8) (hfit : f.list.length ≤ 65536 ∧ f.cut.length ≤ 2000000000000 ∧ 0 ≤ f.next ∧ f.next ≤ 4611686018427387904) (hnd : f.cut.Nodup) :
    F Try.prog 19 [.agg (f.rc x y), .val (.int .i64 a), .val (.int .i64 b), .val (.string ⟨body.toArray⟩)] (res3 (putF f ⟨a, b⟩ body)) := F.of_C (C.mono (C19 f x y a b body hfit hnd) fun r m' h => h.new)
end Go.Proofs.Ytdhbonjbjnodhaa

set_option maxRecDepth 100000
set_option maxHeartbeats 1000000
set_option linter.unusedSimpArgs false
set_option linter.unusedVariables false
namespace Go.Proofs.Ytdhbonjbjnodhaa
open Go.Abs
attribute [local irreducible] C X CC Y CV CW binK litK AppK PureC PureCV againK loopV rangeV allK ifK got onB condK V stepsK planK opK firstK seeE keepsK
theorem getD_get {α : Type} [Inhabited α] (l : List α) (i : Nat) (h : i < l.length) : l.getD i default = l[i] := by rw [List.getD_eq_getElem?_getD, List.getElem?_eq_getElem h]; rfl
theorem wclean (d : Way) : AV.clean.cleans d.cells = true := rfl
def doubleF (f : Fl) (n : Int) : Fl × Int × Int := match posN n f.list 0 with
  | some k => putF f ⟨(f.list.getD k default).from_, (f.list.getD k default).to_⟩ (f.list.getD k default).body
  | none => (f, 0, 24)
theorem C27 (f : Fl) (x y : Bool) (q : Int) (hfit : f.list.length ≤ 65536 ∧ f.cut.length ≤ 2000000000000 ∧ 0 ≤ f.next ∧ f.next ≤ 4611686018427387904) (hnd : f.cut.Nodup) : C Try.prog 27 [.agg (f.rc x y), .val (.int .i64 q)] nomem (Res3 (doubleF f q)) := by
  have f34 := F34 f x y q (by omega)
  refine C.turn (C27_of ?_)
  unfold k27 doubleF
  cases hp : posN q f.list 0 with
  | none =>
    rw [show placeN f.list q = -1 by unfold placeN; rw [hp]] at f34
    clear hp
    repeat' first
      | simp -dsimp (disch := omega) only [↓rulesA, rulesB, rulesC, Int.reduceLT, nth, upd, put, storeN, AV.one, Nat.reduceBEq, Nat.reduceBNe, Int.reduceBEq, Int.reduceBNe, Int.reduceLE, Int.reduceEq, Int.reduceMod, Int.reduceNeg, boolBin, strBin, intBin, unA, fillA, ne_eq, reduceCtorEq, Nat.reduceAdd, Nat.reduceSub, Nat.reduceLeDiff, Nat.reduceLT, Nat.reduceEqDiff, Int.reduceToNat, eq_self, rulesT, rulesD, oc_is, resL_three, three_some, Fl.g0, Fl.g1, Fl.g2, Fl.len, Fl.all, Fl.take, Fl.drop, Fl.sall, *]
      | (refine allK_intro fun n hn => ?_; try simp only [fresh_set] at hn)
      | (refine ifK_intro (fun h => ?_) (fun h => ?_) <;> (try simp only [rulesE] at h) <;> try (exfalso; (try simp only [rulesF] at h); omega))
      | (refine keeps_sub (Mem.sub_set ?_) ?_; focus (simp [Mem.set_at, nomem, *]; done))
      | (refine call_F (f34) (Seens.refl _ _) ?_)
      | (refine pure_F (f34) (Seens.refl _ _) ?_)
    rename_i n2 hn2
    revert n
    intro n4 hn4
    refine call_at (C32 f x y (by omega) (by omega)) (nomem_sub _) fun r m1' M1 ⟨N, M, hr, hown⟩ hs1 hl1 => ?_
    subst hr
    obtain ⟨hne, hN, hM⟩ := hown
    obtain ⟨g4, i4⟩ := left_at hl1 (q := n4) rfl (by simp [Mem.set_at, *]; rfl)
    have a3 := i4 _ _ hN
    have a4 := i4 _ _ hM
    have kN := hs1 _ _ hN
    have kM := hs1 _ _ hM
    clear hN hM hs1 hl1 i4
    repeat' first
      | simp -dsimp (disch := omega) only [↓rulesA, rulesB, rulesC, Int.reduceLT, nth, upd, put, storeN, AV.one, Nat.reduceBEq, Nat.reduceBNe, Int.reduceBEq, Int.reduceBNe, Int.reduceLE, Int.reduceEq, Int.reduceMod, Int.reduceNeg, boolBin, strBin, intBin, unA, fillA, ne_eq, reduceCtorEq, Nat.reduceAdd, Nat.reduceSub, Nat.reduceLeDiff, Nat.reduceLT, Nat.reduceEqDiff, Int.reduceToNat, eq_self, rulesT, rulesD, oc_is, resL_three, three_some, Fl.g0, Fl.g1, Fl.g2, Fl.len, Fl.all, Fl.take, Fl.drop, Fl.sall, *]
      | (refine allK_intro fun n hn => ?_; try simp only [fresh_set] at hn)
      | (refine ifK_intro (fun h => ?_) (fun h => ?_) <;> (try simp only [rulesE] at h) <;> try (exfalso; (try simp only [rulesF] at h); omega))
      | (refine keeps_sub (Mem.sub_set ?_) ?_; focus (simp [Mem.set_at, nomem, *]; done))
    exact res_turn0 (g := f) (post := [.val (.int .i64 0), .val (.int .i64 24)]) (oN := true) (oM := true) rfl rfl rfl hne (by simp [Mem.set_at, *]) (by simp [Mem.set_at, *])
  | some k =>
    rw [show placeN f.list q = (k : Int) by unfold placeN; rw [hp]] at f34
    have hk : k < f.list.length := by have := (posN_at.1 hp).2.1; omega
    have c19 := C19 f x y (f.list.getD k default).from_ (f.list.getD k default).to_ (f.list.getD k default).body hfit hnd
    clear hp
    repeat' first
      | simp -dsimp (disch := omega) only [↓rulesA, rulesB, rulesC, Int.reduceLT, nth, upd, put, storeN, AV.one, Nat.reduceBEq, Nat.reduceBNe, Int.reduceBEq, Int.reduceBNe, Int.reduceLE, Int.reduceEq, Int.reduceMod, Int.reduceNeg, boolBin, strBin, intBin, unA, fillA, ne_eq, reduceCtorEq, Nat.reduceAdd, Nat.reduceSub, Nat.reduceLeDiff, Nat.reduceLT, Nat.reduceEqDiff, Int.reduceToNat, eq_self, rulesT, rulesD, oc_is, resL_three, three_some, ix_22, Fl.g0, Fl.g1, Fl.g2, Fl.len, Fl.all, Fl.take, Fl.drop, Fl.sall, Frame.g0, Frame.g1, Frame.g2, Frame.g3, Frame.len, Frame.all, Frame.take, Frame.drop, Frame.sall, *]
      | (refine allK_intro fun n hn => ?_; try simp only [fresh_set] at hn)
      | (refine ifK_intro (fun h => ?_) (fun h => ?_) <;> (try simp only [rulesE] at h) <;> try (exfalso; (try simp only [rulesF] at h); omega))
      | (refine keeps_sub (Mem.sub_set ?_) ?_; focus (simp [Mem.set_at, nomem, *]; done))
      | (refine call_F (f34) (Seens.refl _ _) ?_)
      | (refine pure_F (f34) (Seens.refl _ _) ?_)
    rename_i n2 hn2 n4 hn4
    revert n
    intro n8 hn8
    refine call_at c19 (nomem_sub _) fun r m1' M1 hr hs1 hl1 => ?_
    generalize hpp : putF f ⟨(f.list.getD k default).from_, (f.list.getD k default).to_⟩ (f.list.getD k default).body = p at *
    obtain ⟨g, n, e⟩ := p
    obtain ⟨v, rfl, -, hv⟩ := hr
    obtain ⟨N, M, cN, cM, oN, oM, rN, rM, hne, rfl, c1, c2, hN, hM⟩ := hv.at
    obtain ⟨g4, i4⟩ := left_at hl1 (q := n4) rfl (by first | (simp [Mem.set_at, *]; done) | (simp [Mem.set_at, *]; rfl))
    have a1 := i4 _ _ hN
    have a2 := i4 _ _ hM
    have kN := hs1 _ _ hN
    have kM := hs1 _ _ hM
    clear hN hM hs1 hl1 i4 hv
    replace hpp : Kept _ := hpp
    repeat' first
      | simp -dsimp (disch := omega) only [↓rulesA, rulesB, rulesC, Int.reduceLT, nth, upd, put, storeN, AV.one, Nat.reduceBEq, Nat.reduceBNe, Int.reduceBEq, Int.reduceBNe, Int.reduceLE, Int.reduceEq, Int.reduceMod, Int.reduceNeg, boolBin, strBin, intBin, unA, fillA, ne_eq, reduceCtorEq, Nat.reduceAdd, Nat.reduceSub, Nat.reduceLeDiff, Nat.reduceLT, Nat.reduceEqDiff, Int.reduceToNat, eq_self, rulesT, rulesD, oc_is, resL_three, three_some, Fl.g0, Fl.g1, Fl.g2, Fl.len, Fl.all, Fl.take, Fl.drop, Fl.sall, *]
      | (refine allK_intro fun n hn => ?_; try simp only [fresh_set] at hn)
      | (refine ifK_intro (fun h => ?_) (fun h => ?_) <;> (try simp only [rulesE] at h) <;> try (exfalso; (try simp only [rulesF] at h); omega))
      | (refine keeps_sub (Mem.sub_set ?_) ?_; focus (simp [Mem.set_at, nomem, *]; done))
    rw [(hpp : _ = _)]
    exact res_turn (g := g) (post := [.val (.int .i64 n), .val (.int .i64 e)]) (oN := oN) (oM := oM) (rN := rN) (rM := rM) rfl rfl rfl hne c1 c2 (by simp [Mem.set_at, *]) (by simp [Mem.set_at, *])
theorem F27 (f : Fl) (x y : Bool) (q : Int) (hfit : f.list.length ≤ 65536 ∧ f.cut.length ≤ 2000000000000 ∧ 0 ≤ f.next ∧ f.next ≤ 4611686018427387904) (hnd : f.cut.Nodup) : F Try.prog 27 [.agg (f.rc x y), .val (.int .i64 q)] (res3 (doubleF f q)) := F.of_C (C.mono (C27 f x y q hfit hnd) fun r m' h => h.new)
end Go.Proofs.Ytdhbonjbjnodhaa

set_option maxRecDepth 100000
set_option maxHeartbeats 1000000
set_option linter.unusedSimpArgs false
set_option linter.unusedVariables false
namespace Go.Proofs.Ytdhbonjbjnodhaa
open Go.Abs
attribute [local irreducible] C X CC Y CV CW binK litK AppK PureC PureCV againK loopV rangeV allK ifK got onB condK V stepsK planK opK firstK seeE keepsK
theorem F60 (a : Int) : F Try.prog 60 [.val (.int .i64 a)] (.val (.bool false)) := by
  refine F60_of ?_
  unfold k60
  repeat' first
    | simp -dsimp (disch := omega) only [↓rulesA, rulesB, rulesC, Int.reduceLT, nth, upd, put, storeN, AV.one, Nat.reduceBEq, Nat.reduceBNe, Int.reduceBEq, Int.reduceBNe, Int.reduceLE, Int.reduceEq, Int.reduceMod, Int.reduceNeg, boolBin, strBin, intBin, unA, fillA, ne_eq, reduceCtorEq, Nat.reduceAdd, Nat.reduceSub, Nat.reduceLeDiff, Nat.reduceLT, Nat.reduceEqDiff, Int.reduceToNat, eq_self, rulesT, rulesD, bne_self_eq_false, *]
    | (refine allK_intro fun n hn => ?_; try simp only [fresh_set] at hn)
    | (refine ifK_intro (fun h => ?_) (fun h => ?_) <;> (try simp only [rulesE] at h) <;> try (exfalso; (try simp only [rulesF] at h); omega))
    | (refine keeps_sub (Mem.sub_set ?_) ?_; focus (simp [Mem.set_at, nomem, *]; done))
  exact .val
theorem F62 (a : Int) : F Try.prog 62 [.val (.int .i64 a)] (.val (.bool false)) := by
  refine F62_of ?_
  unfold k62
  repeat' first
    | simp -dsimp (disch := omega) only [↓rulesA, rulesB, rulesC, Int.reduceLT, nth, upd, put, storeN, AV.one, Nat.reduceBEq, Nat.reduceBNe, Int.reduceBEq, Int.reduceBNe, Int.reduceLE, Int.reduceEq, Int.reduceMod, Int.reduceNeg, boolBin, strBin, intBin, unA, fillA, ne_eq, reduceCtorEq, Nat.reduceAdd, Nat.reduceSub, Nat.reduceLeDiff, Nat.reduceLT, Nat.reduceEqDiff, Int.reduceToNat, eq_self, rulesT, rulesD, bne_self_eq_false, *]
    | (refine allK_intro fun n hn => ?_; try simp only [fresh_set] at hn)
    | (refine ifK_intro (fun h => ?_) (fun h => ?_) <;> (try simp only [rulesE] at h) <;> try (exfalso; (try simp only [rulesF] at h); omega))
    | (refine keeps_sub (Mem.sub_set ?_) ?_; focus (simp [Mem.set_at, nomem, *]; done))
  exact .val
theorem F59 (a b : Int) : F Try.prog 59 [.val (.int .i64 a), .val (.int .i64 b)] (.val (.bool (decide (a < b)))) := by
  refine F59_of ?_
  unfold k59
  repeat' first
    | simp -dsimp (disch := omega) only [↓rulesA, rulesB, rulesC, Int.reduceLT, nth, upd, put, storeN, AV.one, Nat.reduceBEq, Nat.reduceBNe, Int.reduceBEq, Int.reduceBNe, Int.reduceLE, Int.reduceEq, Int.reduceMod, Int.reduceNeg, boolBin, strBin, intBin, unA, fillA, ne_eq, reduceCtorEq, Nat.reduceAdd, Nat.reduceSub, Nat.reduceLeDiff, Nat.reduceLT, Nat.reduceEqDiff, Int.reduceToNat, eq_self, rulesT, rulesD, *]
    | (refine allK_intro fun n hn => ?_; try simp only [fresh_set] at hn)
    | (refine ifK_intro (fun h => ?_) (fun h => ?_) <;> (try simp only [rulesE] at h) <;> try (exfalso; (try simp only [rulesF] at h); omega))
    | (refine keeps_sub (Mem.sub_set ?_) ?_; focus (simp [Mem.set_at, nomem, *]; done))
    | (refine call_F (F62 a) (Seens.refl _ _) ?_)
    | (refine pure_F (F62 a) (Seens.refl _ _) ?_)
    | (refine call_F (F62 b) (Seens.refl _ _) ?_)
    | (refine pure_F (F62 b) (Seens.refl _ _) ?_)
  exact .val
structure PlaceI (l : List Int) (q : Int) (k : Nat) : Prop where
  le : k ≤ l.length
  lo : ∀ i, i < k → l.getD i default < q
  hi : ∀ i, k ≤ i → i < l.length → ¬ l.getD i default < q
def foundI (l : List Int) (q : Int) (k : Nat) : Bool := decide (k < l.length) && decide (l.getD k default = q)
theorem F55 (l : List Int) (x : Bool) (q : Int) (hl : l.length ≤ 140737488355328) (k : Nat) (hp : PlaceI l q k) : F Try.prog 55 [.vs (l.map intC) x, .val (.int .i64 q)] (.tup [.val (.int .i64 k), .val (.bool (foundI l q k))]) := by
  obtain ⟨hle, hlo, hhi⟩ := hp
  refine F55_of ?_
  unfold k55
  repeat' first
    | simp -dsimp (disch := omega) only [↓rulesA, rulesB, rulesC, Int.reduceLT, nth, upd, put, storeN, AV.one, Nat.reduceBEq, Nat.reduceBNe, Int.reduceBEq, Int.reduceBNe, Int.reduceLE, Int.reduceEq, Int.reduceMod, Int.reduceNeg, boolBin, strBin, intBin, unA, fillA, ne_eq, reduceCtorEq, Nat.reduceAdd, Nat.reduceSub, Nat.reduceLeDiff, Nat.reduceLT, Nat.reduceEqDiff, Int.reduceToNat, eq_self, rulesT, rulesD, *]
    | (refine allK_intro fun n hn => ?_; try simp only [fresh_set] at hn)
    | (refine ifK_intro (fun h => ?_) (fun h => ?_) <;> (try simp only [rulesE] at h) <;> try (exfalso; (try simp only [rulesF] at h); omega))
    | (refine keeps_sub (Mem.sub_set ?_) ?_; focus (simp [Mem.set_at, nomem, *]; done))
  refine loop_intro (fun j env m => ∃ lo hi : Nat, lo ≤ k ∧ k ≤ hi ∧ hi ≤ l.length ∧ j = hi - lo ∧ m = nomem ∧ env.length = 54 ∧ nth env 0 = .vs (l.map intC) x ∧ nth env 1 = .val (.int .i64 q) ∧ nth env 6 = .val (.int .i64 l.length) ∧ nth env 7 = .val (.int .i64 lo) ∧ nth env 8 = .val (.int .i64 hi)) l.length nomem (fun _ _ h => h) ⟨0, l.length, by omega, hle, by omega, by omega, rfl, rfl, rfl, rfl, rfl, rfl, rfl⟩ ?_
  rintro j env m ⟨lo, hi, h1, h2, h3, rfl, rfl, hlen, e0, e1, e6, e7, e8⟩
  replace hlo : Kept _ := hlo
  replace hhi : Kept _ := hhi
  have hmid : ((lo : Int) + hi) / 2 = ((lo + hi) / 2 : Nat) := by omega
  generalize hm : (lo + hi) / 2 = mid at hmid
  have c1 := F59 (l.getD mid default) q
  have c3 := F60 (l.getD lo default)
  by_cases hlt : lo < hi
  · have hml : mid < l.length := by omega
    by_cases hc : l.getD mid default < q
    · have hk1 : mid < k := by
        rcases Nat.lt_or_ge mid k with h' | h'
        · exact h'
        · exact absurd hc ((hhi : ∀ _, _) mid h' hml)
      rw [decide_eq_true hc] at c1
      clear hc
      repeat' first
        | simp -dsimp (disch := omega) only [↓rulesA, rulesB, rulesC, Int.reduceLT, nth, upd, put, storeN, AV.one, Nat.reduceBEq, Nat.reduceBNe, Int.reduceBEq, Int.reduceBNe, Int.reduceLE, Int.reduceEq, Int.reduceMod, Int.reduceNeg, boolBin, strBin, intBin, unA, fillA, ne_eq, reduceCtorEq, Nat.reduceAdd, Nat.reduceSub, Nat.reduceLeDiff, Nat.reduceLT, Nat.reduceEqDiff, Int.reduceToNat, eq_self, rulesT, rulesD, ix_31, intC_0, intC_len, cv_3_92, cv_92_3, hmid, *]
        | (refine allK_intro fun n hn => ?_; try simp only [fresh_set] at hn)
        | (refine ifK_intro (fun h => ?_) (fun h => ?_) <;> (try simp only [rulesE] at h) <;> try (exfalso; (try simp only [rulesF] at h); omega))
        | (refine keeps_sub (Mem.sub_set ?_) ?_; focus (simp [Mem.set_at, nomem, *]; done))
        | (refine call_F (c1) (Seens.refl _ _) ?_)
        | (refine pure_F (c1) (Seens.refl _ _) ?_)
      clear c1 c3 hmid
      refine again_intro (hi - (mid + 1)) (by omega) nomem (nomem_sub _) ⟨mid + 1, hi, by omega, by omega, by omega, rfl, rfl, ?_, ?_, ?_, ?_, ?_, ?_⟩
      all_goals try (simp (disch := omega) only [nth_upd, pickB_true, pickB_false, inB_lt, upd_len, cast_succ, Int.cast_ofNat_Int, Nat.reduceBEq, beq_self_eq_true, reduceCtorEq, *]; done)
    · have hk1 : k ≤ mid := by
        rcases Nat.lt_or_ge mid k with h' | h'
        · exact absurd ((hlo : ∀ _, _) mid h') hc
        · exact h'
      rw [decide_eq_false hc] at c1
      clear hc
      repeat' first
        | simp -dsimp (disch := omega) only [↓rulesA, rulesB, rulesC, Int.reduceLT, nth, upd, put, storeN, AV.one, Nat.reduceBEq, Nat.reduceBNe, Int.reduceBEq, Int.reduceBNe, Int.reduceLE, Int.reduceEq, Int.reduceMod, Int.reduceNeg, boolBin, strBin, intBin, unA, fillA, ne_eq, reduceCtorEq, Nat.reduceAdd, Nat.reduceSub, Nat.reduceLeDiff, Nat.reduceLT, Nat.reduceEqDiff, Int.reduceToNat, eq_self, rulesT, rulesD, ix_31, intC_0, intC_len, cv_3_92, cv_92_3, hmid, *]
        | (refine allK_intro fun n hn => ?_; try simp only [fresh_set] at hn)
        | (refine ifK_intro (fun h => ?_) (fun h => ?_) <;> (try simp only [rulesE] at h) <;> try (exfalso; (try simp only [rulesF] at h); omega))
        | (refine keeps_sub (Mem.sub_set ?_) ?_; focus (simp [Mem.set_at, nomem, *]; done))
        | (refine call_F (c1) (Seens.refl _ _) ?_)
        | (refine pure_F (c1) (Seens.refl _ _) ?_)
      clear c1 c3 hmid
      refine again_intro (mid - lo) (by omega) nomem (nomem_sub _) ⟨lo, mid, by omega, by omega, by omega, rfl, rfl, ?_, ?_, ?_, ?_, ?_, ?_⟩
      all_goals try (simp (disch := omega) only [nth_upd, pickB_true, pickB_false, inB_lt, upd_len, cast_succ, Int.cast_ofNat_Int, Nat.reduceBEq, beq_self_eq_true, reduceCtorEq, *]; done)
  · have hlk : lo = k := by omega
    subst hlk
    have e : foundI l q lo = (decide (lo < l.length) && (l.getD lo default == q)) := by
      unfold foundI
      congr 1
    rw [e]
    clear e c1 hmid
    by_cases hll : lo < l.length
    · rw [decide_eq_true hll, Bool.true_and]
      repeat' first
        | simp -dsimp (disch := omega) only [↓rulesA, rulesB, rulesC, Int.reduceLT, nth, upd, put, storeN, AV.one, Nat.reduceBEq, Nat.reduceBNe, Int.reduceBEq, Int.reduceBNe, Int.reduceLE, Int.reduceEq, Int.reduceMod, Int.reduceNeg, boolBin, strBin, intBin, unA, fillA, ne_eq, reduceCtorEq, Nat.reduceAdd, Nat.reduceSub, Nat.reduceLeDiff, Nat.reduceLT, Nat.reduceEqDiff, Int.reduceToNat, eq_self, rulesT, rulesD, ix_31, intC_0, intC_len, *]
        | (refine allK_intro fun n hn => ?_; try simp only [fresh_set] at hn)
        | (refine ifK_intro (fun h => ?_) (fun h => ?_) <;> (try simp only [rulesE] at h) <;> try (exfalso; (try simp only [rulesF] at h); omega))
        | (refine keeps_sub (Mem.sub_set ?_) ?_; focus (simp [Mem.set_at, nomem, *]; done))
        | (refine call_F (c3) (Seens.refl _ _) ?_)
        | (refine pure_F (c3) (Seens.refl _ _) ?_)
      all_goals exact New.eq (by simp_all) rfl
    · rw [decide_eq_false hll, Bool.false_and]
      repeat' first
        | simp -dsimp (disch := omega) only [↓rulesA, rulesB, rulesC, Int.reduceLT, nth, upd, put, storeN, AV.one, Nat.reduceBEq, Nat.reduceBNe, Int.reduceBEq, Int.reduceBNe, Int.reduceLE, Int.reduceEq, Int.reduceMod, Int.reduceNeg, boolBin, strBin, intBin, unA, fillA, ne_eq, reduceCtorEq, Nat.reduceAdd, Nat.reduceSub, Nat.reduceLeDiff, Nat.reduceLT, Nat.reduceEqDiff, Int.reduceToNat, eq_self, rulesT, rulesD, ix_31, intC_0, intC_len, *]
        | (refine allK_intro fun n hn => ?_; try simp only [fresh_set] at hn)
        | (refine ifK_intro (fun h => ?_) (fun h => ?_) <;> (try simp only [rulesE] at h) <;> try (exfalso; (try simp only [rulesF] at h); omega))
        | (refine keeps_sub (Mem.sub_set ?_) ?_; focus (simp [Mem.set_at, nomem, *]; done))
        | (refine call_F (c3) (Seens.refl _ _) ?_)
        | (refine pure_F (c3) (Seens.refl _ _) ?_)
      exact New.eq rfl rfl
def RiseI (l : List Int) : Prop := l.Pairwise (· < ·)
theorem rise_place {l : List Int} (h : RiseI l) (q : Int) : ∃ k, PlaceI l q k ∧ foundI l q k = decide (q ∈ l) := by
  have hget : ∀ i, (hi : i < l.length) → l.getD i default = l[i] := fun i hi => getD_get l i hi
  refine ⟨l.findIdx fun a => !decide (a < q), ⟨List.findIdx_le_length, fun i hi => ?_, fun i h1 h2 => ?_⟩, ?_⟩
  · have := List.not_of_lt_findIdx hi
    rw [hget i (by have := List.findIdx_le_length (xs := l) (p := fun a => !decide (a < q)); omega)]
    simpa using this
  · have hk : l.findIdx (fun a => !decide (a < q)) < l.length := by omega
    have hat := List.findIdx_getElem (xs := l) (p := fun a => !decide (a < q)) (w := hk)
    rw [hget i h2]
    by_cases e : l.findIdx (fun a => !decide (a < q)) = i
    · subst e; simpa using hat
    · have := List.pairwise_iff_getElem.1 h _ i hk h2 (by omega)
      simp at hat
      omega
  · unfold foundI
    rw [Bool.eq_iff_iff, Bool.and_eq_true, decide_eq_true_eq, decide_eq_true_eq, decide_eq_true_eq]
    constructor
    · rintro ⟨h1, h2⟩
      rw [hget _ h1] at h2
      rw [← h2]; exact List.getElem_mem h1
    · intro hm
      obtain ⟨i, hi, rfl⟩ := List.getElem_of_mem hm
      have hle : l.findIdx (fun a => !decide (a < l[i])) ≤ i := by
        rcases Nat.lt_or_ge i (l.findIdx (fun a => !decide (a < l[i]))) with h' | h'
        · have := List.not_of_lt_findIdx h'
          simp at this
        · exact h'
      have hk : l.findIdx (fun a => !decide (a < l[i])) < l.length := by omega
      refine ⟨hk, ?_⟩
      rw [hget _ hk]
      have hat := List.findIdx_getElem (xs := l) (p := fun a => !decide (a < l[i])) (w := hk)
      by_cases e : l.findIdx (fun a => !decide (a < l[i])) = i
      · congr 1
      · have := List.pairwise_iff_getElem.1 h _ i hk hi (by omega)
        simp at hat
        omega
theorem F54 (fr : Frame) (l : List Int) (x : Bool) (hl : l.length ≤ 140737488355328) (hr : RiseI l) : F Try.prog 54 [.agg fr.cells, .vp [.vs (l.map intC) x] 0] (.val (.bool (decide (fr.number ∈ l)))) := by
  obtain ⟨k, hp, hf⟩ := rise_place hr fr.number
  have f55 := F55 l x fr.number hl k hp
  rw [hf] at f55
  refine F54_of ?_
  unfold k54
  repeat' first
    | simp -dsimp (disch := omega) only [↓rulesA, rulesB, rulesC, Int.reduceLT, nth, upd, put, storeN, AV.one, Nat.reduceBEq, Nat.reduceBNe, Int.reduceBEq, Int.reduceBNe, Int.reduceLE, Int.reduceEq, Int.reduceMod, Int.reduceNeg, boolBin, strBin, intBin, unA, fillA, ne_eq, reduceCtorEq, Nat.reduceAdd, Nat.reduceSub, Nat.reduceLeDiff, Nat.reduceLT, Nat.reduceEqDiff, Int.reduceToNat, eq_self, rulesT, rulesD, Frame.g0, Frame.g1, Frame.g2, Frame.g3, Frame.len, Frame.all, Frame.take, Frame.drop, Frame.sall, *]
    | (refine allK_intro fun n hn => ?_; try simp only [fresh_set] at hn)
    | (refine ifK_intro (fun h => ?_) (fun h => ?_) <;> (try simp only [rulesE] at h) <;> try (exfalso; (try simp only [rulesF] at h); omega))
    | (refine keeps_sub (Mem.sub_set ?_) ?_; focus (simp [Mem.set_at, nomem, *]; done))
    | (refine call_F (f55) (Seens.refl _ _) ?_)
    | (refine pure_F (f55) (Seens.refl _ _) ?_)
  exact .val
end Go.Proofs.Ytdhbonjbjnodhaa

set_option maxRecDepth 100000
set_option maxHeartbeats 1000000
set_option linter.unusedSimpArgs false
set_option linter.unusedVariables false
namespace Go.Proofs.Ytdhbonjbjnodhaa
open Go.Abs
attribute [local irreducible] C X CC Y CV CW binK litK AppK PureC PureCV againK loopV rangeV allK ifK got onB condK V stepsK planK opK firstK seeE keepsK
def idxP (p : Frame → Bool) (l : List Frame) : Int := match l.findIdx? p with
  | some k => k
  | none => -1
theorem idxP_at {p : Frame → Bool} {l : List Frame} {k : Nat} (hk : k < l.length) (h : p (l.getD k default) = true) (hn : ∀ q, q < k → p (l.getD q default) = false) : idxP p l = k := by
  have : l.findIdx? p = some k := by
    rw [List.findIdx?_eq_some_iff_getElem]
    rw [getD_get l k hk] at h
    refine ⟨hk, h, fun j hj => ?_⟩
    have := hn j hj
    rw [getD_get l j (by omega)] at this
    simpa using this
  unfold idxP; rw [this]
theorem idxP_no {p : Frame → Bool} {l : List Frame} (h : ∀ q, q < l.length → p (l.getD q default) = false) : idxP p l = -1 := by
  have : l.findIdx? p = none := by
    rw [List.findIdx?_eq_none_iff]
    intro x hx
    obtain ⟨q, hq, rfl⟩ := List.getElem_of_mem hx
    have := h q hq
    rwa [getD_get l q hq] at this
  unfold idxP; rw [this]
theorem P49 (l : List Frame) (x : Bool) (c : AV) (p : Frame → Bool) (hq : ∀ fr : Frame, F Try.prog 54 [.agg fr.cells, c] (.val (.bool (p fr)))) (hl : l.length ≤ 140737488355328) : F Try.prog 49 [.vs (l.map Frame.cells) x, .fn (.func 54) [] [c]] (.val (.int .i64 (idxP p l))) := by
  refine F49_of ?_
  unfold k49
  repeat' first
    | simp -dsimp (disch := omega) only [↓rulesA, rulesB, rulesC, Int.reduceLT, nth, upd, put, storeN, AV.one, Nat.reduceBEq, Nat.reduceBNe, Int.reduceBEq, Int.reduceBNe, Int.reduceLE, Int.reduceEq, Int.reduceMod, Int.reduceNeg, boolBin, strBin, intBin, unA, fillA, ne_eq, reduceCtorEq, Nat.reduceAdd, Nat.reduceSub, Nat.reduceLeDiff, Nat.reduceLT, Nat.reduceEqDiff, Int.reduceToNat, eq_self, rulesT, rulesD, *]
    | (refine allK_intro fun n hn => ?_; try simp only [fresh_set] at hn)
    | (refine ifK_intro (fun h => ?_) (fun h => ?_) <;> (try simp only [rulesE] at h) <;> try (exfalso; (try simp only [rulesF] at h); omega))
    | (refine keeps_sub (Mem.sub_set ?_) ?_; focus (simp [Mem.set_at, nomem, *]; done))
  refine loop_intro (fun j env m => ∃ i : Nat, i ≤ l.length ∧ j = l.length - i ∧ m = nomem ∧ Kept (∀ q, q < i → p (l.getD q default) = false) ∧ env.length = 19 ∧ nth env 0 = .vs (l.map Frame.cells) x ∧ nth env 1 = .fn (.func 54) [] [c] ∧ nth env 7 = .val (.int .i64 l.length) ∧ nth env 8 = .val (.int .i64 i)) l.length _ (Mem.sub.refl _) ⟨0, by omega, rfl, rfl, fun q hq => absurd hq (Nat.not_lt_zero _), rfl, rfl, rfl, rfl, rfl⟩ ?_
  rintro j env m ⟨i, hi, rfl, rfl, hno, hlen, e0, e1, e7, e8⟩
  by_cases hil : i < l.length
  · have f54 := hq (l.getD i default)
    cases hn : p (l.getD i default) with
    | true =>
      rw [idxP_at hil hn hno]
      rw [hn] at f54
      clear hno hn hq
      repeat' first
        | simp -dsimp (disch := omega) only [↓rulesA, rulesB, rulesC, Int.reduceLT, nth, upd, put, storeN, AV.one, Nat.reduceBEq, Nat.reduceBNe, Int.reduceBEq, Int.reduceBNe, Int.reduceLE, Int.reduceEq, Int.reduceMod, Int.reduceNeg, boolBin, strBin, intBin, unA, fillA, ne_eq, reduceCtorEq, Nat.reduceAdd, Nat.reduceSub, Nat.reduceLeDiff, Nat.reduceLT, Nat.reduceEqDiff, Int.reduceToNat, eq_self, rulesT, rulesD, ix_22, Frame.g0, Frame.g1, Frame.g2, Frame.g3, Frame.len, Frame.all, Frame.take, Frame.drop, Frame.sall, *]
        | (refine allK_intro fun n hn => ?_; try simp only [fresh_set] at hn)
        | (refine ifK_intro (fun h => ?_) (fun h => ?_) <;> (try simp only [rulesE] at h) <;> try (exfalso; (try simp only [rulesF] at h); omega))
        | (refine keeps_sub (Mem.sub_set ?_) ?_; focus (simp [Mem.set_at, nomem, *]; done))
        | (refine call_F (f54) (Seens.refl _ _) ?_)
        | (refine pure_F (f54) (Seens.refl _ _) ?_)
      exact .val
    | false =>
      rw [hn] at f54
      have hno' : Kept (∀ q, q < i + 1 → p (l.getD q default) = false) := fun q hq => by
        rcases Nat.lt_or_ge q i with h | h
        · exact (hno : ∀ q, _) q h
        · rw [show q = i by omega]; exact hn
      clear hno hn hq
      repeat' first
        | simp -dsimp (disch := omega) only [↓rulesA, rulesB, rulesC, Int.reduceLT, nth, upd, put, storeN, AV.one, Nat.reduceBEq, Nat.reduceBNe, Int.reduceBEq, Int.reduceBNe, Int.reduceLE, Int.reduceEq, Int.reduceMod, Int.reduceNeg, boolBin, strBin, intBin, unA, fillA, ne_eq, reduceCtorEq, Nat.reduceAdd, Nat.reduceSub, Nat.reduceLeDiff, Nat.reduceLT, Nat.reduceEqDiff, Int.reduceToNat, eq_self, rulesT, rulesD, ix_22, Frame.g0, Frame.g1, Frame.g2, Frame.g3, Frame.len, Frame.all, Frame.take, Frame.drop, Frame.sall, *]
        | (refine allK_intro fun n hn => ?_; try simp only [fresh_set] at hn)
        | (refine ifK_intro (fun h => ?_) (fun h => ?_) <;> (try simp only [rulesE] at h) <;> try (exfalso; (try simp only [rulesF] at h); omega))
        | (refine keeps_sub (Mem.sub_set ?_) ?_; focus (simp [Mem.set_at, nomem, *]; done))
        | (refine call_F (f54) (Seens.refl _ _) ?_)
        | (refine pure_F (f54) (Seens.refl _ _) ?_)
      refine again_intro (l.length - (i + 1)) (by omega) nomem (nomem_sub _) ⟨i + 1, by omega, rfl, rfl, hno', ?_, ?_, ?_, ?_, ?_⟩
      all_goals try (simp (disch := omega) only [nth_upd, pickB_true, pickB_false, inB_lt, upd_len, cast_succ, Int.cast_ofNat_Int, Nat.reduceBEq, beq_self_eq_true, reduceCtorEq, *]; done)
  · have : idxP p l = -1 := idxP_no fun q hq => (hno : ∀ q, _) q (by omega)
    rw [this]
    clear this hno hq
    repeat' first
      | simp -dsimp (disch := omega) only [↓rulesA, rulesB, rulesC, Int.reduceLT, nth, upd, put, storeN, AV.one, Nat.reduceBEq, Nat.reduceBNe, Int.reduceBEq, Int.reduceBNe, Int.reduceLE, Int.reduceEq, Int.reduceMod, Int.reduceNeg, boolBin, strBin, intBin, unA, fillA, ne_eq, reduceCtorEq, Nat.reduceAdd, Nat.reduceSub, Nat.reduceLeDiff, Nat.reduceLT, Nat.reduceEqDiff, Int.reduceToNat, eq_self, rulesT, rulesD, *]
      | (refine allK_intro fun n hn => ?_; try simp only [fresh_set] at hn)
      | (refine ifK_intro (fun h => ?_) (fun h => ?_) <;> (try simp only [rulesE] at h) <;> try (exfalso; (try simp only [rulesF] at h); omega))
      | (refine keeps_sub (Mem.sub_set ?_) ?_; focus (simp [Mem.set_at, nomem, *]; done))
    exact .val
theorem partJ (l : List Frame) (J : List AV) (k : Nat) (hk : k < l.length) : (((l.map Frame.cells).flatten ++ J).drop (k * 4)).take 4 = (l.getD k default).cells := by
  have hln : (l.map Frame.cells).flatten.length = l.length * 4 := Frame.rlen l
  rw [List.drop_append_of_le_length (by rw [hln]; omega), List.take_append_of_le_length (by rw [List.length_drop, hln]; omega)]
  exact Frame.rpart l k hk
theorem inJ (l : List Frame) (J : List AV) (k j : Nat) (hk : k < l.length) (hj : j ≤ 4) : (k * 4 + j ≤ ((l.map Frame.cells).flatten ++ J).length) = True := by
  rw [List.length_append, Frame.rlen]
  exact eq_true (by omega)
theorem setJ (l : List Frame) (J : List AV) (k : Nat) (hk : k < l.length) (d : Frame) : setRange ((l.map Frame.cells).flatten ++ J) (k * 4) d.cells = ((l.set k d).map Frame.cells).flatten ++ J := by
  rw [← Frame.rset l k hk d]
  have hln : (l.map Frame.cells).flatten.length = l.length * 4 := Frame.rlen l
  have hd : d.cells.length = 4 := rfl
  unfold setRange
  rw [List.take_append_of_le_length (by rw [hln]; omega), List.drop_append_of_le_length (by rw [hln, hd]; omega), List.append_assoc, List.append_assoc, List.append_assoc]
def keptTo (p : Frame → Bool) (l : List Frame) (i : Nat) : List Frame := (l.take i).filter fun a => !p a
theorem kept_next {p : Frame → Bool} {l : List Frame} {i : Nat} (hi : i < l.length) : keptTo p l (i + 1) = if p (l.getD i default) then keptTo p l i else keptTo p l i ++ [l.getD i default] := by
  unfold keptTo
  rw [tk_next l i hi, List.filter_append]
  generalize l.getD i default = w
  cases h : p w <;> simp [h]
theorem kept_all (p : Frame → Bool) (l : List Frame) : keptTo p l l.length = l.filter fun a => !p a := by unfold keptTo; rw [List.take_length]
theorem keep_rest {m : Mem} {n N : Nat} {b : Blk} (hN : m N = none) : ∀ q b', q ≠ n → m q = some b' → ((m.del n).set N b) q = some b' := fun q b' hq hb => by
  have hqN : q ≠ N := fun e => by rw [e, hN] at hb; cases hb
  rw [Mem.set_ne _ _ hqN]; unfold Mem.del; rw [if_neg hq]; exact hb
theorem keep_new {m M : Mem} {n k : Nat} {b : Blk} (h : ∀ q b', q ≠ n → m q = some b' → M q = some b') (hk : M k = none) : ∀ q b', q ≠ n → m q = some b' → (M.set k b) q = some b' := fun q b' hq hb => by
  have := h q b' hq hb
  have hqk : q ≠ k := fun e => by rw [e, hk] at this; cases this
  rw [Mem.set_ne _ _ hqk]; exact this
theorem seen_fn2 {m : Mem} {f : Fn} {a b : AV} (h : Seen m a b) : Seen m (.fn f [] [a]) (.fn f [] [b]) :=
  .fn rfl (fun i a b => by cases a) rfl fun i a b => by
    match i, a with
    | 0, _ => exact h
theorem Seen.rowPre {α : Type} (f : α → List AV) {s : Nat} (hf : ∀ a, (f a).length = s) (l : List α) {m : Mem} {n cap : Nat} {opn : Bool} {t : TypeId} {rest : List AV} (hm : m n = some (.cells opn t ((l.map f).flatten ++ rest))) :
    Seen m (.sl n 0 l.length cap) (.vs (l.map f) false) := by
  have hall : ∀ e ∈ l.map f, e.length = s := fun e he => by obtain ⟨a, _, rfl⟩ := List.mem_map.1 he; exact hf a
  refine Seen.sl (s := s) hm (by rw [List.length_append, flatten_len hall, List.length_map]; omega) (by simp) hall fun i hi j hj hk => ?_
  have hi' : i < l.length := by simpa using hi
  have hjs : j < s := by rw [hall _ (List.getElem_mem hi)] at hj; exact hj
  have hin : i * s + j < (l.map f).flatten.length := by
    rw [flatten_len hall, List.length_map]
    have : (i + 1) * s ≤ l.length * s := Nat.mul_le_mul_right _ hi'
    rw [Nat.add_mul] at this; omega
  have := flatten_get hall i hi j hj hin
  simp only [Nat.zero_add]
  rw [List.getElem_append_left hin, this]
  exact .same
theorem cleans_drop : ∀ (k : Nat) {l : List AV}, AV.clean.cleans l = true → AV.clean.cleans (l.drop k) = true
  | 0, l, h => h
  | k + 1, [], h => h
  | k + 1, x :: l, h => cleans_drop k (by
      have h : (x.clean && AV.clean.cleans l) = true := h
      rw [Bool.and_eq_true] at h; exact h.2)
theorem clean_reps (n : Nat) (z : List AV) (h : AV.clean.cleans z = true) : AV.clean.cleans (List.replicate n z).flatten = true := cleansFlatten fun e he => by rw [List.eq_of_mem_replicate he]; exact h
theorem clear_rest (L : List Frame) (J : List AV) (i n : Nat) (hi : i ≤ L.length) (hJ : AV.clean.cleans J = true) (z : List AV) (hz : AV.clean.cleans z = true) : ∃ rest, setRange ((L.map Frame.cells).flatten ++ J) (i * 4) (List.replicate n z).flatten = ((L.take i).map Frame.cells).flatten ++ rest ∧ AV.clean.cleans rest = true := by
  have hln : (L.map Frame.cells).flatten.length = L.length * 4 := Frame.rlen L
  refine ⟨(List.replicate n z).flatten ++ ((L.map Frame.cells).flatten ++ J).drop (i * 4 + (List.replicate n z).flatten.length), ?_, ?_⟩
  · have htk : ((L.map Frame.cells).flatten ++ J).take (i * 4) = ((L.take i).map Frame.cells).flatten := by
      rw [List.take_append_of_le_length (by rw [hln]; omega)]
      have := flatten_take (s := 4) (es := L.map Frame.cells) (fun e he => by obtain ⟨a, _, rfl⟩ := List.mem_map.1 he; rfl) i
      rw [this, List.map_take]
    unfold setRange
    rw [htk, List.append_assoc]
  · rw [cleans_append, clean_reps _ _ hz, Bool.true_and]
    exact cleans_drop _ (clean_row Frame.cells fflat hJ)
theorem sub_two {M : Mem} {N n : Nat} {b x b' : Blk} (hn : n ≠ N) (hM : M n = none) : (M.set N b').sub (((M.set N b).set n x).set N b') := fun q c hq => by
  by_cases e : q = N
  · subst e; rw [Mem.set_same] at hq ⊢; exact hq
  · rw [Mem.set_ne _ _ e] at hq ⊢
    by_cases e' : q = n
    · subst e'; rw [hM] at hq; cases hq
    · rw [Mem.set_ne _ _ e', Mem.set_ne _ _ e]; exact hq
theorem C53 (l : List Frame) (p : Frame → Bool) (c c' : AV) (hq : ∀ fr : Frame, F Try.prog 54 [.agg fr.cells, c] (.val (.bool (p fr)))) {m : Mem} {n0 : Nat} (hm : m n0 = some (.cells true 44 (l.map Frame.cells).flatten)) (hsee : ∀ M : Mem, (∀ q b', q ≠ n0 → m q = some b' → M q = some b') → Seen M c' c) (hl : l.length ≤ 65536) :
    C Try.prog 53 [.sl n0 0 l.length l.length, .fn (.func 54) [] [c']] m (fun r m' => ∃ N k o rest, r = .sl N 0 (l.filter fun a => !p a).length k ∧ m' N = some (.cells o 44 (((l.filter fun a => !p a).map Frame.cells).flatten ++ rest)) ∧ AV.clean.cleans rest = true) := by
  have f49 := P49 l false c p hq (by omega)
  cases hx : l.findIdx? p with
  | none =>
    rw [show idxP p l = -1 by unfold idxP; rw [hx]] at f49
    have hkeep : (l.filter fun a => !p a) = l := by
      rw [List.filter_eq_self]
      intro a ha
      have := List.findIdx?_eq_none_iff.1 hx a ha
      simp [this]
    rw [hkeep]
    clear hkeep hx hq
    refine C53_of ?_
    unfold k53
    have hs := hsee m (fun _ _ _ h => h)
    have hsn := Seens.two (Seen.row Frame.cells (s := 4) (cap := l.length) (fun _ => rfl) l hm) (seen_fn2 (f := .func 54) hs)
    repeat' first
      | simp -dsimp (disch := omega) only [↓rulesA, rulesB, rulesC, Int.reduceLT, nth, upd, put, storeN, AV.one, Nat.reduceBEq, Nat.reduceBNe, Int.reduceBEq, Int.reduceBNe, Int.reduceLE, Int.reduceEq, Int.reduceMod, Int.reduceNeg, boolBin, strBin, intBin, unA, fillA, ne_eq, reduceCtorEq, Nat.reduceAdd, Nat.reduceSub, Nat.reduceLeDiff, Nat.reduceLT, Nat.reduceEqDiff, Int.reduceToNat, eq_self, rulesT, rulesD, *]
      | (refine allK_intro fun n hn => ?_; try simp only [fresh_set] at hn)
      | (refine ifK_intro (fun h => ?_) (fun h => ?_) <;> (try simp only [rulesE] at h) <;> try (exfalso; (try simp only [rulesF] at h); omega))
      | (refine keeps_sub (Mem.sub_set ?_) ?_; focus (simp [Mem.set_at, nomem, *]; done))
      | (refine call_F (f49) (hsn) ?_)
      | (refine pure_F (f49) (hsn) ?_)
    exact ⟨n0, _, true, [], rfl, by rw [List.append_nil]; exact hm, rfl⟩
  | some k =>
    rw [show idxP p l = k by unfold idxP; rw [hx]] at f49
    obtain ⟨hk, hpk, hbe⟩ := List.findIdx?_eq_some_iff_getElem.1 hx
    have hkt : keptTo p l k = l.take k := by
      unfold keptTo
      rw [List.filter_eq_self]
      intro a ha
      obtain ⟨i, hi, rfl⟩ := List.getElem_of_mem ha
      rw [List.length_take] at hi
      have := hbe i (by omega)
      rw [List.getElem_take]
      simpa using this
    have hkt1 : keptTo p l (k + 1) = l.take k := by rw [kept_next hk, getD_get l k hk, if_pos hpk, hkt]
    have hlt : (l.filter fun a => !p a).length < l.length := by
      rcases Nat.lt_or_ge (l.filter fun a => !p a).length l.length with h | h
      · exact h
      · exfalso
        have := List.length_filter_eq_length_iff.1 (Nat.le_antisymm (List.length_filter_le _ _) h) l[k] (List.getElem_mem hk)
        simp [hpk] at this
    clear hx hkt hpk hbe
    refine C.reveal (pre := []) is53.fn hm (by omega) (by rw [cs_44, Frame.rlen]) fun c0 N hc hN => C53_of ?_
    rw [cs_44]
    have hJ : AV.clean.cleans (List.replicate ((c0 - l.length) * 4) AV.junk) = true := cleansJunk _
    generalize List.replicate ((c0 - l.length) * 4) AV.junk = J at hJ ⊢
    unfold k53
    have hs := hsee _ (keep_rest (b := .cells false 44 ((l.map Frame.cells).flatten ++ J)) hN)
    replace hkt1 : Kept _ := hkt1
    replace hsee : Kept _ := hsee
    replace hq : Kept _ := hq
    have hsn := Seens.two (Seen.rowPre Frame.cells (s := 4) (cap := c0) (fun _ => rfl) l (Mem.set_same (m.del n0) N (.cells false 44 ((l.map Frame.cells).flatten ++ J)))) (seen_fn2 (f := .func 54) hs)
    repeat' first
      | simp -dsimp (disch := omega) only [↓rulesA, rulesB, rulesC, Int.reduceLT, nth, upd, put, storeN, AV.one, Nat.reduceBEq, Nat.reduceBNe, Int.reduceBEq, Int.reduceBNe, Int.reduceLE, Int.reduceEq, Int.reduceMod, Int.reduceNeg, boolBin, strBin, intBin, unA, fillA, ne_eq, reduceCtorEq, Nat.reduceAdd, Nat.reduceSub, Nat.reduceLeDiff, Nat.reduceLT, Nat.reduceEqDiff, Int.reduceToNat, eq_self, rulesT, rulesD, *]
      | (refine allK_intro fun n hn => ?_; try simp only [fresh_set] at hn)
      | (refine ifK_intro (fun h => ?_) (fun h => ?_) <;> (try simp only [rulesE] at h) <;> try (exfalso; (try simp only [rulesF] at h); omega))
      | (refine keeps_sub (Mem.sub_set ?_) ?_; focus (simp [Mem.set_at, nomem, *]; done))
      | (refine call_F (f49) (hsn) ?_)
      | (refine pure_F (f49) (hsn) ?_)
    clear f49 hsn hs
    refine loop_intro (fun jj env m1 => ∃ (j : Nat) (L : List Frame), k + 1 ≤ j ∧ j ≤ l.length ∧ jj = l.length - j ∧ L.length = l.length ∧ (keptTo p l j).length < j ∧ Kept (L.take (keptTo p l j).length = keptTo p l j) ∧ Kept (L.drop j = l.drop j) ∧ m1 = (m.del n0).set N (.cells false 44 ((L.map Frame.cells).flatten ++ J)) ∧ env.length = 42 ∧ nth env 0 = .sl N 0 l.length c0 ∧ nth env 1 = .fn (.func 54) [] [c'] ∧ nth env 5 = .val (.int .i64 (keptTo p l j).length) ∧ nth env 6 = .val (.int .i64 j)) (l.length - (k + 1)) _ (Mem.sub.refl _) ⟨k + 1, l, by omega, by omega, rfl, rfl, by rw [(hkt1 : _ = _), List.length_take]; omega, by rw [(hkt1 : _ = _)]; show _ = _; rw [List.length_take, Nat.min_eq_left (by omega)], rfl, rfl, rfl, rfl, rfl, ?_, rfl⟩ ?_
    · rw [(hkt1 : _ = _), List.length_take, Nat.min_eq_left (by omega)]
      rfl
    rintro jj env m1 ⟨j, L, hj1, hj2, rfl, hL, hlt', htk, hdr, rfl, hlen, e0, e1, e5, e6⟩
    have eL : ∀ i, i < l.length → L.drop i = l.drop i → L.getD i default = l.getD i default := fun i hi he => by
      have := congrArg (fun q => q.getD 0 default) he
      simpa [List.getD_eq_getElem?_getD] using this
    by_cases hjl : j < l.length
    · have e := eL j hjl hdr
      have hjL : j < L.length := by omega
      have hlJ := inJ L J
      have hlp := partJ L J
      have f54 := (hq : ∀ _, _) (l.getD j default)
      have hkn := kept_next (p := p) hjl
      have hdr' : Kept (L.drop (j + 1) = l.drop (j + 1)) := by
        show _ = _
        rw [← List.drop_drop, ← List.drop_drop, (hdr : _ = _)]
      have hsN := fun (q : Nat) (b : Blk) hq => (hsee : ∀ _, _) _ (keep_new (k := q) (b := b) (keep_rest (b := .cells false 44 ((L.map Frame.cells).flatten ++ J)) hN) hq)
      clear eL
      cases hpj : p (l.getD j default) with
      | true =>
        rw [hpj] at f54 hkn
        rw [if_pos rfl] at hkn
        clear hpj
        repeat' first
          | simp -dsimp (disch := omega) only [↓rulesA, rulesB, rulesC, Int.reduceLT, nth, upd, put, storeN, AV.one, Nat.reduceBEq, Nat.reduceBNe, Int.reduceBEq, Int.reduceBNe, Int.reduceLE, Int.reduceEq, Int.reduceMod, Int.reduceNeg, boolBin, strBin, intBin, unA, fillA, ne_eq, reduceCtorEq, Nat.reduceAdd, Nat.reduceSub, Nat.reduceLeDiff, Nat.reduceLT, Nat.reduceEqDiff, Int.reduceToNat, eq_self, rulesT, rulesD, T_22.ix, T_22.len, inJ, partJ, e, Frame.g0, Frame.g1, Frame.g2, Frame.g3, Frame.len, Frame.all, Frame.take, Frame.drop, Frame.sall, *]
          | (refine allK_intro fun n hn => ?_; try simp only [fresh_set] at hn)
          | (refine ifK_intro (fun h => ?_) (fun h => ?_) <;> (try simp only [rulesE] at h) <;> try (exfalso; (try simp only [rulesF] at h); omega))
          | (refine keeps_sub (Mem.sub_set ?_) ?_; focus (simp [Mem.set_at, nomem, *]; done))
          | (refine call_F (f54) (.two .same (hsN _ _ (by simp [Mem.set_at, *]))) ?_)
          | (refine pure_F (f54) (.two .same (hsN _ _ (by simp [Mem.set_at, *]))) ?_)
        refine again_intro (l.length - (j + 1)) (by omega) ((m.del n0).set N (.cells false 44 ((L.map Frame.cells).flatten ++ J))) (Mem.sub_set (by simp [Mem.set_at, *])) ⟨j + 1, L, by omega, by omega, rfl, hL, by rw [hkn]; omega, by rw [hkn]; exact htk, hdr', rfl, ?_, ?_, ?_, ?_, ?_⟩
        all_goals try (simp (disch := omega) only [nth_upd, pickB_true, pickB_false, inB_lt, upd_len, cast_succ, Int.cast_ofNat_Int, Nat.reduceBEq, beq_self_eq_true, reduceCtorEq, *]; done)
      | false =>
        rw [hpj] at f54 hkn
        rw [if_neg (by decide)] at hkn
        clear hpj
        have hst := setJ L J (keptTo p l j).length (by omega) (l.getD j default)
        repeat' first
          | simp -dsimp (disch := omega) only [↓rulesA, rulesB, rulesC, Int.reduceLT, nth, upd, put, storeN, AV.one, Nat.reduceBEq, Nat.reduceBNe, Int.reduceBEq, Int.reduceBNe, Int.reduceLE, Int.reduceEq, Int.reduceMod, Int.reduceNeg, boolBin, strBin, intBin, unA, fillA, ne_eq, reduceCtorEq, Nat.reduceAdd, Nat.reduceSub, Nat.reduceLeDiff, Nat.reduceLT, Nat.reduceEqDiff, Int.reduceToNat, eq_self, rulesT, rulesD, T_22.ix, T_22.len, inJ, partJ, e, Frame.g0, Frame.g1, Frame.g2, Frame.g3, Frame.len, Frame.all, Frame.take, Frame.drop, Frame.sall, *]
          | (refine allK_intro fun n hn => ?_; try simp only [fresh_set] at hn)
          | (refine ifK_intro (fun h => ?_) (fun h => ?_) <;> (try simp only [rulesE] at h) <;> try (exfalso; (try simp only [rulesF] at h); omega))
          | (refine keeps_sub (Mem.sub_set ?_) ?_; focus (simp [Mem.set_at, nomem, *]; done))
          | (refine call_F (f54) (.two .same (hsN _ _ (by simp [Mem.set_at, *]))) ?_)
          | (refine pure_F (f54) (.two .same (hsN _ _ (by simp [Mem.set_at, *]))) ?_)
        have hkl : (keptTo p l (j + 1)).length = (keptTo p l j).length + 1 := by rw [hkn]; simp
        refine again_intro (l.length - (j + 1)) (by omega) ((m.del n0).set N (.cells false 44 (((L.set (keptTo p l j).length (l.getD j default)).map Frame.cells).flatten ++ J))) ?_ ⟨j + 1, L.set (keptTo p l j).length (l.getD j default), by omega, by omega, rfl, by simp [hL], by omega, ?_, ?_, rfl, ?_, ?_, ?_, ?_, ?_⟩
        · exact sub_two hn.1 hn.2.2
        · show _ = _
          rw [hkl, hkn, List.take_add_one, List.take_set_of_le (Nat.le_refl _), (htk : _ = _)]
          rw [List.getElem?_set_self (by omega)]; rfl
        · show _ = _
          rw [List.drop_set_of_lt (by omega)]; exact hdr'
        · all_goals try (simp (disch := omega) only [nth_upd, pickB_true, pickB_false, inB_lt, upd_len, cast_succ, Int.cast_ofNat_Int, Nat.reduceBEq, beq_self_eq_true, reduceCtorEq, *]; done)
        · all_goals try (simp (disch := omega) only [nth_upd, pickB_true, pickB_false, inB_lt, upd_len, cast_succ, Int.cast_ofNat_Int, Nat.reduceBEq, beq_self_eq_true, reduceCtorEq, *]; done)
        · all_goals try (simp (disch := omega) only [nth_upd, pickB_true, pickB_false, inB_lt, upd_len, cast_succ, Int.cast_ofNat_Int, Nat.reduceBEq, beq_self_eq_true, reduceCtorEq, *]; done)
        · rw [show ((keptTo p l (j + 1)).length : Int) = (keptTo p l j).length + 1 by rw [hkl]; rfl]
          all_goals try (simp (disch := omega) only [nth_upd, pickB_true, pickB_false, inB_lt, upd_len, cast_succ, Int.cast_ofNat_Int, Nat.reduceBEq, beq_self_eq_true, reduceCtorEq, *]; done)
        · all_goals try (simp (disch := omega) only [nth_upd, pickB_true, pickB_false, inB_lt, upd_len, cast_succ, Int.cast_ofNat_Int, Nat.reduceBEq, beq_self_eq_true, reduceCtorEq, *]; done)
    · have hjn : j = l.length := by omega
      subst hjn
      have hkl := congrArg List.length (kept_all p l)
      rw [kept_all] at htk e5
      clear hkt1 hsee hq eL hdr hlt'
      obtain ⟨rest, hr, hrc⟩ := clear_rest L J (l.filter fun a => !p a).length (l.length - (l.filter fun a => !p a).length) (by omega) hJ _ (show AV.clean.cleans [.val (.int .i64 0), .val (.int .i64 0), .val (.int .i64 0), .val (.string ⟨#[]⟩)] = true from rfl)
      rw [(htk : _ = _)] at hr
      generalize (l.filter fun a => !p a) = R at *
      repeat' first
        | simp -dsimp (disch := omega) only [↓rulesA, rulesB, rulesC, Int.reduceLT, nth, upd, put, storeN, AV.one, Nat.reduceBEq, Nat.reduceBNe, Int.reduceBEq, Int.reduceBNe, Int.reduceLE, Int.reduceEq, Int.reduceMod, Int.reduceNeg, boolBin, strBin, intBin, unA, fillA, ne_eq, reduceCtorEq, Nat.reduceAdd, Nat.reduceSub, Nat.reduceLeDiff, Nat.reduceLT, Nat.reduceEqDiff, Int.reduceToNat, eq_self, rulesT, rulesD, T_22.ix, T_22.len, T_22.sl, T_22.lenr, T_22.cap, T_22.cs, bnd_all, Frame.g0, Frame.g1, Frame.g2, Frame.g3, Frame.len, Frame.all, Frame.take, Frame.drop, Frame.sall, *]
        | (refine allK_intro fun n hn => ?_; try simp only [fresh_set] at hn)
        | (refine ifK_intro (fun h => ?_) (fun h => ?_) <;> (try simp only [rulesE] at h) <;> try (exfalso; (try simp only [rulesF] at h); omega))
        | (refine keeps_sub (Mem.sub_set ?_) ?_; focus (simp [Mem.set_at, nomem, *]; done))
      obtain ⟨si, s1, s2⟩ := T_22.ht
      have hln : (L.map Frame.cells).flatten.length = L.length * 4 := Frame.rlen L
      rw [clearA_own s1 s2 T_22.hz (Mem.set_same _ _ _) (by omega) (by rw [T_22.zl]; exact T_22.pos) (by
        rw [List.length_append, hln, hL]; show R.length * 4 + (l.length - R.length) * 4 ≤ _; omega)]
      rw [hr]
      repeat' first
        | simp -dsimp (disch := omega) only [↓rulesA, rulesB, rulesC, Int.reduceLT, nth, upd, put, storeN, AV.one, Nat.reduceBEq, Nat.reduceBNe, Int.reduceBEq, Int.reduceBNe, Int.reduceLE, Int.reduceEq, Int.reduceMod, Int.reduceNeg, boolBin, strBin, intBin, unA, fillA, ne_eq, reduceCtorEq, Nat.reduceAdd, Nat.reduceSub, Nat.reduceLeDiff, Nat.reduceLT, Nat.reduceEqDiff, Int.reduceToNat, eq_self, rulesT, rulesD, T_22.ix, T_22.len, T_22.sl, T_22.lenr, T_22.cap, T_22.cs, bnd_all, Frame.g0, Frame.g1, Frame.g2, Frame.g3, Frame.len, Frame.all, Frame.take, Frame.drop, Frame.sall, *]
        | (refine allK_intro fun n hn => ?_; try simp only [fresh_set] at hn)
        | (refine ifK_intro (fun h => ?_) (fun h => ?_) <;> (try simp only [rulesE] at h) <;> try (exfalso; (try simp only [rulesF] at h); omega))
        | (refine keeps_sub (Mem.sub_set ?_) ?_; focus (simp [Mem.set_at, nomem, *]; done))
      exact ⟨N, c0, false, rest, rfl, by simp [Mem.set_at], hrc⟩
end Go.Proofs.Ytdhbonjbjnodhaa

set_option maxRecDepth 100000
set_option maxHeartbeats 1000000
set_option linter.unusedSimpArgs false
set_option linter.unusedVariables false
namespace Go.Proofs.Ytdhbonjbjnodhaa
open Go.Abs
attribute [local irreducible] C X CC Y CV CW binK litK AppK PureC PureCV againK loopV rangeV allK ifK got onB condK V stepsK planK opK firstK seeE keepsK
theorem C28p (nx : Int) (v u : AV) (o1 : AV.one v = true) (o2 : AV.one u = true) (w : Way) (any : Bool) : C Try.prog 28 [.agg [.val (.int .i64 nx), v, u], .agg w.cells, .val (.bool any)] nomem (fun q m' => ∃ A B D, A ≠ B ∧ A ≠ D ∧ B ≠ D ∧ q = .fn (.func 46) [] [.ptr A 0, .ptr B 0, .ptr D 0] ∧ m' A = some (.cells false 25 [.val (.int .i64 nx), v, u]) ∧ m' B = some (.cells false 60 w.cells) ∧ m' D = some (.cells false 4 [.val (.bool any)])) := by
  unfold AV.one at o1 o2
  refine C28_of ?_
  unfold k28
  repeat' first
    | simp -dsimp (disch := omega) only [↓rulesA, rulesB, rulesC, Int.reduceLT, nth, upd, put, storeN, AV.one, Nat.reduceBEq, Nat.reduceBNe, Int.reduceBEq, Int.reduceBNe, Int.reduceLE, Int.reduceEq, Int.reduceMod, Int.reduceNeg, boolBin, strBin, intBin, unA, fillA, ne_eq, reduceCtorEq, Nat.reduceAdd, Nat.reduceSub, Nat.reduceLeDiff, Nat.reduceLT, Nat.reduceEqDiff, Int.reduceToNat, eq_self, rulesT, rulesD, mkFnA, staticFn, Fl.g0, Fl.g1, Fl.g2, Fl.len, Fl.all, Fl.take, Fl.drop, Fl.sall, Way.g0, Way.g1, Way.len, Way.all, Way.take, Way.drop, Way.sall, *]
    | (refine allK_intro fun n hn => ?_; try simp only [fresh_set] at hn)
    | (refine ifK_intro (fun h => ?_) (fun h => ?_) <;> (try simp only [rulesE] at h) <;> try (exfalso; (try simp only [rulesF] at h); omega))
    | (refine keeps_sub (Mem.sub_set ?_) ?_; focus (simp [Mem.set_at, nomem, *]; done))
  rename_i a ha b hb
  exact ⟨a, b, n, by simp [*], by simp [*], by simp [*], rfl, by simp [Mem.set_at, *], by simp [Mem.set_at, *], by simp [Mem.set_at, *]⟩
def LoseB (A B D N : Nat) (nx : Int) (c : Nat) (u : AV) (l : List Frame) (w : Way) (any : Bool) (_ : Nat) (m : Mem) : Prop :=
  m A = some (.cells false 25 [.val (.int .i64 nx), .sl N 0 l.length c, u]) ∧ m B = some (.cells false 60 w.cells) ∧ m D = some (.cells false 4 [.val (.bool any)]) ∧ m N = some (.cells true 44 (l.map Frame.cells).flatten)
theorem I46p (A B D N : Nat) (nx : Int) (c : Nat) (u : AV) (o2 : AV.one u = true) (l : List Frame) (w : Way) (any : Bool) (hl : l.length ≤ 140737488355328) : IterOn Try.prog 46 [] [.ptr A 0, .ptr B 0, .ptr D 0] (LoseB A B D N nx c u l w any) ((hitTo l w any l.length).map hrow) := by
  unfold AV.one at o2
  intro ny M I S K' h0 hB hY hend hstop
  refine C.turn (C46_of ?_)
  unfold k46
  obtain ⟨q1, q2, q3, q4⟩ := hB 0 M h0
  replace hB : Kept _ := hB
  replace hY : Kept _ := hY
  repeat' first
    | simp -dsimp (disch := omega) only [↓rulesA, rulesB, rulesC, Int.reduceLT, nth, upd, put, storeN, AV.one, Nat.reduceBEq, Nat.reduceBNe, Int.reduceBEq, Int.reduceBNe, Int.reduceLE, Int.reduceEq, Int.reduceMod, Int.reduceNeg, boolBin, strBin, intBin, unA, fillA, ne_eq, reduceCtorEq, Nat.reduceAdd, Nat.reduceSub, Nat.reduceLeDiff, Nat.reduceLT, Nat.reduceEqDiff, Int.reduceToNat, eq_self, rulesT, rulesD, T_22.ix, T_22.len, Fl.g0, Fl.g1, Fl.g2, Fl.len, Fl.all, Fl.take, Fl.drop, Fl.sall, *]
    | (refine allK_intro fun n hn => ?_; try simp only [fresh_set] at hn)
    | (refine ifK_intro (fun h => ?_) (fun h => ?_) <;> (try simp only [rulesE] at h) <;> try (exfalso; (try simp only [rulesF] at h); omega))
    | (refine keeps_sub (Mem.sub_set ?_) ?_; focus (simp [Mem.set_at, nomem, *]; done))
  refine loop_intro (fun j env m => ∃ (i : Nat) (mI : Mem), i ≤ l.length ∧ j = l.length - i ∧ I (hitTo l w any i).length mI ∧ mI.sub m ∧ env.length = 38 ∧ nth env 0 = .yld ny ∧ nth env 1 = .ptr A 0 ∧ nth env 2 = .ptr B 0 ∧ nth env 3 = .ptr D 0 ∧ nth env 8 = .sl N 0 l.length c ∧ nth env 9 = .val (.int .i64 l.length) ∧ nth env 10 = .val (.int .i64 i)) l.length _ (Mem.sub.refl _) ⟨0, M, by omega, by omega, h0, Mem.sub.refl _, rfl, rfl, rfl, rfl, rfl, rfl, rfl, rfl⟩ ?_
  clear q1 q2 q3 q4 h0
  rintro j env m ⟨i, mI, hi, rfl, hI, hsub, hlen, e0, e1, e2, e3, e8, e9, e10⟩
  obtain ⟨q1, q2, q3, q4⟩ := (hB : ∀ _ _, _) _ mI hI
  replace q1 := hsub _ _ q1
  replace q2 := hsub _ _ q2
  replace q3 := hsub _ _ q3
  replace q4 := hsub _ _ q4
  by_cases hil : i < l.length
  · have hhit : hitB w any (l.getD i default) = (decide ((l.getD i default).to_ = w.to_) && (any || decide ((l.getD i default).from_ = w.from_))) := rfl
    have hrin := Frame.rin l
    have hrpt := Frame.rpart l
    cases hw : hitB w any (l.getD i default) with
    | true =>
      have hst := hitTo_yes (l := l) hw
      have ho := hit_next (l := l) hil hw
      rw [hw] at hhit
      have b1 : ((l.getD i default).to_ == w.to_) = true := by
        have := hhit.symm; simp only [Bool.and_eq_true, decide_eq_true_eq] at this; rw [this.1]; exact beq_self_eq_true _
      have b2 : any = false → ((l.getD i default).from_ == w.from_) = true := fun ha => by
        have := hhit.symm; rw [ha] at this; simp only [Bool.and_eq_true, Bool.false_or, decide_eq_true_eq] at this; rw [this.2]; exact beq_self_eq_true _
      clear hhit hw
      obtain ⟨hk, ek⟩ := ho
      have hY' := (hY : ∀ _ _ _ _, _) _ hk mI hI
      rw [ek] at hY'
      unfold hrow at hY'
      clear ek hk
      replace hY' : Kept _ := hY'
      cases any
      · have b3 := b2 rfl
        clear b2
        repeat' first
          | simp -dsimp (disch := omega) only [↓rulesA, rulesB, rulesC, Int.reduceLT, nth, upd, put, storeN, AV.one, Nat.reduceBEq, Nat.reduceBNe, Int.reduceBEq, Int.reduceBNe, Int.reduceLE, Int.reduceEq, Int.reduceMod, Int.reduceNeg, boolBin, strBin, intBin, unA, fillA, ne_eq, reduceCtorEq, Nat.reduceAdd, Nat.reduceSub, Nat.reduceLeDiff, Nat.reduceLT, Nat.reduceEqDiff, Int.reduceToNat, eq_self, rulesT, rulesD, T_22.ix, T_22.len, Frame.rin, Frame.rpart, Fl.g0, Fl.g1, Fl.g2, Fl.len, Fl.all, Fl.take, Fl.drop, Fl.sall, Frame.g0, Frame.g1, Frame.g2, Frame.g3, Frame.len, Frame.all, Frame.take, Frame.drop, Frame.sall, Way.g0, Way.g1, Way.len, Way.all, Way.take, Way.drop, Way.sall, *]
          | (refine allK_intro fun n hn => ?_; try simp only [fresh_set] at hn)
          | (refine ifK_intro (fun h => ?_) (fun h => ?_) <;> (try simp only [rulesE] at h) <;> try (exfalso; (try simp only [rulesF] at h); omega))
          | (refine keeps_sub (Mem.sub_set ?_) ?_; focus (simp [Mem.set_at, nomem, *]; done))
        have dA := apart q1 hn
        have dB := apart q2 hn
        have dD := apart q3 hn
        have dN := apart q4 hn
        repeat' first
          | simp -dsimp (disch := omega) only [↓rulesA, rulesB, rulesC, Int.reduceLT, nth, upd, put, storeN, AV.one, Nat.reduceBEq, Nat.reduceBNe, Int.reduceBEq, Int.reduceBNe, Int.reduceLE, Int.reduceEq, Int.reduceMod, Int.reduceNeg, boolBin, strBin, intBin, unA, fillA, ne_eq, reduceCtorEq, Nat.reduceAdd, Nat.reduceSub, Nat.reduceLeDiff, Nat.reduceLT, Nat.reduceEqDiff, Int.reduceToNat, eq_self, rulesT, rulesD, T_22.ix, T_22.len, Frame.rin, Frame.rpart, Fl.g0, Fl.g1, Fl.g2, Fl.len, Fl.all, Fl.take, Fl.drop, Fl.sall, Frame.g0, Frame.g1, Frame.g2, Frame.g3, Frame.len, Frame.all, Frame.take, Frame.drop, Frame.sall, Way.g0, Way.g1, Way.len, Way.all, Way.take, Way.drop, Way.sall, *]
          | (refine allK_intro fun n hn => ?_; try simp only [fresh_set] at hn)
          | (refine ifK_intro (fun h => ?_) (fun h => ?_) <;> (try simp only [rulesE] at h) <;> try (exfalso; (try simp only [rulesF] at h); omega))
          | (refine keeps_sub (Mem.sub_set ?_) ?_; focus (simp [Mem.set_at, nomem, *]; done))
        refine yield_on (hY' : Y _ _ _ _ _) (hsub.trans (Mem.sub_set hn)) fun rr m' M' hh hs' hf => ?_
        rcases hh with ⟨rfl, hh⟩ | ⟨rfl, hh⟩
        · repeat' first
            | simp -dsimp (disch := omega) only [↓rulesA, rulesB, rulesC, Int.reduceLT, nth, upd, put, storeN, AV.one, Nat.reduceBEq, Nat.reduceBNe, Int.reduceBEq, Int.reduceBNe, Int.reduceLE, Int.reduceEq, Int.reduceMod, Int.reduceNeg, boolBin, strBin, intBin, unA, fillA, ne_eq, reduceCtorEq, Nat.reduceAdd, Nat.reduceSub, Nat.reduceLeDiff, Nat.reduceLT, Nat.reduceEqDiff, Int.reduceToNat, eq_self, rulesT, rulesD, *]
            | (refine allK_intro fun n hn => ?_; try simp only [fresh_set] at hn)
            | (refine ifK_intro (fun h => ?_) (fun h => ?_) <;> (try simp only [rulesE] at h) <;> try (exfalso; (try simp only [rulesF] at h); omega))
            | (refine keeps_sub (Mem.sub_set ?_) ?_; focus (simp [Mem.set_at, nomem, *]; done))
          refine again_intro (l.length - (i + 1)) (by omega) M' (Mem.sub.refl _) ⟨i + 1, m', by omega, rfl, by rw [hst, List.length_append]; exact hh, hs', ?_, ?_, ?_, ?_, ?_, ?_, ?_, ?_⟩
          all_goals try (simp (disch := omega) only [nth_upd, pickB_true, pickB_false, inB_lt, upd_len, cast_succ, Int.cast_ofNat_Int, Nat.reduceBEq, beq_self_eq_true, reduceCtorEq, *]; done)
        · repeat' first
            | simp -dsimp (disch := omega) only [↓rulesA, rulesB, rulesC, Int.reduceLT, nth, upd, put, storeN, AV.one, Nat.reduceBEq, Nat.reduceBNe, Int.reduceBEq, Int.reduceBNe, Int.reduceLE, Int.reduceEq, Int.reduceMod, Int.reduceNeg, boolBin, strBin, intBin, unA, fillA, ne_eq, reduceCtorEq, Nat.reduceAdd, Nat.reduceSub, Nat.reduceLeDiff, Nat.reduceLT, Nat.reduceEqDiff, Int.reduceToNat, eq_self, rulesT, rulesD, *]
            | (refine allK_intro fun n hn => ?_; try simp only [fresh_set] at hn)
            | (refine ifK_intro (fun h => ?_) (fun h => ?_) <;> (try simp only [rulesE] at h) <;> try (exfalso; (try simp only [rulesF] at h); omega))
            | (refine keeps_sub (Mem.sub_set ?_) ?_; focus (simp [Mem.set_at, nomem, *]; done))
          exact Turns.sub hs' (hstop _ hh)
      · clear b2
        repeat' first
          | simp -dsimp (disch := omega) only [↓rulesA, rulesB, rulesC, Int.reduceLT, nth, upd, put, storeN, AV.one, Nat.reduceBEq, Nat.reduceBNe, Int.reduceBEq, Int.reduceBNe, Int.reduceLE, Int.reduceEq, Int.reduceMod, Int.reduceNeg, boolBin, strBin, intBin, unA, fillA, ne_eq, reduceCtorEq, Nat.reduceAdd, Nat.reduceSub, Nat.reduceLeDiff, Nat.reduceLT, Nat.reduceEqDiff, Int.reduceToNat, eq_self, rulesT, rulesD, T_22.ix, T_22.len, Frame.rin, Frame.rpart, Fl.g0, Fl.g1, Fl.g2, Fl.len, Fl.all, Fl.take, Fl.drop, Fl.sall, Frame.g0, Frame.g1, Frame.g2, Frame.g3, Frame.len, Frame.all, Frame.take, Frame.drop, Frame.sall, Way.g0, Way.g1, Way.len, Way.all, Way.take, Way.drop, Way.sall, *]
          | (refine allK_intro fun n hn => ?_; try simp only [fresh_set] at hn)
          | (refine ifK_intro (fun h => ?_) (fun h => ?_) <;> (try simp only [rulesE] at h) <;> try (exfalso; (try simp only [rulesF] at h); omega))
          | (refine keeps_sub (Mem.sub_set ?_) ?_; focus (simp [Mem.set_at, nomem, *]; done))
        have dA := apart q1 hn
        have dB := apart q2 hn
        have dD := apart q3 hn
        have dN := apart q4 hn
        repeat' first
          | simp -dsimp (disch := omega) only [↓rulesA, rulesB, rulesC, Int.reduceLT, nth, upd, put, storeN, AV.one, Nat.reduceBEq, Nat.reduceBNe, Int.reduceBEq, Int.reduceBNe, Int.reduceLE, Int.reduceEq, Int.reduceMod, Int.reduceNeg, boolBin, strBin, intBin, unA, fillA, ne_eq, reduceCtorEq, Nat.reduceAdd, Nat.reduceSub, Nat.reduceLeDiff, Nat.reduceLT, Nat.reduceEqDiff, Int.reduceToNat, eq_self, rulesT, rulesD, T_22.ix, T_22.len, Frame.rin, Frame.rpart, Fl.g0, Fl.g1, Fl.g2, Fl.len, Fl.all, Fl.take, Fl.drop, Fl.sall, Frame.g0, Frame.g1, Frame.g2, Frame.g3, Frame.len, Frame.all, Frame.take, Frame.drop, Frame.sall, Way.g0, Way.g1, Way.len, Way.all, Way.take, Way.drop, Way.sall, *]
          | (refine allK_intro fun n hn => ?_; try simp only [fresh_set] at hn)
          | (refine ifK_intro (fun h => ?_) (fun h => ?_) <;> (try simp only [rulesE] at h) <;> try (exfalso; (try simp only [rulesF] at h); omega))
          | (refine keeps_sub (Mem.sub_set ?_) ?_; focus (simp [Mem.set_at, nomem, *]; done))
        refine yield_on (hY' : Y _ _ _ _ _) (hsub.trans (Mem.sub_set hn)) fun rr m' M' hh hs' hf => ?_
        rcases hh with ⟨rfl, hh⟩ | ⟨rfl, hh⟩
        · repeat' first
            | simp -dsimp (disch := omega) only [↓rulesA, rulesB, rulesC, Int.reduceLT, nth, upd, put, storeN, AV.one, Nat.reduceBEq, Nat.reduceBNe, Int.reduceBEq, Int.reduceBNe, Int.reduceLE, Int.reduceEq, Int.reduceMod, Int.reduceNeg, boolBin, strBin, intBin, unA, fillA, ne_eq, reduceCtorEq, Nat.reduceAdd, Nat.reduceSub, Nat.reduceLeDiff, Nat.reduceLT, Nat.reduceEqDiff, Int.reduceToNat, eq_self, rulesT, rulesD, *]
            | (refine allK_intro fun n hn => ?_; try simp only [fresh_set] at hn)
            | (refine ifK_intro (fun h => ?_) (fun h => ?_) <;> (try simp only [rulesE] at h) <;> try (exfalso; (try simp only [rulesF] at h); omega))
            | (refine keeps_sub (Mem.sub_set ?_) ?_; focus (simp [Mem.set_at, nomem, *]; done))
          refine again_intro (l.length - (i + 1)) (by omega) M' (Mem.sub.refl _) ⟨i + 1, m', by omega, rfl, by rw [hst, List.length_append]; exact hh, hs', ?_, ?_, ?_, ?_, ?_, ?_, ?_, ?_⟩
          all_goals try (simp (disch := omega) only [nth_upd, pickB_true, pickB_false, inB_lt, upd_len, cast_succ, Int.cast_ofNat_Int, Nat.reduceBEq, beq_self_eq_true, reduceCtorEq, *]; done)
        · repeat' first
            | simp -dsimp (disch := omega) only [↓rulesA, rulesB, rulesC, Int.reduceLT, nth, upd, put, storeN, AV.one, Nat.reduceBEq, Nat.reduceBNe, Int.reduceBEq, Int.reduceBNe, Int.reduceLE, Int.reduceEq, Int.reduceMod, Int.reduceNeg, boolBin, strBin, intBin, unA, fillA, ne_eq, reduceCtorEq, Nat.reduceAdd, Nat.reduceSub, Nat.reduceLeDiff, Nat.reduceLT, Nat.reduceEqDiff, Int.reduceToNat, eq_self, rulesT, rulesD, *]
            | (refine allK_intro fun n hn => ?_; try simp only [fresh_set] at hn)
            | (refine ifK_intro (fun h => ?_) (fun h => ?_) <;> (try simp only [rulesE] at h) <;> try (exfalso; (try simp only [rulesF] at h); omega))
            | (refine keeps_sub (Mem.sub_set ?_) ?_; focus (simp [Mem.set_at, nomem, *]; done))
          exact Turns.sub hs' (hstop _ hh)
    | false =>
      have hst := hitTo_no (l := l) hw
      rw [hw] at hhit
      have b1 : ((l.getD i default).to_ == w.to_) = true → any = false ∧ ((l.getD i default).from_ == w.from_) = false := fun h => by
        have h' := hhit.symm
        rw [decide_eq_true (by simpa using h), Bool.true_and, Bool.or_eq_false_iff] at h'
        exact ⟨h'.1, beq_eq_false_iff_ne.2 (of_decide_eq_false h'.2)⟩
      clear hhit hw hY
      cases hb : ((l.getD i default).to_ == w.to_) with
      | true =>
        obtain ⟨rfl, b3⟩ := b1 hb
        clear b1
        repeat' first
          | simp -dsimp (disch := omega) only [↓rulesA, rulesB, rulesC, Int.reduceLT, nth, upd, put, storeN, AV.one, Nat.reduceBEq, Nat.reduceBNe, Int.reduceBEq, Int.reduceBNe, Int.reduceLE, Int.reduceEq, Int.reduceMod, Int.reduceNeg, boolBin, strBin, intBin, unA, fillA, ne_eq, reduceCtorEq, Nat.reduceAdd, Nat.reduceSub, Nat.reduceLeDiff, Nat.reduceLT, Nat.reduceEqDiff, Int.reduceToNat, eq_self, rulesT, rulesD, T_22.ix, T_22.len, Frame.rin, Frame.rpart, Fl.g0, Fl.g1, Fl.g2, Fl.len, Fl.all, Fl.take, Fl.drop, Fl.sall, Frame.g0, Frame.g1, Frame.g2, Frame.g3, Frame.len, Frame.all, Frame.take, Frame.drop, Frame.sall, Way.g0, Way.g1, Way.len, Way.all, Way.take, Way.drop, Way.sall, *]
          | (refine allK_intro fun n hn => ?_; try simp only [fresh_set] at hn)
          | (refine ifK_intro (fun h => ?_) (fun h => ?_) <;> (try simp only [rulesE] at h) <;> try (exfalso; (try simp only [rulesF] at h); omega))
          | (refine keeps_sub (Mem.sub_set ?_) ?_; focus (simp [Mem.set_at, nomem, *]; done))
        have dA := apart q1 hn
        have dB := apart q2 hn
        have dD := apart q3 hn
        have dN := apart q4 hn
        repeat' first
          | simp -dsimp (disch := omega) only [↓rulesA, rulesB, rulesC, Int.reduceLT, nth, upd, put, storeN, AV.one, Nat.reduceBEq, Nat.reduceBNe, Int.reduceBEq, Int.reduceBNe, Int.reduceLE, Int.reduceEq, Int.reduceMod, Int.reduceNeg, boolBin, strBin, intBin, unA, fillA, ne_eq, reduceCtorEq, Nat.reduceAdd, Nat.reduceSub, Nat.reduceLeDiff, Nat.reduceLT, Nat.reduceEqDiff, Int.reduceToNat, eq_self, rulesT, rulesD, T_22.ix, T_22.len, Frame.rin, Frame.rpart, Fl.g0, Fl.g1, Fl.g2, Fl.len, Fl.all, Fl.take, Fl.drop, Fl.sall, Frame.g0, Frame.g1, Frame.g2, Frame.g3, Frame.len, Frame.all, Frame.take, Frame.drop, Frame.sall, Way.g0, Way.g1, Way.len, Way.all, Way.take, Way.drop, Way.sall, *]
          | (refine allK_intro fun n hn => ?_; try simp only [fresh_set] at hn)
          | (refine ifK_intro (fun h => ?_) (fun h => ?_) <;> (try simp only [rulesE] at h) <;> try (exfalso; (try simp only [rulesF] at h); omega))
          | (refine keeps_sub (Mem.sub_set ?_) ?_; focus (simp [Mem.set_at, nomem, *]; done))
        refine again_intro (l.length - (i + 1)) (by omega) _ (Mem.sub.refl _) ⟨i + 1, mI, by omega, rfl, by rw [hst]; exact hI, hsub.trans (Mem.sub_set hn), ?_, ?_, ?_, ?_, ?_, ?_, ?_, ?_⟩
        all_goals try (simp (disch := omega) only [nth_upd, pickB_true, pickB_false, inB_lt, upd_len, cast_succ, Int.cast_ofNat_Int, Nat.reduceBEq, beq_self_eq_true, reduceCtorEq, *]; done)
      | false =>
        clear b1
        repeat' first
          | simp -dsimp (disch := omega) only [↓rulesA, rulesB, rulesC, Int.reduceLT, nth, upd, put, storeN, AV.one, Nat.reduceBEq, Nat.reduceBNe, Int.reduceBEq, Int.reduceBNe, Int.reduceLE, Int.reduceEq, Int.reduceMod, Int.reduceNeg, boolBin, strBin, intBin, unA, fillA, ne_eq, reduceCtorEq, Nat.reduceAdd, Nat.reduceSub, Nat.reduceLeDiff, Nat.reduceLT, Nat.reduceEqDiff, Int.reduceToNat, eq_self, rulesT, rulesD, T_22.ix, T_22.len, Frame.rin, Frame.rpart, Fl.g0, Fl.g1, Fl.g2, Fl.len, Fl.all, Fl.take, Fl.drop, Fl.sall, Frame.g0, Frame.g1, Frame.g2, Frame.g3, Frame.len, Frame.all, Frame.take, Frame.drop, Frame.sall, Way.g0, Way.g1, Way.len, Way.all, Way.take, Way.drop, Way.sall, *]
          | (refine allK_intro fun n hn => ?_; try simp only [fresh_set] at hn)
          | (refine ifK_intro (fun h => ?_) (fun h => ?_) <;> (try simp only [rulesE] at h) <;> try (exfalso; (try simp only [rulesF] at h); omega))
          | (refine keeps_sub (Mem.sub_set ?_) ?_; focus (simp [Mem.set_at, nomem, *]; done))
        have dA := apart q1 hn
        have dB := apart q2 hn
        have dD := apart q3 hn
        have dN := apart q4 hn
        repeat' first
          | simp -dsimp (disch := omega) only [↓rulesA, rulesB, rulesC, Int.reduceLT, nth, upd, put, storeN, AV.one, Nat.reduceBEq, Nat.reduceBNe, Int.reduceBEq, Int.reduceBNe, Int.reduceLE, Int.reduceEq, Int.reduceMod, Int.reduceNeg, boolBin, strBin, intBin, unA, fillA, ne_eq, reduceCtorEq, Nat.reduceAdd, Nat.reduceSub, Nat.reduceLeDiff, Nat.reduceLT, Nat.reduceEqDiff, Int.reduceToNat, eq_self, rulesT, rulesD, T_22.ix, T_22.len, Frame.rin, Frame.rpart, Fl.g0, Fl.g1, Fl.g2, Fl.len, Fl.all, Fl.take, Fl.drop, Fl.sall, Frame.g0, Frame.g1, Frame.g2, Frame.g3, Frame.len, Frame.all, Frame.take, Frame.drop, Frame.sall, Way.g0, Way.g1, Way.len, Way.all, Way.take, Way.drop, Way.sall, *]
          | (refine allK_intro fun n hn => ?_; try simp only [fresh_set] at hn)
          | (refine ifK_intro (fun h => ?_) (fun h => ?_) <;> (try simp only [rulesE] at h) <;> try (exfalso; (try simp only [rulesF] at h); omega))
          | (refine keeps_sub (Mem.sub_set ?_) ?_; focus (simp [Mem.set_at, nomem, *]; done))
        refine again_intro (l.length - (i + 1)) (by omega) _ (Mem.sub.refl _) ⟨i + 1, mI, by omega, rfl, by rw [hst]; exact hI, hsub.trans (Mem.sub_set hn), ?_, ?_, ?_, ?_, ?_, ?_, ?_, ?_⟩
        all_goals try (simp (disch := omega) only [nth_upd, pickB_true, pickB_false, inB_lt, upd_len, cast_succ, Int.cast_ofNat_Int, Nat.reduceBEq, beq_self_eq_true, reduceCtorEq, *]; done)
  · have : i = l.length := by omega
    subst this
    repeat' first
      | simp -dsimp (disch := omega) only [↓rulesA, rulesB, rulesC, Int.reduceLT, nth, upd, put, storeN, AV.one, Nat.reduceBEq, Nat.reduceBNe, Int.reduceBEq, Int.reduceBNe, Int.reduceLE, Int.reduceEq, Int.reduceMod, Int.reduceNeg, boolBin, strBin, intBin, unA, fillA, ne_eq, reduceCtorEq, Nat.reduceAdd, Nat.reduceSub, Nat.reduceLeDiff, Nat.reduceLT, Nat.reduceEqDiff, Int.reduceToNat, eq_self, rulesT, rulesD, T_22.len, *]
      | (refine allK_intro fun n hn => ?_; try simp only [fresh_set] at hn)
      | (refine ifK_intro (fun h => ?_) (fun h => ?_) <;> (try simp only [rulesE] at h) <;> try (exfalso; (try simp only [rulesF] at h); omega))
      | (refine keeps_sub (Mem.sub_set ?_) ?_; focus (simp [Mem.set_at, nomem, *]; done))
    refine Turns.sub hsub (hend _ ?_)
    simpa using hI
end Go.Proofs.Ytdhbonjbjnodhaa

set_option maxRecDepth 100000
set_option maxHeartbeats 1000000
set_option linter.unusedSimpArgs false
set_option linter.unusedVariables false
namespace Go.Proofs.Ytdhbonjbjnodhaa
open Go.Abs
attribute [local irreducible] C X CC Y CV CW binK litK AppK PureC PureCV againK loopV rangeV allK ifK got onB condK V stepsK planK opK firstK seeE keepsK
theorem hitTo_snd (l : List Frame) (w : Way) (any : Bool) : ∀ {i : Nat}, i ≤ l.length → (hitTo l w any i).map (·.2) = (l.take i).filter (hitB w any)
  | 0, _ => by simp [hitTo]
  | i + 1, h => by
    have ih := hitTo_snd l w any (i := i) (by omega)
    rw [tk_next l i (by omega), List.filter_append, ← ih]
    cases hw : hitB w any (l.getD i default) with
    | true => rw [hitTo_yes hw, List.map_append, List.filter_cons, if_pos hw]; rfl
    | false => rw [hitTo_no hw, List.filter_cons, if_neg (by rw [hw]; decide)]; simp
theorem hit_all (l : List Frame) (w : Way) (any : Bool) : (hitTo l w any l.length).map (·.2) = l.filter (hitB w any) := by rw [hitTo_snd l w any (Nat.le_refl _), List.take_length]
theorem nums_hit (l : List Frame) (w : Way) (any : Bool) : numsL (hitTo l w any l.length) = (l.filter (hitB w any)).map (·.number) := by
  rw [← hit_all, List.map_map]; rfl
def NumRise (l : List Frame) : Prop := RiseI (l.map (·.number))
theorem rise_gone {l : List Frame} (h : NumRise l) (w : Way) (any : Bool) : RiseI (numsL (hitTo l w any l.length)) := by
  rw [nums_hit]
  exact List.Pairwise.sublist (List.Sublist.map _ List.filter_sublist) h
theorem num_inj {l : List Frame} (h : NumRise l) {a b : Frame} (ha : a ∈ l) (hb : b ∈ l) (e : a.number = b.number) : a = b := by
  unfold NumRise RiseI at h
  rw [List.pairwise_map] at h
  obtain ⟨i, hi, rfl⟩ := List.getElem_of_mem ha
  obtain ⟨j, hj, rfl⟩ := List.getElem_of_mem hb
  rcases Nat.lt_trichotomy i j with hij | hij | hij
  · exact absurd e (by have := List.pairwise_iff_getElem.1 h i j hi hj hij; omega)
  · subst hij; rfl
  · exact absurd e (by have := List.pairwise_iff_getElem.1 h j i hj hi hij; omega)
theorem gone_hit {l : List Frame} (h : NumRise l) (w : Way) (any : Bool) : (l.filter fun a => !decide (a.number ∈ numsL (hitTo l w any l.length))) = l.filter fun a => !hitB w any a := by
  refine List.filter_congr fun a ha => ?_
  congr 1
  rw [nums_hit, Bool.eq_iff_iff, decide_eq_true_eq, List.mem_map]
  constructor
  · rintro ⟨b, hb, e⟩
    rw [List.mem_filter] at hb
    rw [← num_inj h hb.1 ha e]; exact hb.2
  · exact fun hw => ⟨a, List.mem_filter.2 ⟨ha, hw⟩, rfl⟩
def loseF (f : Fl) (w : Way) (any : Bool) : Fl × Int := (⟨f.next, f.list.filter fun a => !hitB w any a, f.cut⟩, (f.list.filter (hitB w any)).length)
def loseT (f : Fl) (w : Way) (any : Bool) (X : Nat) (u : AV) (r : AV) (m' : Mem) : Prop := r = .val (.int .i64 (loseF f w any).2) ∧ ∃ N k o rest, N ≠ X ∧ AV.clean.cleans rest = true ∧ m' = (nomem.set X (.cells false 25 [.val (.int .i64 f.next), .sl N 0 (loseF f w any).1.list.length k, u])).set N (.cells o 44 (((loseF f w any).1.list.map Frame.cells).flatten ++ rest))
def LoseJ (X A B D N n7 n8 : Nat) (nx : Int) (u : AV) (l : List Frame) (w : Way) (any : Bool) (H : List (Nat × Frame)) (k : Nat) (m : Mem) : Prop :=
  LoseB A B D N nx l.length u l w any k m ∧ m X = some (.cells false 25 [.val (.int .i64 nx), .sl N 0 l.length l.length, u]) ∧ m n7 = some (.cells false 3 [.val (.int .i64 k)]) ∧ k ≤ H.length ∧
  ((k = 0 ∧ m n8 = some (.cells false 31 [.val (.slice none 0 0)])) ∨ (0 < k ∧ ∃ q, q ≠ X ∧ q ≠ A ∧ q ≠ B ∧ q ≠ D ∧ q ≠ N ∧ q ≠ n7 ∧ q ≠ n8 ∧ m n8 = some (.cells false 31 [.sl q 0 k k]) ∧ m q = some (.cells true 2 ((numsL (H.take k)).map intC).flatten)))
theorem C37 (f : Fl) (w : Way) (any : Bool) {X N : Nat} (hXN : X ≠ N) (u : AV) (o2 : AV.one u = true) (hr : NumRise f.list) (hl : f.list.length ≤ 65536) :
    C Try.prog 37 [.ptr X 0, .agg w.cells, .val (.bool any)] ((nomem.set X (.cells false 25 [.val (.int .i64 f.next), .sl N 0 f.list.length f.list.length, u])).set N (.cells true 44 (f.list.map Frame.cells).flatten)) (loseT f w any X u) := by
  have hc28 := C28p f.next (.sl N 0 f.list.length f.list.length) u rfl o2 w any
  have hgone := gone_hit hr w any
  have hrg := rise_gone hr w any
  have hHl := hit_len f.list w any f.list.length
  have hHn : (f.list.filter (hitB w any)).length = (hitTo f.list w any f.list.length).length := by rw [← hit_all, List.length_map]
  unfold loseT loseF
  simp only [hHn]
  rw [← hgone]
  clear hgone hHn hr
  have hI := fun A B D => I46p A B D N f.next f.list.length u o2 f.list w any (by omega)
  generalize hitTo f.list w any f.list.length = H at *
  unfold AV.one at o2
  refine C.turn (C37_of ?_)
  unfold k37
  have hNX := Ne.symm hXN
  replace hI : Kept _ := hI
  repeat' first
    | simp -dsimp (disch := omega) only [↓rulesA, rulesB, rulesC, Int.reduceLT, nth, upd, put, storeN, AV.one, Nat.reduceBEq, Nat.reduceBNe, Int.reduceBEq, Int.reduceBNe, Int.reduceLE, Int.reduceEq, Int.reduceMod, Int.reduceNeg, boolBin, strBin, intBin, unA, fillA, ne_eq, reduceCtorEq, Nat.reduceAdd, Nat.reduceSub, Nat.reduceLeDiff, Nat.reduceLT, Nat.reduceEqDiff, Int.reduceToNat, eq_self, rulesT, rulesD, Fl.g0, Fl.g1, Fl.g2, Fl.len, Fl.all, Fl.take, Fl.drop, Fl.sall, Way.g0, Way.g1, Way.len, Way.all, Way.take, Way.drop, Way.sall, *]
    | (refine allK_intro fun n hn => ?_; try simp only [fresh_set] at hn)
    | (refine ifK_intro (fun h => ?_) (fun h => ?_) <;> (try simp only [rulesE] at h) <;> try (exfalso; (try simp only [rulesF] at h); omega))
    | (refine keeps_sub (Mem.sub_set ?_) ?_; focus (simp [Mem.set_at, nomem, *]; done))
  rename_i n4 hn4 n7 hn7
  revert n
  intro n8 hn8
  refine call_at hc28 (nomem_sub _) fun q m1' M1 ⟨A, B, D, hAB, hAD, hBD, hq, hA, hB, hD⟩ hs1 hl1 => ?_
  subst hq
  obtain ⟨gX, iX⟩ := left_at hl1 (q := X) rfl (by simp [Mem.set_at, *]; rfl)
  obtain ⟨gN, iN⟩ := left_at hl1 (q := N) rfl (by simp [Mem.set_at, *]; rfl)
  obtain ⟨g7, i7⟩ := left_at hl1 (q := n7) rfl (by simp [Mem.set_at, *]; rfl)
  obtain ⟨g8, i8⟩ := left_at hl1 (q := n8) rfl (by simp [Mem.set_at, *]; rfl)
  have xA := iX _ _ hA
  have xB := iX _ _ hB
  have xD := iX _ _ hD
  have nA := iN _ _ hA
  have nB := iN _ _ hB
  have nD := iN _ _ hD
  have sA := i7 _ _ hA
  have sB := i7 _ _ hB
  have sD := i7 _ _ hD
  have eA := i8 _ _ hA
  have eB := i8 _ _ hB
  have eD := i8 _ _ hD
  replace hA := hs1 _ _ hA
  replace hB := hs1 _ _ hB
  replace hD := hs1 _ _ hD
  clear hs1 hl1 iX iN i7 i8
  repeat' first
    | simp -dsimp (disch := omega) only [↓rulesA, rulesB, rulesC, Int.reduceLT, nth, upd, put, storeN, AV.one, Nat.reduceBEq, Nat.reduceBNe, Int.reduceBEq, Int.reduceBNe, Int.reduceLE, Int.reduceEq, Int.reduceMod, Int.reduceNeg, boolBin, strBin, intBin, unA, fillA, ne_eq, reduceCtorEq, Nat.reduceAdd, Nat.reduceSub, Nat.reduceLeDiff, Nat.reduceLT, Nat.reduceEqDiff, Int.reduceToNat, eq_self, rulesT, rulesD, *]
    | (refine allK_intro fun n hn => ?_; try simp only [fresh_set] at hn)
    | (refine ifK_intro (fun h => ?_) (fun h => ?_) <;> (try simp only [rulesE] at h) <;> try (exfalso; (try simp only [rulesF] at h); omega))
    | (refine keeps_sub (Mem.sub_set ?_) ?_; focus (simp [Mem.set_at, nomem, *]; done))
  have d78 : n7 ≠ n8 ∧ n8 ≠ n7 := ⟨hn8.2.1, hn8.1⟩
  have dX : X ≠ n7 ∧ X ≠ n8 ∧ N ≠ n7 ∧ N ≠ n8 ∧ n7 ≠ X ∧ n8 ≠ X ∧ n7 ≠ N ∧ n8 ≠ N := ⟨by simp [*], by simp [*], by simp [*], by simp [*], by simp [*], by simp [*], by simp [*], by simp [*]⟩
  clear hn8 hn7 hn4
  refine range_on mixed la37_0_is lb37_0_is ((hI : ∀ _ _ _, _) A B D) (fun k m m' hs ⟨a, b, c, d⟩ => ⟨hs _ _ a, hs _ _ b, hs _ _ c, hs _ _ d⟩) ?_ (fun n h => by cases h) (LoseJ X A B D N n7 n8 f.next u f.list w any H) M1 (Mem.sub.refl _) ⟨⟨hA, hB, hD, gN⟩, gX, g7, by omega, .inl ⟨rfl, g8⟩⟩ (fun k m1 h => h.1) ?_ ?_
  · intro l hl
    obtain ⟨d, _, rfl⟩ := List.mem_map.1 hl
    rfl
  · clear hA hB hD gN gX g7 g8
    rintro k hk nl m1 ⟨⟨hA, hB, hD, gN⟩, gX, g7, kl, hm8⟩ hnl
    have hkl : k < H.length := by simpa using hk
    have e : (H.map hrow)[k] = [.val (.int .i64 (H[k]).1), .agg (H[k]).2.cells] := by simp [hrow]
    rw [e]
    have hnx := numsL_next H k hkl
    generalize H[k] = p at *
    unfold la37_0 lb37_0
    clear hk e
    have lX := apart gX hnl
    have lA := apart hA hnl
    have lB := apart hB hnl
    have lD := apart hD hnl
    have lN := apart gN hnl
    have l7 := apart g7 hnl
    rcases hm8 with ⟨rfl, g8⟩ | ⟨k0, q, u1, u2, u3, u4, u5, u6, u7, g8, gq⟩
    · have l8 := apart g8 hnl
      repeat' first
        | simp -dsimp (disch := omega) only [↓rulesA, rulesB, rulesC, Int.reduceLT, nth, upd, put, storeN, AV.one, Nat.reduceBEq, Nat.reduceBNe, Int.reduceBEq, Int.reduceBNe, Int.reduceLE, Int.reduceEq, Int.reduceMod, Int.reduceNeg, boolBin, strBin, intBin, unA, fillA, ne_eq, reduceCtorEq, Nat.reduceAdd, Nat.reduceSub, Nat.reduceLeDiff, Nat.reduceLT, Nat.reduceEqDiff, Int.reduceToNat, eq_self, rulesT, rulesD, startA_two, Frame.g0, Frame.g1, Frame.g2, Frame.g3, Frame.len, Frame.all, Frame.take, Frame.drop, Frame.sall, *]
        | (refine allK_intro fun n hn => ?_; try simp only [fresh_set] at hn)
        | (refine ifK_intro (fun h => ?_) (fun h => ?_) <;> (try simp only [rulesE] at h) <;> try (exfalso; (try simp only [rulesF] at h); omega))
        | (refine keeps_sub (Mem.sub_set ?_) ?_; focus (simp [Mem.set_at, nomem, *]; done))
      have kX := apart gX hn.2.2
      have kA := apart hA hn.2.2
      have kB := apart hB hn.2.2
      have kD := apart hD hn.2.2
      have kN := apart gN hn.2.2
      have k7 := apart g7 hn.2.2
      have k8 := apart g8 hn.2.2
      repeat' first
        | simp -dsimp (disch := omega) only [↓rulesA, rulesB, rulesC, Int.reduceLT, nth, upd, put, storeN, AV.one, Nat.reduceBEq, Nat.reduceBNe, Int.reduceBEq, Int.reduceBNe, Int.reduceLE, Int.reduceEq, Int.reduceMod, Int.reduceNeg, boolBin, strBin, intBin, unA, fillA, ne_eq, reduceCtorEq, Nat.reduceAdd, Nat.reduceSub, Nat.reduceLeDiff, Nat.reduceLT, Nat.reduceEqDiff, Int.reduceToNat, eq_self, rulesT, rulesD, startA_two, Frame.g0, Frame.g1, Frame.g2, Frame.g3, Frame.len, Frame.all, Frame.take, Frame.drop, Frame.sall, *]
        | (refine allK_intro fun n hn => ?_; try simp only [fresh_set] at hn)
        | (refine ifK_intro (fun h => ?_) (fun h => ?_) <;> (try simp only [rulesE] at h) <;> try (exfalso; (try simp only [rulesF] at h); omega))
        | (refine keeps_sub (Mem.sub_set ?_) ?_; focus (simp [Mem.set_at, nomem, *]; done))
      refine lit_vs (lit1i _) rfl ?_
      repeat' first
        | simp -dsimp (disch := omega) only [↓rulesA, rulesB, rulesC, Int.reduceLT, nth, upd, put, storeN, AV.one, Nat.reduceBEq, Nat.reduceBNe, Int.reduceBEq, Int.reduceBNe, Int.reduceLE, Int.reduceEq, Int.reduceMod, Int.reduceNeg, boolBin, strBin, intBin, unA, fillA, ne_eq, reduceCtorEq, Nat.reduceAdd, Nat.reduceSub, Nat.reduceLeDiff, Nat.reduceLT, Nat.reduceEqDiff, Int.reduceToNat, eq_self, rulesT, rulesD, startA_two, Frame.g0, Frame.g1, Frame.g2, Frame.g3, Frame.len, Frame.all, Frame.take, Frame.drop, Frame.sall, *]
        | (refine allK_intro fun n hn => ?_; try simp only [fresh_set] at hn)
        | (refine ifK_intro (fun h => ?_) (fun h => ?_) <;> (try simp only [rulesE] at h) <;> try (exfalso; (try simp only [rulesF] at h); omega))
        | (refine keeps_sub (Mem.sub_set ?_) ?_; focus (simp [Mem.set_at, nomem, *]; done))
      refine append_nil app_31 (src_31 _ [p.2.number] _) (by simp) fun q hq => ?_
      simp only [fresh_set] at hq
      have hq0 := hq.2.2.2.2.2.2
      have pX := apart gX hq0
      have pA := apart hA hq0
      have pB := apart hB hq0
      have pD := apart hD hq0
      have pN := apart gN hq0
      have p7 := apart g7 hq0
      have p8 := apart g8 hq0
      have hq1 : q ≠ n ∧ n ≠ q ∧ q ≠ nl ∧ nl ≠ q := by simp [hq]
      clear hq0 hq
      replace pX : Kept _ := pX
      replace pA : Kept _ := pA
      replace pB : Kept _ := pB
      replace pD : Kept _ := pD
      replace pN : Kept _ := pN
      replace kX : Kept _ := kX
      replace kA : Kept _ := kA
      replace kB : Kept _ := kB
      replace kD : Kept _ := kD
      replace kN : Kept _ := kN
      replace lX : Kept _ := lX
      replace lA : Kept _ := lA
      replace lB : Kept _ := lB
      replace lD : Kept _ := lD
      replace lN : Kept _ := lN
      replace dX : Kept _ := dX
      replace xA : Kept _ := xA
      replace xB : Kept _ := xB
      replace xD : Kept _ := xD
      replace nA : Kept _ := nA
      replace nB : Kept _ := nB
      replace nD : Kept _ := nD
      replace sA : Kept _ := sA
      replace sB : Kept _ := sB
      replace sD : Kept _ := sD
      replace eA : Kept _ := eA
      replace eB : Kept _ := eB
      replace eD : Kept _ := eD
      replace hA : Kept _ := hA
      replace hB : Kept _ := hB
      replace hD : Kept _ := hD
      replace gX : Kept _ := gX
      replace gN : Kept _ := gN
      replace hI : Kept _ := hI
      replace hc28 : Kept _ := hc28
      replace hrg : Kept _ := hrg
      repeat' first
        | simp -dsimp (disch := omega) only [↓rulesA, rulesB, rulesC, Int.reduceLT, nth, upd, put, storeN, AV.one, Nat.reduceBEq, Nat.reduceBNe, Int.reduceBEq, Int.reduceBNe, Int.reduceLE, Int.reduceEq, Int.reduceMod, Int.reduceNeg, boolBin, strBin, intBin, unA, fillA, ne_eq, reduceCtorEq, Nat.reduceAdd, Nat.reduceSub, Nat.reduceLeDiff, Nat.reduceLT, Nat.reduceEqDiff, Int.reduceToNat, eq_self, rulesT, rulesD, startA_two, Frame.g0, Frame.g1, Frame.g2, Frame.g3, Frame.len, Frame.all, Frame.take, Frame.drop, Frame.sall, *]
        | (refine allK_intro fun n hn => ?_; try simp only [fresh_set] at hn)
        | (refine ifK_intro (fun h => ?_) (fun h => ?_) <;> (try simp only [rulesE] at h) <;> try (exfalso; (try simp only [rulesF] at h); omega))
        | (refine keeps_sub (Mem.sub_set ?_) ?_; focus (simp [Mem.set_at, nomem, *]; done))
      unfold Kept at *
      rw [roundV_normal]
      refine ⟨?_, _, Mem.sub.refl _, ⟨?_, ?_, ?_, ?_⟩, ?_, ?_, by omega, .inr ⟨by omega, q, pX.2, pA.2, pB.2, pD.2, pN.2, p7.2, p8.2, ?_, ?_⟩⟩
      all_goals try rw [hnx]
      all_goals clear hnx hI hc28 hrg hHl
      all_goals first
        | (simp only [Mem.set_at, Mem.del_at]; simp only [pX, pA, pB, pD, pN, p7, p8, hq1, kX, kA, kB, kD, kN, k7, k8, lX, lA, lB, lD, lN, l7, l8, dX, d78, xA, xB, xD, nA, nB, nD, sA, sB, sD, eA, eB, eD, hA, hB, hD, gX, gN, g7, g8, ne_eq, not_false_eq_true, if_false, if_true, reduceIte]; done)
        | (simp only [Mem.set_at, Mem.del_at]; simp only [pX, pA, pB, pD, pN, p7, p8, hq1, kX, kA, kB, kD, kN, k7, k8, lX, lA, lB, lD, lN, l7, l8, dX, d78, xA, xB, xD, nA, nB, nD, sA, sB, sD, eA, eB, eD, hA, hB, hD, gX, gN, g7, g8, ne_eq, not_false_eq_true, if_false, if_true, reduceIte]; simp [numsL, intC]; done)
    · have l8 := apart g8 hnl
      have lq := apart gq hnl
      repeat' first
        | simp -dsimp (disch := omega) only [↓rulesA, rulesB, rulesC, Int.reduceLT, nth, upd, put, storeN, AV.one, Nat.reduceBEq, Nat.reduceBNe, Int.reduceBEq, Int.reduceBNe, Int.reduceLE, Int.reduceEq, Int.reduceMod, Int.reduceNeg, boolBin, strBin, intBin, unA, fillA, ne_eq, reduceCtorEq, Nat.reduceAdd, Nat.reduceSub, Nat.reduceLeDiff, Nat.reduceLT, Nat.reduceEqDiff, Int.reduceToNat, eq_self, rulesT, rulesD, startA_two, Frame.g0, Frame.g1, Frame.g2, Frame.g3, Frame.len, Frame.all, Frame.take, Frame.drop, Frame.sall, *]
        | (refine allK_intro fun n hn => ?_; try simp only [fresh_set] at hn)
        | (refine ifK_intro (fun h => ?_) (fun h => ?_) <;> (try simp only [rulesE] at h) <;> try (exfalso; (try simp only [rulesF] at h); omega))
        | (refine keeps_sub (Mem.sub_set ?_) ?_; focus (simp [Mem.set_at, nomem, *]; done))
      have kX := apart gX hn.2.2
      have kA := apart hA hn.2.2
      have kB := apart hB hn.2.2
      have kD := apart hD hn.2.2
      have kN := apart gN hn.2.2
      have k7 := apart g7 hn.2.2
      have k8 := apart g8 hn.2.2
      have kq := apart gq hn.2.2
      have us := And.intro (Ne.symm u1) (And.intro (Ne.symm u2) (And.intro (Ne.symm u3) (And.intro (Ne.symm u4) (And.intro (Ne.symm u5) (And.intro (Ne.symm u6) (Ne.symm u7))))))
      repeat' first
        | simp -dsimp (disch := omega) only [↓rulesA, rulesB, rulesC, Int.reduceLT, nth, upd, put, storeN, AV.one, Nat.reduceBEq, Nat.reduceBNe, Int.reduceBEq, Int.reduceBNe, Int.reduceLE, Int.reduceEq, Int.reduceMod, Int.reduceNeg, boolBin, strBin, intBin, unA, fillA, ne_eq, reduceCtorEq, Nat.reduceAdd, Nat.reduceSub, Nat.reduceLeDiff, Nat.reduceLT, Nat.reduceEqDiff, Int.reduceToNat, eq_self, rulesT, rulesD, startA_two, Frame.g0, Frame.g1, Frame.g2, Frame.g3, Frame.len, Frame.all, Frame.take, Frame.drop, Frame.sall, *]
        | (refine allK_intro fun n hn => ?_; try simp only [fresh_set] at hn)
        | (refine ifK_intro (fun h => ?_) (fun h => ?_) <;> (try simp only [rulesE] at h) <;> try (exfalso; (try simp only [rulesF] at h); omega))
        | (refine keeps_sub (Mem.sub_set ?_) ?_; focus (simp [Mem.set_at, nomem, *]; done))
      refine lit_vs (lit1i _) rfl ?_
      repeat' first
        | simp -dsimp (disch := omega) only [↓rulesA, rulesB, rulesC, Int.reduceLT, nth, upd, put, storeN, AV.one, Nat.reduceBEq, Nat.reduceBNe, Int.reduceBEq, Int.reduceBNe, Int.reduceLE, Int.reduceEq, Int.reduceMod, Int.reduceNeg, boolBin, strBin, intBin, unA, fillA, ne_eq, reduceCtorEq, Nat.reduceAdd, Nat.reduceSub, Nat.reduceLeDiff, Nat.reduceLT, Nat.reduceEqDiff, Int.reduceToNat, eq_self, rulesT, rulesD, startA_two, Frame.g0, Frame.g1, Frame.g2, Frame.g3, Frame.len, Frame.all, Frame.take, Frame.drop, Frame.sall, *]
        | (refine allK_intro fun n hn => ?_; try simp only [fresh_set] at hn)
        | (refine ifK_intro (fun h => ?_) (fun h => ?_) <;> (try simp only [rulesE] at h) <;> try (exfalso; (try simp only [rulesF] at h); omega))
        | (refine keeps_sub (Mem.sub_set ?_) ?_; focus (simp [Mem.set_at, nomem, *]; done))
      refine append_open app_31 (src_31 _ [p.2.number] _) (cs := ((numsL (H.take k)).map intC).flatten) (bt := 2) (by simp [Mem.set_at, *]) cs_2 (by rw [int_len, numsL_len, List.length_take]; simp; omega) (by simp; omega) fun q2 hq2 => ?_
      simp only [fresh_set] at hq2
      have hq0 := hq2.2.2.2.2.2.2
      have pX := apart gX hq0
      have pA := apart hA hq0
      have pB := apart hB hq0
      have pD := apart hD hq0
      have pN := apart gN hq0
      have p7 := apart g7 hq0
      have p8 := apart g8 hq0
      have pq := apart gq hq0
      have hq1 : q2 ≠ n ∧ n ≠ q2 ∧ q2 ≠ nl ∧ nl ≠ q2 := by simp [hq2]
      clear hq0 hq2
      replace pX : Kept _ := pX
      replace pA : Kept _ := pA
      replace pB : Kept _ := pB
      replace pD : Kept _ := pD
      replace pN : Kept _ := pN
      replace kX : Kept _ := kX
      replace kA : Kept _ := kA
      replace kB : Kept _ := kB
      replace kD : Kept _ := kD
      replace kN : Kept _ := kN
      replace lX : Kept _ := lX
      replace lA : Kept _ := lA
      replace lB : Kept _ := lB
      replace lD : Kept _ := lD
      replace lN : Kept _ := lN
      replace dX : Kept _ := dX
      replace xA : Kept _ := xA
      replace xB : Kept _ := xB
      replace xD : Kept _ := xD
      replace nA : Kept _ := nA
      replace nB : Kept _ := nB
      replace nD : Kept _ := nD
      replace sA : Kept _ := sA
      replace sB : Kept _ := sB
      replace sD : Kept _ := sD
      replace eA : Kept _ := eA
      replace eB : Kept _ := eB
      replace eD : Kept _ := eD
      replace hA : Kept _ := hA
      replace hB : Kept _ := hB
      replace hD : Kept _ := hD
      replace gX : Kept _ := gX
      replace gN : Kept _ := gN
      replace hI : Kept _ := hI
      replace hc28 : Kept _ := hc28
      replace hrg : Kept _ := hrg
      replace pq : Kept _ := pq
      replace kq : Kept _ := kq
      replace lq : Kept _ := lq
      replace u1 : Kept _ := u1
      replace u2 : Kept _ := u2
      replace u3 : Kept _ := u3
      replace u4 : Kept _ := u4
      replace u5 : Kept _ := u5
      repeat' first
        | simp -dsimp (disch := omega) only [↓rulesA, rulesB, rulesC, Int.reduceLT, nth, upd, put, storeN, AV.one, Nat.reduceBEq, Nat.reduceBNe, Int.reduceBEq, Int.reduceBNe, Int.reduceLE, Int.reduceEq, Int.reduceMod, Int.reduceNeg, boolBin, strBin, intBin, unA, fillA, ne_eq, reduceCtorEq, Nat.reduceAdd, Nat.reduceSub, Nat.reduceLeDiff, Nat.reduceLT, Nat.reduceEqDiff, Int.reduceToNat, eq_self, rulesT, rulesD, startA_two, Frame.g0, Frame.g1, Frame.g2, Frame.g3, Frame.len, Frame.all, Frame.take, Frame.drop, Frame.sall, *]
        | (refine allK_intro fun n hn => ?_; try simp only [fresh_set] at hn)
        | (refine ifK_intro (fun h => ?_) (fun h => ?_) <;> (try simp only [rulesE] at h) <;> try (exfalso; (try simp only [rulesF] at h); omega))
        | (refine keeps_sub (Mem.sub_set ?_) ?_; focus (simp [Mem.set_at, nomem, *]; done))
      unfold Kept at *
      rw [roundV_normal]
      refine ⟨?_, _, Mem.sub.refl _, ⟨?_, ?_, ?_, ?_⟩, ?_, ?_, by omega, .inr ⟨by omega, q2, pX.2, pA.2, pB.2, pD.2, pN.2, p7.2, p8.2, ?_, ?_⟩⟩
      all_goals try rw [hnx, ← int_snoc]
      all_goals clear hnx hI hc28 hrg hHl
      all_goals first
        | (simp only [Mem.set_at, Mem.del_at]; simp only [pX, pA, pB, pD, pN, p7, p8, pq, hq1, kX, kA, kB, kD, kN, k7, k8, kq, lX, lA, lB, lD, lN, l7, l8, lq, dX, d78, xA, xB, xD, nA, nB, nD, sA, sB, sD, eA, eB, eD, us, u1, u2, u3, u4, u5, u6, u7, hA, hB, hD, gX, gN, g7, g8, ne_eq, not_false_eq_true, if_false, if_true, reduceIte]; done)
        | (simp only [Mem.set_at, Mem.del_at]; simp only [pX, pA, pB, pD, pN, p7, p8, pq, hq1, kX, kA, kB, kD, kN, k7, k8, kq, lX, lA, lB, lD, lN, l7, l8, lq, dX, d78, xA, xB, xD, nA, nB, nD, sA, sB, sD, eA, eB, eD, us, u1, u2, u3, u4, u5, u6, u7, hA, hB, hD, gX, gN, g7, g8, ne_eq, not_false_eq_true, if_false, if_true, reduceIte]; simp [numsL, intC]; done)
  · rintro m1 ⟨⟨hA', hB', hD', gN'⟩, gX', g7', kl, hm8⟩
    clear hA hB hD gN gX g7 g8
    rw [List.length_map] at kl hm8 g7'
    rcases hm8 with ⟨h0, g8⟩ | ⟨h0, q, u1, u2, u3, u4, u5, u6, u7, g8, gq⟩
    · repeat' first
        | simp -dsimp (disch := omega) only [↓rulesA, rulesB, rulesC, Int.reduceLT, nth, upd, put, storeN, AV.one, Nat.reduceBEq, Nat.reduceBNe, Int.reduceBEq, Int.reduceBNe, Int.reduceLE, Int.reduceEq, Int.reduceMod, Int.reduceNeg, boolBin, strBin, intBin, unA, fillA, ne_eq, reduceCtorEq, Nat.reduceAdd, Nat.reduceSub, Nat.reduceLeDiff, Nat.reduceLT, Nat.reduceEqDiff, Int.reduceToNat, eq_self, rulesT, rulesD, *]
        | (refine allK_intro fun n hn => ?_; try simp only [fresh_set] at hn)
        | (refine ifK_intro (fun h => ?_) (fun h => ?_) <;> (try simp only [rulesE] at h) <;> try (exfalso; (try simp only [rulesF] at h); omega))
        | (refine keeps_sub (Mem.sub_set ?_) ?_; focus (simp [Mem.set_at, nomem, *]; done))
      repeat' first
        | simp -dsimp (disch := omega) only [↓rulesA, rulesB, rulesC, Int.reduceLT, nth, upd, put, storeN, AV.one, Nat.reduceBEq, Nat.reduceBNe, Int.reduceBEq, Int.reduceBNe, Int.reduceLE, Int.reduceEq, Int.reduceMod, Int.reduceNeg, boolBin, strBin, intBin, unA, fillA, ne_eq, reduceCtorEq, Nat.reduceAdd, Nat.reduceSub, Nat.reduceLeDiff, Nat.reduceLT, Nat.reduceEqDiff, Int.reduceToNat, eq_self, rulesT, rulesD, mkFnA, staticFn, *]
        | (refine allK_intro fun n hn => ?_; try simp only [fresh_set] at hn)
        | (refine ifK_intro (fun h => ?_) (fun h => ?_) <;> (try simp only [rulesE] at h) <;> try (exfalso; (try simp only [rulesF] at h); omega))
        | (refine keeps_sub (Mem.sub_set ?_) ?_; focus (simp [Mem.set_at, nomem, *]; done))
      have : H = [] := List.eq_nil_of_length_eq_zero h0
      subst this
      have hp := fun fr => F54 fr [] false (by simp) hrg
      have hsee : ∀ M : Mem, (∀ q b', q ≠ N → ((nomem.set N (.cells true 44 (f.list.map Frame.cells).flatten)).set n8 (.cells false 31 [.val (.slice none 0 0)])) q = some b' → M q = some b') → Seen M (.ptr n8 0) (.vp [.vs (([] : List Int).map intC) false] 0) := fun M hM =>
        .ptr (hM n8 _ (by simp [*]) (Mem.set_same _ _ _)) (Nat.succ_pos _) rfl fun i a b => by
          match i, a with
          | 0, _ => exact .nilS
      have hgen : ∃ m9 : Mem, m9 = (nomem.set N (.cells true 44 (f.list.map Frame.cells).flatten)).set n8 (.cells false 31 [.val (.slice none 0 0)]) := ⟨_, rfl⟩
      obtain ⟨m9, e9⟩ := hgen
      rw [← e9] at hsee
      have h9 : m9.sub m1 := by rw [e9]; exact Mem.set_sub (nomem_set_sub gN') g8
      have h9N : m9 N = some (.cells true 44 (f.list.map Frame.cells).flatten) := by rw [e9]; simp [Mem.set_at, *]
      have h9o : ∀ k, k ≠ N → k ≠ n8 → m9 k = none := fun k a b => by rw [e9, Mem.set_ne _ _ b, Mem.set_ne _ _ a]; rfl
      clear e9
      refine call_at (C53 f.list (fun fr => decide (fr.number ∈ ([] : List Int))) _ _ hp h9N hsee hl) h9 fun r m2' M2 ⟨N2, k2, o, rest, hr2, hN2, hcl⟩ hs2 hl2 => ?_
      subst hr2
      obtain ⟨gX2, j2⟩ := left_at hl2 (h9o X hXN dX.2.1) gX'
      obtain ⟨g72, j7⟩ := left_at hl2 (h9o n7 dX.2.2.2.2.2.2.1 d78.1) g7'
      have e2 := j2 _ _ hN2
      have e7 := j7 _ _ hN2
      replace hN2 := hs2 _ _ hN2
      clear hs2 hl2 j2 j7 hsee hp h9 h9N h9o g8 g7' gX' gN' hA' hB' hD' hI hc28 hrg
      have eR : (f.list.filter fun a => !decide (a.number ∈ numsL ([] : List (Nat × Frame)))) = (f.list.filter fun a => !decide (a.number ∈ ([] : List Int))) := rfl
      rw [eR]
      generalize (f.list.filter fun a => !decide (a.number ∈ ([] : List Int))) = R at *
      repeat' first
        | simp -dsimp (disch := omega) only [↓rulesA, rulesB, rulesC, Int.reduceLT, nth, upd, put, storeN, AV.one, Nat.reduceBEq, Nat.reduceBNe, Int.reduceBEq, Int.reduceBNe, Int.reduceLE, Int.reduceEq, Int.reduceMod, Int.reduceNeg, boolBin, strBin, intBin, unA, fillA, ne_eq, reduceCtorEq, Nat.reduceAdd, Nat.reduceSub, Nat.reduceLeDiff, Nat.reduceLT, Nat.reduceEqDiff, Int.reduceToNat, eq_self, rulesT, rulesD, Fl.g0, Fl.g1, Fl.g2, Fl.len, Fl.all, Fl.take, Fl.drop, Fl.sall, *]
        | (refine allK_intro fun n hn => ?_; try simp only [fresh_set] at hn)
        | (refine ifK_intro (fun h => ?_) (fun h => ?_) <;> (try simp only [rulesE] at h) <;> try (exfalso; (try simp only [rulesF] at h); omega))
        | (refine keeps_sub (Mem.sub_set ?_) ?_; focus (simp [Mem.set_at, nomem, *]; done))
      exact Turns.sub (Mem.set_sub (nomem_set_sub (by simp [Mem.set_at, *])) (by simp [Mem.set_at, *])) ⟨rfl, N2, k2, o, rest, e2.2, hcl, rfl⟩
    · repeat' first
        | simp -dsimp (disch := omega) only [↓rulesA, rulesB, rulesC, Int.reduceLT, nth, upd, put, storeN, AV.one, Nat.reduceBEq, Nat.reduceBNe, Int.reduceBEq, Int.reduceBNe, Int.reduceLE, Int.reduceEq, Int.reduceMod, Int.reduceNeg, boolBin, strBin, intBin, unA, fillA, ne_eq, reduceCtorEq, Nat.reduceAdd, Nat.reduceSub, Nat.reduceLeDiff, Nat.reduceLT, Nat.reduceEqDiff, Int.reduceToNat, eq_self, rulesT, rulesD, *]
        | (refine allK_intro fun n hn => ?_; try simp only [fresh_set] at hn)
        | (refine ifK_intro (fun h => ?_) (fun h => ?_) <;> (try simp only [rulesE] at h) <;> try (exfalso; (try simp only [rulesF] at h); omega))
        | (refine keeps_sub (Mem.sub_set ?_) ?_; focus (simp [Mem.set_at, nomem, *]; done))
      repeat' first
        | simp -dsimp (disch := omega) only [↓rulesA, rulesB, rulesC, Int.reduceLT, nth, upd, put, storeN, AV.one, Nat.reduceBEq, Nat.reduceBNe, Int.reduceBEq, Int.reduceBNe, Int.reduceLE, Int.reduceEq, Int.reduceMod, Int.reduceNeg, boolBin, strBin, intBin, unA, fillA, ne_eq, reduceCtorEq, Nat.reduceAdd, Nat.reduceSub, Nat.reduceLeDiff, Nat.reduceLT, Nat.reduceEqDiff, Int.reduceToNat, eq_self, rulesT, rulesD, mkFnA, staticFn, *]
        | (refine allK_intro fun n hn => ?_; try simp only [fresh_set] at hn)
        | (refine ifK_intro (fun h => ?_) (fun h => ?_) <;> (try simp only [rulesE] at h) <;> try (exfalso; (try simp only [rulesF] at h); omega))
        | (refine keeps_sub (Mem.sub_set ?_) ?_; focus (simp [Mem.set_at, nomem, *]; done))
      have v5 := Ne.symm u5
      have v7 := Ne.symm u7
      have hp := fun fr => F54 fr (numsL H) false (by rw [numsL_len]; omega) hrg
      have hgen : ∃ m9 : Mem, m9 = ((nomem.set N (.cells true 44 (f.list.map Frame.cells).flatten)).set n8 (.cells false 31 [.sl q 0 H.length H.length])).set q (.cells true 2 ((numsL H).map intC).flatten) := ⟨_, rfl⟩
      obtain ⟨m9, e9⟩ := hgen
      rw [List.take_length] at gq
      have h9 : m9.sub m1 := by rw [e9]; exact Mem.set_sub (Mem.set_sub (nomem_set_sub gN') g8) gq
      have h9N : m9 N = some (.cells true 44 (f.list.map Frame.cells).flatten) := by rw [e9]; simp [Mem.set_at, *]
      have h98 : m9 n8 = some (.cells false 31 [.sl q 0 H.length H.length]) := by rw [e9]; simp [Mem.set_at, *]
      have h9q : m9 q = some (.cells true 2 ((numsL H).map intC).flatten) := by rw [e9]; simp [Mem.set_at]
      have hsee : ∀ M : Mem, (∀ q b', q ≠ N → m9 q = some b' → M q = some b') → Seen M (.ptr n8 0) (.vp [.vs ((numsL H).map intC) false] 0) := fun M hM =>
        .ptr (hM n8 _ (by simp [*]) h98) (Nat.succ_pos _) rfl fun i a b => by
          match i, a with
          | 0, _ =>
            have := Seen.row intC (s := 1) (cap := H.length) (fun _ => rfl) (numsL H) (hM q _ u5 h9q)
            rw [numsL_len] at this
            exact this
      have h9o : ∀ k, k ≠ N → k ≠ n8 → k ≠ q → m9 k = none := fun k a b c => by rw [e9, Mem.set_ne _ _ c, Mem.set_ne _ _ b, Mem.set_ne _ _ a]; rfl
      clear e9
      refine call_at (C53 f.list (fun fr => decide (fr.number ∈ numsL H)) _ _ hp h9N hsee hl) h9 fun r m2' M2 ⟨N2, k2, o, rest, hr2, hN2, hcl⟩ hs2 hl2 => ?_
      subst hr2
      obtain ⟨gX2, j2⟩ := left_at hl2 (h9o X hXN dX.2.1 (Ne.symm u1)) gX'
      obtain ⟨g72, j7⟩ := left_at hl2 (h9o n7 dX.2.2.2.2.2.2.1 d78.1 (Ne.symm u6)) g7'
      have e2 := j2 _ _ hN2
      have e7 := j7 _ _ hN2
      replace hN2 := hs2 _ _ hN2
      clear hs2 hl2 j2 j7 hsee hp h9 h9N h98 h9q h9o gq g8 g7' gX' gN' hA' hB' hD' hI hc28 hrg
      generalize (f.list.filter fun a => !decide (a.number ∈ numsL H)) = R at *
      repeat' first
        | simp -dsimp (disch := omega) only [↓rulesA, rulesB, rulesC, Int.reduceLT, nth, upd, put, storeN, AV.one, Nat.reduceBEq, Nat.reduceBNe, Int.reduceBEq, Int.reduceBNe, Int.reduceLE, Int.reduceEq, Int.reduceMod, Int.reduceNeg, boolBin, strBin, intBin, unA, fillA, ne_eq, reduceCtorEq, Nat.reduceAdd, Nat.reduceSub, Nat.reduceLeDiff, Nat.reduceLT, Nat.reduceEqDiff, Int.reduceToNat, eq_self, rulesT, rulesD, Fl.g0, Fl.g1, Fl.g2, Fl.len, Fl.all, Fl.take, Fl.drop, Fl.sall, *]
        | (refine allK_intro fun n hn => ?_; try simp only [fresh_set] at hn)
        | (refine ifK_intro (fun h => ?_) (fun h => ?_) <;> (try simp only [rulesE] at h) <;> try (exfalso; (try simp only [rulesF] at h); omega))
        | (refine keeps_sub (Mem.sub_set ?_) ?_; focus (simp [Mem.set_at, nomem, *]; done))
      exact Turns.sub (Mem.set_sub (nomem_set_sub (by simp [Mem.set_at, *])) (by simp [Mem.set_at, *])) ⟨rfl, N2, k2, o, rest, e2.2, hcl, rfl⟩
end Go.Proofs.Ytdhbonjbjnodhaa

set_option maxRecDepth 100000
set_option maxHeartbeats 1000000
set_option linter.unusedSimpArgs false
set_option linter.unusedVariables false
namespace Go.Proofs.Ytdhbonjbjnodhaa
open Go.Abs
attribute [local irreducible] C X CC Y CV CW binK litK AppK PureC PureCV againK loopV rangeV allK ifK got onB condK V stepsK planK opK firstK seeE keepsK
theorem ov_51 : OvOK Try.prog 51 Way.cells := fun m d x n off len cap opn bt cs K' hm hbt hoff hk =>
  X.overlaps (rt := 4) Try.func51 (by kernel_rfl) (by kernel_rfl) (by kernel_rfl) (by kernel_rfl) ti_23 rfl ti_60 (fun y hy => by simp only [List.mem_singleton] at hy; subst hy; exact Nat.zero_lt_succ _) hm hbt hoff hk
theorem C36 (l : List Way) (d : Way) (k : Nat) (hk : k ≤ l.length) {m : Mem} {n : Nat} (hm : m n = some (.cells true 60 (l.map Way.cells).flatten)) (hl : (l.length + 1) * 16 ≤ 140737488355328) :
    C Try.prog 36 [.sl n 0 l.length l.length, .val (.int .i64 k), .vs [d.cells] true] m (fun r m' => ∃ N, r = .sl N 0 (l.length + 1) (l.length + 1) ∧ m' N = some (.cells true 60 ((l.take k ++ d :: l.drop k).map Way.cells).flatten)) :=
  insert_C Way.cells is36 T_23 ti_3 rfl ov_51 wcell l d k hk hm hl (by omega)
theorem C38 (l : List Way) (k : Nat) (hk : k < l.length) {m : Mem} {n : Nat} (hm : m n = some (.cells true 60 (l.map Way.cells).flatten)) (hl : l.length * 16 ≤ 140737488355328) :
    C Try.prog 38 [.sl n 0 l.length l.length, .val (.int .i64 k), .val (.int .i64 ((k : Int) + 1))] m (fun r m' => ∃ N c rest, r = .sl N 0 (l.take k ++ l.drop (k + 1)).length c ∧ m' N = some (.cells false 60 (((l.take k ++ l.drop (k + 1)).map Way.cells).flatten ++ rest)) ∧ AV.clean.cleans rest = true) :=
  delete_CC Way.cells is38 ti_3 T_23 wcell wclean rfl l hk hm hl (by omega)
theorem lit1_23 (d : Way) : litA Try.prog 23 1 [(0, .agg d.cells)] = some (60, 2, d.cells) := by
  simp only [litA, ti_23, ti_60, z_60, fillA, cells_agg, Way.all, if_true]
  rfl
def insAt (w : Way) (l : List Way) : Nat := (l.takeWhile fun a => lessW a w).length
theorem insAt_le (w : Way) (l : List Way) : insAt w l ≤ l.length := (List.takeWhile_sublist _).length_le
theorem insAt_at (w : Way) : ∀ (l : List Way) (k : Nat), k ≤ l.length → (∀ q, q < k → lessW (l.getD q default) w = true) → (k < l.length → lessW (l.getD k default) w = false) → insAt w l = k
  | [], k, hk, h1, h2 => by
    have : k = 0 := by simpa using hk
    subst this; rfl
  | a :: l, 0, hk, h1, h2 => by
    have := h2 (by simp)
    simp only [List.getD_cons_zero] at this
    unfold insAt
    rw [List.takeWhile_cons, if_neg (by rw [this]; decide)]; rfl
  | a :: l, k + 1, hk, h1, h2 => by
    have h0 := h1 0 (by omega)
    simp only [List.getD_cons_zero] at h0
    have ih := insAt_at w l k (by simpa using hk) (fun q hq => by have := h1 (q + 1) (by omega); simpa using this) (fun hl => by have := h2 (by simpa using hl); simpa using this)
    unfold insAt at ih ⊢
    rw [List.takeWhile_cons, if_pos h0, List.length_cons, ih]
def cutIn (w : Way) (l : List Way) : List Way := l.take (insAt w l) ++ w :: l.drop (insAt w l)
def cutG (f : Fl) (w : Way) : Fl := if wayN f.cut w = 0 then ⟨f.next, f.list, cutIn w f.cut⟩ else f
def cutF (f : Fl) (w : Way) : Fl × Int := if w.from_ = w.to_ then (f, 0) else loseF (cutG f w) w false
def Res2 (p : Fl × Int) : AV → Mem → Prop := Res p.1 [.val (.int .i64 p.2)]
def two (a b : Option AV) : Option AV := match a, b with
  | some a, some b => some (.tup [a, b])
  | _, _ => none
theorem two_some (a b : AV) : two (some a) (some b) = some (.tup [a, b]) := Eq.trans rfl rfl
theorem resL_two (P : Program) (m : Mem) (env : List AV) (x y : ResultVar) : resL P m env [x, y] = two (resOne P m env x) (resOne P m env y) := by
  simp only [resL, List.mapM_cons, List.mapM_nil, two]
  cases resOne P m env x <;> cases resOne P m env y <;> rfl
theorem cutIn_len (w : Way) (l : List Way) : (cutIn w l).length = l.length + 1 := by
  have := insAt_le w l
  unfold cutIn
  simp; omega
theorem two_at {X N : Nat} {b1 b2 : Blk} {m' : Mem} (h : m' = (nomem.set X b1).set N b2) (hne : N ≠ X) : m' X = some b1 ∧ m' N = some b2 := by
  rw [h]
  exact ⟨by rw [Mem.set_ne _ _ (Ne.symm hne), Mem.set_same], Mem.set_same _ _ _⟩
end Go.Proofs.Ytdhbonjbjnodhaa

set_option maxRecDepth 100000
set_option maxHeartbeats 1000000
set_option linter.unusedSimpArgs false
set_option linter.unusedVariables false
namespace Go.Proofs.Ytdhbonjbjnodhaa
open Go.Abs
attribute [local irreducible] C X CC Y CV CW binK litK AppK PureC PureCV againK loopV rangeV allK ifK got onB condK V stepsK planK opK firstK seeE keepsK
theorem wayN_pos (l : List Way) (w : Way) : 0 ≤ wayN l w := by unfold wayN; split <;> omega
theorem C21 (f : Fl) (x y : Bool) (a b : Int) (h1 : f.list.length ≤ 65536) (h2 : f.cut.length ≤ 2000000000000) (hnd : f.cut.Nodup) (hr : NumRise f.list) : C Try.prog 21 [.agg (f.rc x y), .val (.int .i64 a), .val (.int .i64 b)] nomem (Res2 (cutF f ⟨a, b⟩)) := by
  refine C.turn (C21_of ?_)
  unfold k21
  repeat' first
    | simp -dsimp (disch := omega) only [↓rulesA, rulesB, rulesC, Int.reduceLT, nth, upd, put, storeN, AV.one, Nat.reduceBEq, Nat.reduceBNe, Int.reduceBEq, Int.reduceBNe, Int.reduceLE, Int.reduceEq, Int.reduceMod, Int.reduceNeg, boolBin, strBin, intBin, unA, fillA, ne_eq, reduceCtorEq, Nat.reduceAdd, Nat.reduceSub, Nat.reduceLeDiff, Nat.reduceLT, Nat.reduceEqDiff, Int.reduceToNat, eq_self, rulesT, rulesD, Fl.g0, Fl.g1, Fl.g2, Fl.len, Fl.all, Fl.take, Fl.drop, Fl.sall, *]
    | (refine allK_intro fun n hn => ?_; try simp only [fresh_set] at hn)
    | (refine ifK_intro (fun h => ?_) (fun h => ?_) <;> (try simp only [rulesE] at h) <;> try (exfalso; (try simp only [rulesF] at h); omega))
    | (refine keeps_sub (Mem.sub_set ?_) ?_; focus (simp [Mem.set_at, nomem, *]; done))
  rename_i n3 hn3
  revert n
  intro n6 hn6
  refine call_at (C32 f x y (by omega) (by omega)) (nomem_sub _) fun r m1' M1 ⟨N, M, hr1, hown⟩ hs1 hl1 => ?_
  subst hr1
  obtain ⟨hne, hN, hM⟩ := hown
  obtain ⟨g6, i6⟩ := left_at hl1 (q := n6) rfl (by simp [Mem.set_at, *]; rfl)
  obtain ⟨g3, i3⟩ := left_at hl1 (q := n3) rfl (by simp [Mem.set_at, *]; rfl)
  have a1 := i3 _ _ hN
  have a2 := i3 _ _ hM
  have a3 := i6 _ _ hN
  have a4 := i6 _ _ hM
  have kN := hs1 _ _ hN
  have kM := hs1 _ _ hM
  clear hN hM hs1 hl1 i6 i3
  have hne' : M ≠ N := Ne.symm hne
  unfold cutF
  by_cases hab : a = b
  · rw [if_pos hab]
    subst hab
    have haa : (a == a) = true := beq_self_eq_true a
    repeat' first
      | simp -dsimp (disch := omega) only [↓rulesA, rulesB, rulesC, Int.reduceLT, nth, upd, put, storeN, AV.one, Nat.reduceBEq, Nat.reduceBNe, Int.reduceBEq, Int.reduceBNe, Int.reduceLE, Int.reduceEq, Int.reduceMod, Int.reduceNeg, boolBin, strBin, intBin, unA, fillA, ne_eq, reduceCtorEq, Nat.reduceAdd, Nat.reduceSub, Nat.reduceLeDiff, Nat.reduceLT, Nat.reduceEqDiff, Int.reduceToNat, eq_self, rulesT, rulesD, oc_is, resL_two, two_some, Fl.g0, Fl.g1, Fl.g2, Fl.len, Fl.all, Fl.take, Fl.drop, Fl.sall, *]
      | (refine allK_intro fun n hn => ?_; try simp only [fresh_set] at hn)
      | (refine ifK_intro (fun h => ?_) (fun h => ?_) <;> (try simp only [rulesE] at h) <;> try (exfalso; (try simp only [rulesF] at h); omega))
      | (refine keeps_sub (Mem.sub_set ?_) ?_; focus (simp [Mem.set_at, nomem, *]; done))
    have d3 := apart g3 hn
    have d6 := apart g6 hn
    have dN := apart kN hn
    have dM := apart kM hn
    repeat' first
      | simp -dsimp (disch := omega) only [↓rulesA, rulesB, rulesC, Int.reduceLT, nth, upd, put, storeN, AV.one, Nat.reduceBEq, Nat.reduceBNe, Int.reduceBEq, Int.reduceBNe, Int.reduceLE, Int.reduceEq, Int.reduceMod, Int.reduceNeg, boolBin, strBin, intBin, unA, fillA, ne_eq, reduceCtorEq, Nat.reduceAdd, Nat.reduceSub, Nat.reduceLeDiff, Nat.reduceLT, Nat.reduceEqDiff, Int.reduceToNat, eq_self, rulesT, rulesD, oc_is, resL_two, two_some, Fl.g0, Fl.g1, Fl.g2, Fl.len, Fl.all, Fl.take, Fl.drop, Fl.sall, *]
      | (refine allK_intro fun n hn => ?_; try simp only [fresh_set] at hn)
      | (refine ifK_intro (fun h => ?_) (fun h => ?_) <;> (try simp only [rulesE] at h) <;> try (exfalso; (try simp only [rulesF] at h); omega))
      | (refine keeps_sub (Mem.sub_set ?_) ?_; focus (simp [Mem.set_at, nomem, *]; done))
    exact res_turn0 (g := f) (N := N) (M := M) (oN := true) (oM := true) rfl rfl rfl hne (by simp [Mem.set_at, *]) (by simp [Mem.set_at, *])
  · rw [if_neg hab]
    have hab' : (a == b) = false := beq_eq_false_iff_ne.2 hab
    clear hab
    repeat' first
      | simp -dsimp (disch := omega) only [↓rulesA, rulesB, rulesC, Int.reduceLT, nth, upd, put, storeN, AV.one, Nat.reduceBEq, Nat.reduceBNe, Int.reduceBEq, Int.reduceBNe, Int.reduceLE, Int.reduceEq, Int.reduceMod, Int.reduceNeg, boolBin, strBin, intBin, unA, fillA, ne_eq, reduceCtorEq, Nat.reduceAdd, Nat.reduceSub, Nat.reduceLeDiff, Nat.reduceLT, Nat.reduceEqDiff, Int.reduceToNat, eq_self, rulesT, rulesD, oc_is, resL_two, two_some, Fl.g0, Fl.g1, Fl.g2, Fl.len, Fl.all, Fl.take, Fl.drop, Fl.sall, Way.g0, Way.g1, Way.len, Way.all, Way.take, Way.drop, Way.sall, *]
      | (refine allK_intro fun n hn => ?_; try simp only [fresh_set] at hn)
      | (refine ifK_intro (fun h => ?_) (fun h => ?_) <;> (try simp only [rulesE] at h) <;> try (exfalso; (try simp only [rulesF] at h); omega))
      | (refine keeps_sub (Mem.sub_set ?_) ?_; focus (simp [Mem.set_at, nomem, *]; done))
    rename_i n8 hn8
    have b3 := apart g3 hn.2.2
    have b6 := apart g6 hn.2.2
    have bN := apart kN hn.2.2
    have bM := apart kM hn.2.2
    have d3 := apart g3 hn8
    have d6 := apart g6 hn8
    have dN := apart kN hn8
    have dM := apart kM hn8
    have b8 : n8 ≠ n ∧ n ≠ n8 := ⟨hn.2.1, hn.1⟩
    repeat' first
      | simp -dsimp (disch := omega) only [↓rulesA, rulesB, rulesC, Int.reduceLT, nth, upd, put, storeN, AV.one, Nat.reduceBEq, Nat.reduceBNe, Int.reduceBEq, Int.reduceBNe, Int.reduceLE, Int.reduceEq, Int.reduceMod, Int.reduceNeg, boolBin, strBin, intBin, unA, fillA, ne_eq, reduceCtorEq, Nat.reduceAdd, Nat.reduceSub, Nat.reduceLeDiff, Nat.reduceLT, Nat.reduceEqDiff, Int.reduceToNat, eq_self, rulesT, rulesD, oc_is, resL_two, two_some, Fl.g0, Fl.g1, Fl.g2, Fl.len, Fl.all, Fl.take, Fl.drop, Fl.sall, Way.g0, Way.g1, Way.len, Way.all, Way.take, Way.drop, Way.sall, *]
      | (refine allK_intro fun n hn => ?_; try simp only [fresh_set] at hn)
      | (refine ifK_intro (fun h => ?_) (fun h => ?_) <;> (try simp only [rulesE] at h) <;> try (exfalso; (try simp only [rulesF] at h); omega))
      | (refine keeps_sub (Mem.sub_set ?_) ?_; focus (simp [Mem.set_at, nomem, *]; done))
    revert n
    intro n9 hn9 b3 b6 bN bM b8
    refine call_at (C33 f x y hnd (by omega)) (nomem_sub _) fun r m2' M2 ⟨W, hr2, hW⟩ hs2 hl2 => ?_
    subst hr2
    obtain ⟨g6', i6⟩ := left_at hl2 (q := n6) rfl (by simp [Mem.set_at, *]; rfl)
    obtain ⟨g8', i8⟩ := left_at hl2 (q := n8) rfl (by simp [Mem.set_at, *]; rfl)
    obtain ⟨g9', i9⟩ := left_at hl2 (q := n9) rfl (by simp [Mem.set_at, *]; rfl)
    obtain ⟨kN', iN⟩ := left_at hl2 (q := N) rfl (by simp [Mem.set_at, *]; rfl)
    obtain ⟨kM', iM⟩ := left_at hl2 (q := M) rfl (by simp [Mem.set_at, *]; rfl)
    have hlk := look_ways (hs2 _ _ hW) ⟨a, b⟩
    rw [way_cells] at hlk
    clear hl2 hs2 hW i6 i8 i9 iN iM g6 kN kM g3 hn9 hn8 hn6 hn3 a1 a2 d3 b3 hnd
    refine keeps_stab (stabK_cons ?_ (stabK_nil _ _)) ?_
    · simp only [quietA]
      repeat' first
        | simp -dsimp (disch := omega) only [↓rulesA, rulesB, rulesC, Int.reduceLT, nth, upd, put, storeN, AV.one, Nat.reduceBEq, Nat.reduceBNe, Int.reduceBEq, Int.reduceBNe, Int.reduceLE, Int.reduceEq, Int.reduceMod, Int.reduceNeg, boolBin, strBin, intBin, unA, fillA, ne_eq, reduceCtorEq, Nat.reduceAdd, Nat.reduceSub, Nat.reduceLeDiff, Nat.reduceLT, Nat.reduceEqDiff, Int.reduceToNat, eq_self, rulesT, rulesD, Way.g0, Way.g1, Way.len, Way.all, Way.take, Way.drop, Way.sall, *]
        | (refine allK_intro fun n hn => ?_; try simp only [fresh_set] at hn)
        | (refine ifK_intro (fun h => ?_) (fun h => ?_) <;> (try simp only [rulesE] at h) <;> try (exfalso; (try simp only [rulesF] at h); omega))
        | (refine keeps_sub (Mem.sub_set ?_) ?_; focus (simp [Mem.set_at, nomem, *]; done))
      rfl
    have hpos := wayN_pos f.cut ⟨a, b⟩
    by_cases hz : wayN f.cut ⟨a, b⟩ = 0
    · have hG : loseF (cutG f ⟨a, b⟩) ⟨a, b⟩ false = (⟨(loseF f ⟨a, b⟩ false).1.next, (loseF f ⟨a, b⟩ false).1.list, cutIn ⟨a, b⟩ f.cut⟩, (loseF f ⟨a, b⟩ false).2) := by
        rw [show cutG f ⟨a, b⟩ = ⟨f.next, f.list, cutIn ⟨a, b⟩ f.cut⟩ from if_pos hz]; rfl
      rw [hG]
      clear hG
      repeat' first
        | simp -dsimp (disch := omega) only [↓rulesA, rulesB, rulesC, Int.reduceLT, nth, upd, put, storeN, AV.one, Nat.reduceBEq, Nat.reduceBNe, Int.reduceBEq, Int.reduceBNe, Int.reduceLE, Int.reduceEq, Int.reduceMod, Int.reduceNeg, boolBin, strBin, intBin, unA, fillA, ne_eq, reduceCtorEq, Nat.reduceAdd, Nat.reduceSub, Nat.reduceLeDiff, Nat.reduceLT, Nat.reduceEqDiff, Int.reduceToNat, eq_self, rulesT, rulesD, Fl.g0, Fl.g1, Fl.g2, Fl.len, Fl.all, Fl.take, Fl.drop, Fl.sall, Way.g0, Way.g1, Way.len, Way.all, Way.take, Way.drop, Way.sall, *]
        | (refine allK_intro fun n hn => ?_; try simp only [fresh_set] at hn)
        | (refine ifK_intro (fun h => ?_) (fun h => ?_) <;> (try simp only [rulesE] at h) <;> try (exfalso; (try simp only [rulesF] at h); omega))
        | (refine keeps_sub (Mem.sub_set ?_) ?_; focus (simp [Mem.set_at, nomem, *]; done))
      clear hlk
      refine loop_intro (fun j env m => ∃ k : Nat, k ≤ f.cut.length ∧ j = f.cut.length - k ∧ m = M2 ∧ Kept (∀ q, q < k → lessW (f.cut.getD q default) ⟨a, b⟩ = true) ∧ env.length = 53 ∧ nth env 6 = .ptr n6 0 ∧ nth env 8 = .ptr n8 0 ∧ nth env 9 = .ptr n9 0 ∧ nth env 10 = .val (.int .i64 k)) f.cut.length _ (Mem.sub.refl _) ⟨0, by omega, rfl, rfl, fun q hq => absurd hq (Nat.not_lt_zero _), rfl, rfl, rfl, rfl, rfl⟩ ?_
      rintro j env m ⟨k, hk, rfl, rfl, hbe, hlen, e6, e8, e9, e10⟩
      have f29 := F29 ⟨a, b⟩ (f.cut.getD k default)
      rw [way_cells] at f29
      by_cases hkl : k < f.cut.length
      · cases hls : lessW (f.cut.getD k default) ⟨a, b⟩ with
        | true =>
          rw [hls] at f29
          have hbe' : Kept (∀ q, q < k + 1 → lessW (f.cut.getD q default) ⟨a, b⟩ = true) := fun q hq => by
            rcases Nat.lt_or_ge q k with h | h
            · exact (hbe : ∀ q, _) q h
            · rw [show q = k by omega]; exact hls
          clear hbe hls
          repeat' first
            | simp -dsimp (disch := omega) only [↓rulesA, rulesB, rulesC, Int.reduceLT, nth, upd, put, storeN, AV.one, Nat.reduceBEq, Nat.reduceBNe, Int.reduceBEq, Int.reduceBNe, Int.reduceLE, Int.reduceEq, Int.reduceMod, Int.reduceNeg, boolBin, strBin, intBin, unA, fillA, ne_eq, reduceCtorEq, Nat.reduceAdd, Nat.reduceSub, Nat.reduceLeDiff, Nat.reduceLT, Nat.reduceEqDiff, Int.reduceToNat, eq_self, rulesT, rulesD, T_23.ix, T_23.len, Way.rin, Way.rpart, Fl.g0, Fl.g1, Fl.g2, Fl.len, Fl.all, Fl.take, Fl.drop, Fl.sall, Way.g0, Way.g1, Way.len, Way.all, Way.take, Way.drop, Way.sall, *]
            | (refine allK_intro fun n hn => ?_; try simp only [fresh_set] at hn)
            | (refine ifK_intro (fun h => ?_) (fun h => ?_) <;> (try simp only [rulesE] at h) <;> try (exfalso; (try simp only [rulesF] at h); omega))
            | (refine keeps_sub (Mem.sub_set ?_) ?_; focus (simp [Mem.set_at, nomem, *]; done))
            | (refine keeps_stab ?_ ?_; focus ((repeat' first | exact stabK_nil _ _ | refine stabK_cons ?_ ?_ | (simp (disch := omega) only [quietA, Option.isSome_some, ↓rulesA, rulesB, rulesC, Int.reduceLT, nth, upd, put, storeN, AV.one, Nat.reduceBEq, Nat.reduceBNe, Int.reduceBEq, Int.reduceBNe, Int.reduceLE, Int.reduceEq, Int.reduceMod, Int.reduceNeg, boolBin, strBin, intBin, unA, fillA, ne_eq, reduceCtorEq, Nat.reduceAdd, Nat.reduceSub, Nat.reduceLeDiff, Nat.reduceLT, Nat.reduceEqDiff, Int.reduceToNat, eq_self, rulesT, rulesD, T_23.ix, T_23.len, Way.rin, Way.rpart, Fl.g0, Fl.g1, Fl.g2, Fl.len, Fl.all, Fl.take, Fl.drop, Fl.sall, Way.g0, Way.g1, Way.len, Way.all, Way.take, Way.drop, Way.sall, *]; done)); done))
            | (refine call_F (f29) (Seens.refl _ _) ?_)
            | (refine pure_F (f29) (Seens.refl _ _) ?_)
          refine again_intro (f.cut.length - (k + 1)) (by omega) _ (Mem.sub.refl _) ⟨k + 1, by omega, rfl, rfl, hbe', ?_, ?_, ?_, ?_, ?_⟩
          all_goals try (simp (disch := omega) only [nth_upd, pickB_true, pickB_false, inB_lt, upd_len, cast_succ, Int.cast_ofNat_Int, Nat.reduceBEq, beq_self_eq_true, reduceCtorEq, *]; done)
        | false =>
          rw [hls] at f29
          have hka : insAt ⟨a, b⟩ f.cut = k := insAt_at _ _ _ (by omega) hbe fun _ => hls
          clear hbe hls
          repeat' first
            | simp -dsimp (disch := omega) only [↓rulesA, rulesB, rulesC, Int.reduceLT, nth, upd, put, storeN, AV.one, Nat.reduceBEq, Nat.reduceBNe, Int.reduceBEq, Int.reduceBNe, Int.reduceLE, Int.reduceEq, Int.reduceMod, Int.reduceNeg, boolBin, strBin, intBin, unA, fillA, ne_eq, reduceCtorEq, Nat.reduceAdd, Nat.reduceSub, Nat.reduceLeDiff, Nat.reduceLT, Nat.reduceEqDiff, Int.reduceToNat, eq_self, rulesT, rulesD, T_23.ix, T_23.len, Way.rin, Way.rpart, Fl.g0, Fl.g1, Fl.g2, Fl.len, Fl.all, Fl.take, Fl.drop, Fl.sall, Way.g0, Way.g1, Way.len, Way.all, Way.take, Way.drop, Way.sall, *]
            | (refine allK_intro fun n hn => ?_; try simp only [fresh_set] at hn)
            | (refine ifK_intro (fun h => ?_) (fun h => ?_) <;> (try simp only [rulesE] at h) <;> try (exfalso; (try simp only [rulesF] at h); omega))
            | (refine keeps_sub (Mem.sub_set ?_) ?_; focus (simp [Mem.set_at, nomem, *]; done))
            | (refine keeps_stab ?_ ?_; focus ((repeat' first | exact stabK_nil _ _ | refine stabK_cons ?_ ?_ | (simp (disch := omega) only [quietA, Option.isSome_some, ↓rulesA, rulesB, rulesC, Int.reduceLT, nth, upd, put, storeN, AV.one, Nat.reduceBEq, Nat.reduceBNe, Int.reduceBEq, Int.reduceBNe, Int.reduceLE, Int.reduceEq, Int.reduceMod, Int.reduceNeg, boolBin, strBin, intBin, unA, fillA, ne_eq, reduceCtorEq, Nat.reduceAdd, Nat.reduceSub, Nat.reduceLeDiff, Nat.reduceLT, Nat.reduceEqDiff, Int.reduceToNat, eq_self, rulesT, rulesD, T_23.ix, T_23.len, Way.rin, Way.rpart, Fl.g0, Fl.g1, Fl.g2, Fl.len, Fl.all, Fl.take, Fl.drop, Fl.sall, Way.g0, Way.g1, Way.len, Way.all, Way.take, Way.drop, Way.sall, *]; done)); done))
            | (refine call_F (f29) (Seens.refl _ _) ?_)
            | (refine pure_F (f29) (Seens.refl _ _) ?_)
          have hl1 := lit1_23 ⟨a, b⟩
          rw [way_cells] at hl1
          refine lit_vs hl1 rfl ?_
          repeat' first
            | simp -dsimp (disch := omega) only [↓rulesA, rulesB, rulesC, Int.reduceLT, nth, upd, put, storeN, AV.one, Nat.reduceBEq, Nat.reduceBNe, Int.reduceBEq, Int.reduceBNe, Int.reduceLE, Int.reduceEq, Int.reduceMod, Int.reduceNeg, boolBin, strBin, intBin, unA, fillA, ne_eq, reduceCtorEq, Nat.reduceAdd, Nat.reduceSub, Nat.reduceLeDiff, Nat.reduceLT, Nat.reduceEqDiff, Int.reduceToNat, eq_self, rulesT, rulesD, Fl.g0, Fl.g1, Fl.g2, Fl.len, Fl.all, Fl.take, Fl.drop, Fl.sall, Way.g0, Way.g1, Way.len, Way.all, Way.take, Way.drop, Way.sall, *]
            | (refine allK_intro fun n hn => ?_; try simp only [fresh_set] at hn)
            | (refine ifK_intro (fun h => ?_) (fun h => ?_) <;> (try simp only [rulesE] at h) <;> try (exfalso; (try simp only [rulesF] at h); omega))
            | (refine keeps_sub (Mem.sub_set ?_) ?_; focus (simp [Mem.set_at, nomem, *]; done))
          have c36 := C36 f.cut ⟨a, b⟩ k hk (m := nomem.set M (.cells true 60 (f.cut.map Way.cells).flatten)) (n := M) (Mem.set_same _ _ _) (by omega)
          rw [way_cells] at c36
          refine call_at c36 (nomem_set_sub kM') fun r m4' M4m ⟨M4, hr4, hM4⟩ hs4 hl4 => ?_
          subst hr4
          obtain ⟨t6, q6⟩ := left_at hl4 (q := n6) (by simp [Mem.set_at, nomem, *]) g6'
          obtain ⟨t8, q8⟩ := left_at hl4 (q := n8) (by simp [Mem.set_at, nomem, *]) g8'
          obtain ⟨t9, q9⟩ := left_at hl4 (q := n9) (by simp [Mem.set_at, nomem, *]) g9'
          obtain ⟨tN, qN⟩ := left_at hl4 (q := N) (by simp [Mem.set_at, nomem, *]) kN'
          have u6 := q6 _ _ hM4
          have u8 := q8 _ _ hM4
          have u9 := q9 _ _ hM4
          have uN := qN _ _ hM4
          have kM4 := hs4 _ _ hM4
          clear hs4 hl4 q6 q8 q9 qN hM4 c36 g6' g8' g9' kN' kM' hl1
          repeat' first
            | simp -dsimp (disch := omega) only [↓rulesA, rulesB, rulesC, Int.reduceLT, nth, upd, put, storeN, AV.one, Nat.reduceBEq, Nat.reduceBNe, Int.reduceBEq, Int.reduceBNe, Int.reduceLE, Int.reduceEq, Int.reduceMod, Int.reduceNeg, boolBin, strBin, intBin, unA, fillA, ne_eq, reduceCtorEq, Nat.reduceAdd, Nat.reduceSub, Nat.reduceLeDiff, Nat.reduceLT, Nat.reduceEqDiff, Int.reduceToNat, eq_self, rulesT, rulesD, Fl.g0, Fl.g1, Fl.g2, Fl.len, Fl.all, Fl.take, Fl.drop, Fl.sall, Way.g0, Way.g1, Way.len, Way.all, Way.take, Way.drop, Way.sall, *]
            | (refine allK_intro fun n hn => ?_; try simp only [fresh_set] at hn)
            | (refine ifK_intro (fun h => ?_) (fun h => ?_) <;> (try simp only [rulesE] at h) <;> try (exfalso; (try simp only [rulesF] at h); omega))
            | (refine keeps_sub (Mem.sub_set ?_) ?_; focus (simp [Mem.set_at, nomem, *]; done))
          have c37 := C37 f ⟨a, b⟩ false (X := n8) (N := N) dN.2 (.sl M4 0 (f.cut.length + 1) (f.cut.length + 1)) rfl hr h1
          rw [way_cells] at c37
          refine call_at c37 (Mem.set_sub (nomem_set_sub ?_) ?_) fun r m3' M3 ⟨hr3, N2, k2, o, rest, hN2X, hcl, hm3⟩ hs3 hl3 => ?_
          · first | (simp [Mem.set_at, *]; done) | (simp [Mem.set_at, *]; rfl)
          · simp [Mem.set_at, *]
          subst hr3
          obtain ⟨j8, jN⟩ := two_at hm3 hN2X
          obtain ⟨k6, q6⟩ := left_at hl3 (q := n6) (by simp [Mem.set_at, nomem, *]) (by first | (simp [Mem.set_at, *]; done) | (simp [Mem.set_at, *]; rfl))
          obtain ⟨kM2, qM⟩ := left_at hl3 (q := M4) (by simp [Mem.set_at, nomem, *]) (by first | (simp [Mem.set_at, *]; done) | (simp [Mem.set_at, *]; rfl))
          have e6' := q6 _ _ jN
          have eM := qM _ _ jN
          have k8 := hs3 _ _ j8
          have kN2 := hs3 _ _ jN
          clear hl3 hs3 hm3 j8 jN q6 qM c37 t6 t8 t9 tN kM4
          have eG : (loseF f ⟨a, b⟩ false).1.next = f.next := rfl
          generalize loseF f ⟨a, b⟩ false = R at *
          obtain ⟨g, n⟩ := R
          obtain ⟨gn, gl, gc⟩ := g
          simp only at eG
          subst eG
          repeat' first
            | simp -dsimp (disch := omega) only [↓rulesA, rulesB, rulesC, Int.reduceLT, nth, upd, put, storeN, AV.one, Nat.reduceBEq, Nat.reduceBNe, Int.reduceBEq, Int.reduceBNe, Int.reduceLE, Int.reduceEq, Int.reduceMod, Int.reduceNeg, boolBin, strBin, intBin, unA, fillA, ne_eq, reduceCtorEq, Nat.reduceAdd, Nat.reduceSub, Nat.reduceLeDiff, Nat.reduceLT, Nat.reduceEqDiff, Int.reduceToNat, eq_self, rulesT, rulesD, oc_is, resL_two, two_some, Fl.g0, Fl.g1, Fl.g2, Fl.len, Fl.all, Fl.take, Fl.drop, Fl.sall, Way.g0, Way.g1, Way.len, Way.all, Way.take, Way.drop, Way.sall, *]
            | (refine allK_intro fun n hn => ?_; try simp only [fresh_set] at hn)
            | (refine ifK_intro (fun h => ?_) (fun h => ?_) <;> (try simp only [rulesE] at h) <;> try (exfalso; (try simp only [rulesF] at h); omega))
            | (refine keeps_sub (Mem.sub_set ?_) ?_; focus (simp [Mem.set_at, nomem, *]; done))
          exact res_turn (g := ⟨f.next, gl, cutIn ⟨a, b⟩ f.cut⟩) (post := [.val (.int .i64 n)]) (oN := o) (oM := true) (rN := rest) (rM := []) rfl rfl (cutIn_len _ _) eM.2 hcl rfl (by simp only [Mem.set_at]; simp [*]) (by rw [List.append_nil]; unfold cutIn; rw [hka]; simp only [Mem.set_at]; simp only [kM2]; simp [*])
      · have hka : insAt ⟨a, b⟩ f.cut = k := insAt_at _ _ _ (by omega) hbe fun h => absurd h hkl
        clear hbe
        repeat' first
          | simp -dsimp (disch := omega) only [↓rulesA, rulesB, rulesC, Int.reduceLT, nth, upd, put, storeN, AV.one, Nat.reduceBEq, Nat.reduceBNe, Int.reduceBEq, Int.reduceBNe, Int.reduceLE, Int.reduceEq, Int.reduceMod, Int.reduceNeg, boolBin, strBin, intBin, unA, fillA, ne_eq, reduceCtorEq, Nat.reduceAdd, Nat.reduceSub, Nat.reduceLeDiff, Nat.reduceLT, Nat.reduceEqDiff, Int.reduceToNat, eq_self, rulesT, rulesD, T_23.ix, T_23.len, Way.rin, Way.rpart, Fl.g0, Fl.g1, Fl.g2, Fl.len, Fl.all, Fl.take, Fl.drop, Fl.sall, Way.g0, Way.g1, Way.len, Way.all, Way.take, Way.drop, Way.sall, *]
          | (refine allK_intro fun n hn => ?_; try simp only [fresh_set] at hn)
          | (refine ifK_intro (fun h => ?_) (fun h => ?_) <;> (try simp only [rulesE] at h) <;> try (exfalso; (try simp only [rulesF] at h); omega))
          | (refine keeps_sub (Mem.sub_set ?_) ?_; focus (simp [Mem.set_at, nomem, *]; done))
          | (refine keeps_stab ?_ ?_; focus ((repeat' first | exact stabK_nil _ _ | refine stabK_cons ?_ ?_ | (simp (disch := omega) only [quietA, Option.isSome_some, ↓rulesA, rulesB, rulesC, Int.reduceLT, nth, upd, put, storeN, AV.one, Nat.reduceBEq, Nat.reduceBNe, Int.reduceBEq, Int.reduceBNe, Int.reduceLE, Int.reduceEq, Int.reduceMod, Int.reduceNeg, boolBin, strBin, intBin, unA, fillA, ne_eq, reduceCtorEq, Nat.reduceAdd, Nat.reduceSub, Nat.reduceLeDiff, Nat.reduceLT, Nat.reduceEqDiff, Int.reduceToNat, eq_self, rulesT, rulesD, T_23.ix, T_23.len, Way.rin, Way.rpart, Fl.g0, Fl.g1, Fl.g2, Fl.len, Fl.all, Fl.take, Fl.drop, Fl.sall, Way.g0, Way.g1, Way.len, Way.all, Way.take, Way.drop, Way.sall, *]; done)); done))
          | (refine call_F (f29) (Seens.refl _ _) ?_)
          | (refine pure_F (f29) (Seens.refl _ _) ?_)
        have hl1 := lit1_23 ⟨a, b⟩
        rw [way_cells] at hl1
        refine lit_vs hl1 rfl ?_
        repeat' first
          | simp -dsimp (disch := omega) only [↓rulesA, rulesB, rulesC, Int.reduceLT, nth, upd, put, storeN, AV.one, Nat.reduceBEq, Nat.reduceBNe, Int.reduceBEq, Int.reduceBNe, Int.reduceLE, Int.reduceEq, Int.reduceMod, Int.reduceNeg, boolBin, strBin, intBin, unA, fillA, ne_eq, reduceCtorEq, Nat.reduceAdd, Nat.reduceSub, Nat.reduceLeDiff, Nat.reduceLT, Nat.reduceEqDiff, Int.reduceToNat, eq_self, rulesT, rulesD, Fl.g0, Fl.g1, Fl.g2, Fl.len, Fl.all, Fl.take, Fl.drop, Fl.sall, Way.g0, Way.g1, Way.len, Way.all, Way.take, Way.drop, Way.sall, *]
          | (refine allK_intro fun n hn => ?_; try simp only [fresh_set] at hn)
          | (refine ifK_intro (fun h => ?_) (fun h => ?_) <;> (try simp only [rulesE] at h) <;> try (exfalso; (try simp only [rulesF] at h); omega))
          | (refine keeps_sub (Mem.sub_set ?_) ?_; focus (simp [Mem.set_at, nomem, *]; done))
        have c36 := C36 f.cut ⟨a, b⟩ k hk (m := nomem.set M (.cells true 60 (f.cut.map Way.cells).flatten)) (n := M) (Mem.set_same _ _ _) (by omega)
        rw [way_cells] at c36
        refine call_at c36 (nomem_set_sub kM') fun r m4' M4m ⟨M4, hr4, hM4⟩ hs4 hl4 => ?_
        subst hr4
        obtain ⟨t6, q6⟩ := left_at hl4 (q := n6) (by simp [Mem.set_at, nomem, *]) g6'
        obtain ⟨t8, q8⟩ := left_at hl4 (q := n8) (by simp [Mem.set_at, nomem, *]) g8'
        obtain ⟨t9, q9⟩ := left_at hl4 (q := n9) (by simp [Mem.set_at, nomem, *]) g9'
        obtain ⟨tN, qN⟩ := left_at hl4 (q := N) (by simp [Mem.set_at, nomem, *]) kN'
        have u6 := q6 _ _ hM4
        have u8 := q8 _ _ hM4
        have u9 := q9 _ _ hM4
        have uN := qN _ _ hM4
        have kM4 := hs4 _ _ hM4
        clear hs4 hl4 q6 q8 q9 qN hM4 c36 g6' g8' g9' kN' kM' hl1
        repeat' first
          | simp -dsimp (disch := omega) only [↓rulesA, rulesB, rulesC, Int.reduceLT, nth, upd, put, storeN, AV.one, Nat.reduceBEq, Nat.reduceBNe, Int.reduceBEq, Int.reduceBNe, Int.reduceLE, Int.reduceEq, Int.reduceMod, Int.reduceNeg, boolBin, strBin, intBin, unA, fillA, ne_eq, reduceCtorEq, Nat.reduceAdd, Nat.reduceSub, Nat.reduceLeDiff, Nat.reduceLT, Nat.reduceEqDiff, Int.reduceToNat, eq_self, rulesT, rulesD, Fl.g0, Fl.g1, Fl.g2, Fl.len, Fl.all, Fl.take, Fl.drop, Fl.sall, Way.g0, Way.g1, Way.len, Way.all, Way.take, Way.drop, Way.sall, *]
          | (refine allK_intro fun n hn => ?_; try simp only [fresh_set] at hn)
          | (refine ifK_intro (fun h => ?_) (fun h => ?_) <;> (try simp only [rulesE] at h) <;> try (exfalso; (try simp only [rulesF] at h); omega))
          | (refine keeps_sub (Mem.sub_set ?_) ?_; focus (simp [Mem.set_at, nomem, *]; done))
        have c37 := C37 f ⟨a, b⟩ false (X := n8) (N := N) dN.2 (.sl M4 0 (f.cut.length + 1) (f.cut.length + 1)) rfl hr h1
        rw [way_cells] at c37
        refine call_at c37 (Mem.set_sub (nomem_set_sub ?_) ?_) fun r m3' M3 ⟨hr3, N2, k2, o, rest, hN2X, hcl, hm3⟩ hs3 hl3 => ?_
        · first | (simp [Mem.set_at, *]; done) | (simp [Mem.set_at, *]; rfl)
        · simp [Mem.set_at, *]
        subst hr3
        obtain ⟨j8, jN⟩ := two_at hm3 hN2X
        obtain ⟨k6, q6⟩ := left_at hl3 (q := n6) (by simp [Mem.set_at, nomem, *]) (by first | (simp [Mem.set_at, *]; done) | (simp [Mem.set_at, *]; rfl))
        obtain ⟨kM2, qM⟩ := left_at hl3 (q := M4) (by simp [Mem.set_at, nomem, *]) (by first | (simp [Mem.set_at, *]; done) | (simp [Mem.set_at, *]; rfl))
        have e6' := q6 _ _ jN
        have eM := qM _ _ jN
        have k8 := hs3 _ _ j8
        have kN2 := hs3 _ _ jN
        clear hl3 hs3 hm3 j8 jN q6 qM c37 t6 t8 t9 tN kM4
        have eG : (loseF f ⟨a, b⟩ false).1.next = f.next := rfl
        generalize loseF f ⟨a, b⟩ false = R at *
        obtain ⟨g, n⟩ := R
        obtain ⟨gn, gl, gc⟩ := g
        simp only at eG
        subst eG
        repeat' first
          | simp -dsimp (disch := omega) only [↓rulesA, rulesB, rulesC, Int.reduceLT, nth, upd, put, storeN, AV.one, Nat.reduceBEq, Nat.reduceBNe, Int.reduceBEq, Int.reduceBNe, Int.reduceLE, Int.reduceEq, Int.reduceMod, Int.reduceNeg, boolBin, strBin, intBin, unA, fillA, ne_eq, reduceCtorEq, Nat.reduceAdd, Nat.reduceSub, Nat.reduceLeDiff, Nat.reduceLT, Nat.reduceEqDiff, Int.reduceToNat, eq_self, rulesT, rulesD, oc_is, resL_two, two_some, Fl.g0, Fl.g1, Fl.g2, Fl.len, Fl.all, Fl.take, Fl.drop, Fl.sall, Way.g0, Way.g1, Way.len, Way.all, Way.take, Way.drop, Way.sall, *]
          | (refine allK_intro fun n hn => ?_; try simp only [fresh_set] at hn)
          | (refine ifK_intro (fun h => ?_) (fun h => ?_) <;> (try simp only [rulesE] at h) <;> try (exfalso; (try simp only [rulesF] at h); omega))
          | (refine keeps_sub (Mem.sub_set ?_) ?_; focus (simp [Mem.set_at, nomem, *]; done))
        exact res_turn (g := ⟨f.next, gl, cutIn ⟨a, b⟩ f.cut⟩) (post := [.val (.int .i64 n)]) (oN := o) (oM := true) (rN := rest) (rM := []) rfl rfl (cutIn_len _ _) eM.2 hcl rfl (by simp only [Mem.set_at]; simp [*]) (by rw [List.append_nil]; unfold cutIn; rw [hka]; simp only [Mem.set_at]; simp only [kM2]; simp [*])
    · have hz' : (wayN f.cut ⟨a, b⟩ == 0) = false := beq_eq_false_iff_ne.2 hz
      have hG : cutG f ⟨a, b⟩ = f := if_neg hz
      rw [hG]
      repeat' first
        | simp -dsimp (disch := omega) only [↓rulesA, rulesB, rulesC, Int.reduceLT, nth, upd, put, storeN, AV.one, Nat.reduceBEq, Nat.reduceBNe, Int.reduceBEq, Int.reduceBNe, Int.reduceLE, Int.reduceEq, Int.reduceMod, Int.reduceNeg, boolBin, strBin, intBin, unA, fillA, ne_eq, reduceCtorEq, Nat.reduceAdd, Nat.reduceSub, Nat.reduceLeDiff, Nat.reduceLT, Nat.reduceEqDiff, Int.reduceToNat, eq_self, rulesT, rulesD, Fl.g0, Fl.g1, Fl.g2, Fl.len, Fl.all, Fl.take, Fl.drop, Fl.sall, Way.g0, Way.g1, Way.len, Way.all, Way.take, Way.drop, Way.sall, *]
        | (refine allK_intro fun n hn => ?_; try simp only [fresh_set] at hn)
        | (refine ifK_intro (fun h => ?_) (fun h => ?_) <;> (try simp only [rulesE] at h) <;> try (exfalso; (try simp only [rulesF] at h); omega))
        | (refine keeps_sub (Mem.sub_set ?_) ?_; focus (simp [Mem.set_at, nomem, *]; done))
      clear hlk
      have c37 := C37 f ⟨a, b⟩ false (X := n8) (N := N) dN.2 (.sl M 0 f.cut.length f.cut.length) rfl hr h1
      rw [way_cells] at c37
      refine call_at c37 (Mem.set_sub (nomem_set_sub ?_) ?_) fun r m3' M3 ⟨hr3, N2, k2, o, rest, hN2X, hcl, hm3⟩ hs3 hl3 => ?_
      · first | (simp [Mem.set_at, *]; done) | (simp [Mem.set_at, *]; rfl)
      · simp [Mem.set_at, *]
      subst hr3
      obtain ⟨j8, jN⟩ := two_at hm3 hN2X
      obtain ⟨k6, q6⟩ := left_at hl3 (q := n6) (by simp [Mem.set_at, nomem, *]) (by first | (simp [Mem.set_at, *]; done) | (simp [Mem.set_at, *]; rfl))
      obtain ⟨kM2, qM⟩ := left_at hl3 (q := M) (by simp [Mem.set_at, nomem, *]) (by first | (simp [Mem.set_at, *]; done) | (simp [Mem.set_at, *]; rfl))
      have e6 := q6 _ _ jN
      have eM := qM _ _ jN
      have k8 := hs3 _ _ j8
      have kN2 := hs3 _ _ jN
      clear hl3 hs3 hm3 j8 jN q6 qM c37 g6' g8' g9' kN' kM'
      generalize hR : loseF f ⟨a, b⟩ false = R at *
      have eG : R.1.next = f.next ∧ R.1.cut = f.cut := by rw [← hR]; exact ⟨rfl, rfl⟩
      clear hR
      obtain ⟨g, n⟩ := R
      obtain ⟨gn, gl, gc⟩ := g
      obtain ⟨rfl, rfl⟩ := eG
      repeat' first
        | simp -dsimp (disch := omega) only [↓rulesA, rulesB, rulesC, Int.reduceLT, nth, upd, put, storeN, AV.one, Nat.reduceBEq, Nat.reduceBNe, Int.reduceBEq, Int.reduceBNe, Int.reduceLE, Int.reduceEq, Int.reduceMod, Int.reduceNeg, boolBin, strBin, intBin, unA, fillA, ne_eq, reduceCtorEq, Nat.reduceAdd, Nat.reduceSub, Nat.reduceLeDiff, Nat.reduceLT, Nat.reduceEqDiff, Int.reduceToNat, eq_self, rulesT, rulesD, oc_is, resL_two, two_some, Fl.g0, Fl.g1, Fl.g2, Fl.len, Fl.all, Fl.take, Fl.drop, Fl.sall, Way.g0, Way.g1, Way.len, Way.all, Way.take, Way.drop, Way.sall, *]
        | (refine allK_intro fun n hn => ?_; try simp only [fresh_set] at hn)
        | (refine ifK_intro (fun h => ?_) (fun h => ?_) <;> (try simp only [rulesE] at h) <;> try (exfalso; (try simp only [rulesF] at h); omega))
        | (refine keeps_sub (Mem.sub_set ?_) ?_; focus (simp [Mem.set_at, nomem, *]; done))
      exact res_turn (g := ⟨f.next, gl, f.cut⟩) (post := [.val (.int .i64 n)]) (oN := o) (oM := true) (rN := rest) (rM := []) rfl rfl rfl eM.2 hcl rfl (by simp only [Mem.set_at]; simp [*]) (by rw [List.append_nil]; simp [Mem.set_at, *])
end Go.Proofs.Ytdhbonjbjnodhaa

set_option maxRecDepth 100000
set_option maxHeartbeats 1000000
set_option linter.unusedSimpArgs false
set_option linter.unusedVariables false
namespace Go.Proofs.Ytdhbonjbjnodhaa
open Go.Abs
attribute [local irreducible] C X CC Y CV CW binK litK AppK PureC PureCV againK loopV rangeV allK ifK got onB condK V stepsK planK opK firstK seeE keepsK
def joinF (f : Fl) (w : Way) : Fl × Bool := match posW w f.cut 0 with
  | some k => (⟨f.next, f.list, f.cut.take k ++ f.cut.drop (k + 1)⟩, true)
  | none => (f, false)
def ResB (p : Fl × Bool) : AV → Mem → Prop := Res p.1 [.val (.bool p.2)]
theorem posW_lt {w : Way} {l : List Way} {k : Nat} (h : posW w l 0 = some k) : k < l.length := by
  have := (posW_some h).2
  obtain ⟨h, _⟩ := this
  simpa using h
theorem wayN_some {w : Way} {l : List Way} {k : Nat} (h : posW w l 0 = some k) : wayN l w = (k : Int) + 1 := by unfold wayN; rw [h]
theorem wayN_none {w : Way} {l : List Way} (h : posW w l 0 = none) : wayN l w = 0 := by unfold wayN; rw [h]
theorem C22 (f : Fl) (x y : Bool) (a b : Int) (h1 : f.list.length ≤ 65536) (h2 : f.cut.length ≤ 2000000000000) (hnd : f.cut.Nodup) : C Try.prog 22 [.agg (f.rc x y), .val (.int .i64 a), .val (.int .i64 b)] nomem (ResB (joinF f ⟨a, b⟩)) := by
  refine C.turn (C22_of ?_)
  unfold k22
  repeat' first
    | simp -dsimp (disch := omega) only [↓rulesA, rulesB, rulesC, Int.reduceLT, nth, upd, put, storeN, AV.one, Nat.reduceBEq, Nat.reduceBNe, Int.reduceBEq, Int.reduceBNe, Int.reduceLE, Int.reduceEq, Int.reduceMod, Int.reduceNeg, boolBin, strBin, intBin, unA, fillA, ne_eq, reduceCtorEq, Nat.reduceAdd, Nat.reduceSub, Nat.reduceLeDiff, Nat.reduceLT, Nat.reduceEqDiff, Int.reduceToNat, eq_self, rulesT, rulesD, Fl.g0, Fl.g1, Fl.g2, Fl.len, Fl.all, Fl.take, Fl.drop, Fl.sall, *]
    | (refine allK_intro fun n hn => ?_; try simp only [fresh_set] at hn)
    | (refine ifK_intro (fun h => ?_) (fun h => ?_) <;> (try simp only [rulesE] at h) <;> try (exfalso; (try simp only [rulesF] at h); omega))
    | (refine keeps_sub (Mem.sub_set ?_) ?_; focus (simp [Mem.set_at, nomem, *]; done))
  rename_i n3 hn3
  revert n
  intro n6 hn6
  refine call_at (C32 f x y (by omega) (by omega)) (nomem_sub _) fun r m1' M1 ⟨N, M, hr1, hown⟩ hs1 hl1 => ?_
  subst hr1
  obtain ⟨hne, hN, hM⟩ := hown
  obtain ⟨g6, i6⟩ := left_at hl1 (q := n6) rfl (by simp [Mem.set_at, *]; rfl)
  obtain ⟨g3, i3⟩ := left_at hl1 (q := n3) rfl (by simp [Mem.set_at, *]; rfl)
  have a1 := i3 _ _ hN
  have a2 := i3 _ _ hM
  have a3 := i6 _ _ hN
  have a4 := i6 _ _ hM
  have kN := hs1 _ _ hN
  have kM := hs1 _ _ hM
  clear hN hM hs1 hl1 i6 i3
  have hne' : M ≠ N := Ne.symm hne
  repeat' first
    | simp -dsimp (disch := omega) only [↓rulesA, rulesB, rulesC, Int.reduceLT, nth, upd, put, storeN, AV.one, Nat.reduceBEq, Nat.reduceBNe, Int.reduceBEq, Int.reduceBNe, Int.reduceLE, Int.reduceEq, Int.reduceMod, Int.reduceNeg, boolBin, strBin, intBin, unA, fillA, ne_eq, reduceCtorEq, Nat.reduceAdd, Nat.reduceSub, Nat.reduceLeDiff, Nat.reduceLT, Nat.reduceEqDiff, Int.reduceToNat, eq_self, rulesT, rulesD, oc_is, resL_two, two_some, Fl.g0, Fl.g1, Fl.g2, Fl.len, Fl.all, Fl.take, Fl.drop, Fl.sall, *]
    | (refine allK_intro fun n hn => ?_; try simp only [fresh_set] at hn)
    | (refine ifK_intro (fun h => ?_) (fun h => ?_) <;> (try simp only [rulesE] at h) <;> try (exfalso; (try simp only [rulesF] at h); omega))
    | (refine keeps_sub (Mem.sub_set ?_) ?_; focus (simp [Mem.set_at, nomem, *]; done))
  have d3 := apart g3 hn
  have d6 := apart g6 hn
  have dN := apart kN hn
  have dM := apart kM hn
  revert n
  intro n8 hn8 d3 d6 dN dM
  repeat' first
    | simp -dsimp (disch := omega) only [↓rulesA, rulesB, rulesC, Int.reduceLT, nth, upd, put, storeN, AV.one, Nat.reduceBEq, Nat.reduceBNe, Int.reduceBEq, Int.reduceBNe, Int.reduceLE, Int.reduceEq, Int.reduceMod, Int.reduceNeg, boolBin, strBin, intBin, unA, fillA, ne_eq, reduceCtorEq, Nat.reduceAdd, Nat.reduceSub, Nat.reduceLeDiff, Nat.reduceLT, Nat.reduceEqDiff, Int.reduceToNat, eq_self, rulesT, rulesD, oc_is, resL_two, two_some, Fl.g0, Fl.g1, Fl.g2, Fl.len, Fl.all, Fl.take, Fl.drop, Fl.sall, *]
    | (refine allK_intro fun n hn => ?_; try simp only [fresh_set] at hn)
    | (refine ifK_intro (fun h => ?_) (fun h => ?_) <;> (try simp only [rulesE] at h) <;> try (exfalso; (try simp only [rulesF] at h); omega))
    | (refine keeps_sub (Mem.sub_set ?_) ?_; focus (simp [Mem.set_at, nomem, *]; done))
  refine call_at (C33 f x y hnd (by omega)) (nomem_sub _) fun r m2' M2 ⟨W, hr2, hW⟩ hs2 hl2 => ?_
  subst hr2
  obtain ⟨g6', i6⟩ := left_at hl2 (q := n6) rfl (by simp [Mem.set_at, *]; rfl)
  obtain ⟨g8', i8⟩ := left_at hl2 (q := n8) rfl (by simp [Mem.set_at, *]; rfl)
  obtain ⟨kN', iN⟩ := left_at hl2 (q := N) rfl (by simp [Mem.set_at, *]; rfl)
  obtain ⟨kM', iM⟩ := left_at hl2 (q := M) rfl (by simp [Mem.set_at, *]; rfl)
  have hlk := look_ways (hs2 _ _ hW) ⟨a, b⟩
  rw [way_cells] at hlk
  clear hl2 hs2 hW i6 i8 iN iM g6 kN kM g3 hn8 hn6 hn3 a1 a2 d3 hnd
  unfold joinF
  cases hp : posW ⟨a, b⟩ f.cut 0 with
  | none =>
    rw [wayN_none hp] at hlk
    clear hp
    repeat' first
      | simp -dsimp (disch := omega) only [↓rulesA, rulesB, rulesC, Int.reduceLT, nth, upd, put, storeN, AV.one, Nat.reduceBEq, Nat.reduceBNe, Int.reduceBEq, Int.reduceBNe, Int.reduceLE, Int.reduceEq, Int.reduceMod, Int.reduceNeg, boolBin, strBin, intBin, unA, fillA, ne_eq, reduceCtorEq, Nat.reduceAdd, Nat.reduceSub, Nat.reduceLeDiff, Nat.reduceLT, Nat.reduceEqDiff, Int.reduceToNat, eq_self, rulesT, rulesD, oc_is, resL_two, two_some, Fl.g0, Fl.g1, Fl.g2, Fl.len, Fl.all, Fl.take, Fl.drop, Fl.sall, Way.g0, Way.g1, Way.len, Way.all, Way.take, Way.drop, Way.sall, *]
      | (refine allK_intro fun n hn => ?_; try simp only [fresh_set] at hn)
      | (refine ifK_intro (fun h => ?_) (fun h => ?_) <;> (try simp only [rulesE] at h) <;> try (exfalso; (try simp only [rulesF] at h); omega))
      | (refine keeps_sub (Mem.sub_set ?_) ?_; focus (simp [Mem.set_at, nomem, *]; done))
    exact res_turn0 (g := f) (post := [.val (.bool false)]) (N := N) (M := M) (oN := true) (oM := true) rfl rfl rfl hne (by simp [Mem.set_at, *]) (by simp [Mem.set_at, *])
  | some k =>
    have hk := posW_lt hp
    rw [wayN_some hp] at hlk
    clear hp
    have hk0 : ((k : Int) + 1 == 0) = false := beq_eq_false_iff_ne.2 (by omega)
    have c38 := C38 f.cut k hk (m := nomem.set M (.cells true 60 (f.cut.map Way.cells).flatten)) (n := M) (Mem.set_same _ _ _) (by omega)
    repeat' first
      | simp -dsimp (disch := omega) only [↓rulesA, rulesB, rulesC, Int.reduceLT, nth, upd, put, storeN, AV.one, Nat.reduceBEq, Nat.reduceBNe, Int.reduceBEq, Int.reduceBNe, Int.reduceLE, Int.reduceEq, Int.reduceMod, Int.reduceNeg, boolBin, strBin, intBin, unA, fillA, ne_eq, reduceCtorEq, Nat.reduceAdd, Nat.reduceSub, Nat.reduceLeDiff, Nat.reduceLT, Nat.reduceEqDiff, Int.reduceToNat, eq_self, rulesT, rulesD, oc_is, resL_two, two_some, Fl.g0, Fl.g1, Fl.g2, Fl.len, Fl.all, Fl.take, Fl.drop, Fl.sall, Way.g0, Way.g1, Way.len, Way.all, Way.take, Way.drop, Way.sall, *]
      | (refine allK_intro fun n hn => ?_; try simp only [fresh_set] at hn)
      | (refine ifK_intro (fun h => ?_) (fun h => ?_) <;> (try simp only [rulesE] at h) <;> try (exfalso; (try simp only [rulesF] at h); omega))
      | (refine keeps_sub (Mem.sub_set ?_) ?_; focus (simp [Mem.set_at, nomem, *]; done))
    rw [show (k : Int) + 1 - 1 = k by omega]
    refine call_at c38 (nomem_set_sub kM') fun r m4' M4m ⟨M4, c4, rest, hr4, hM4, hcl⟩ hs4 hl4 => ?_
    subst hr4
    obtain ⟨t6, q6⟩ := left_at hl4 (q := n6) (by simp [Mem.set_at, nomem, *]) g6'
    obtain ⟨t8, q8⟩ := left_at hl4 (q := n8) (by simp [Mem.set_at, nomem, *]) g8'
    obtain ⟨tN, qN⟩ := left_at hl4 (q := N) (by simp [Mem.set_at, nomem, *]) kN'
    have u6 := q6 _ _ hM4
    have u8 := q8 _ _ hM4
    have uN := qN _ _ hM4
    have kM4 := hs4 _ _ hM4
    clear hs4 hl4 q6 q8 qN hM4 c38 g6' g8' kN' kM'
    repeat' first
      | simp -dsimp (disch := omega) only [↓rulesA, rulesB, rulesC, Int.reduceLT, nth, upd, put, storeN, AV.one, Nat.reduceBEq, Nat.reduceBNe, Int.reduceBEq, Int.reduceBNe, Int.reduceLE, Int.reduceEq, Int.reduceMod, Int.reduceNeg, boolBin, strBin, intBin, unA, fillA, ne_eq, reduceCtorEq, Nat.reduceAdd, Nat.reduceSub, Nat.reduceLeDiff, Nat.reduceLT, Nat.reduceEqDiff, Int.reduceToNat, eq_self, rulesT, rulesD, oc_is, resL_two, two_some, Fl.g0, Fl.g1, Fl.g2, Fl.len, Fl.all, Fl.take, Fl.drop, Fl.sall, Way.g0, Way.g1, Way.len, Way.all, Way.take, Way.drop, Way.sall, *]
      | (refine allK_intro fun n hn => ?_; try simp only [fresh_set] at hn)
      | (refine ifK_intro (fun h => ?_) (fun h => ?_) <;> (try simp only [rulesE] at h) <;> try (exfalso; (try simp only [rulesF] at h); omega))
      | (refine keeps_sub (Mem.sub_set ?_) ?_; focus (simp [Mem.set_at, nomem, *]; done))
    refine res_turn (g := ⟨f.next, f.list, f.cut.take k ++ f.cut.drop (k + 1)⟩) (post := [.val (.bool true)]) (oN := true) (oM := false) (rN := []) (rM := rest) rfl rfl rfl uN.1 rfl hcl ?_ ?_
    · rw [List.append_nil]; simp only [Mem.set_at]; simp [*]
    · simp only [Mem.set_at]; simp [*]
theorem F21 (f : Fl) (x y : Bool) (a b : Int) (h1 : f.list.length ≤ 65536) (h2 : f.cut.length ≤ 2000000000000) (hnd : f.cut.Nodup) (hr : NumRise f.list) : F Try.prog 21 [.agg (f.rc x y), .val (.int .i64 a), .val (.int .i64 b)] (res (cutF f ⟨a, b⟩).1 [.val (.int .i64 (cutF f ⟨a, b⟩).2)]) := F.of_C (C.mono (C21 f x y a b h1 h2 hnd hr) fun r m' h => h.new)
theorem F22 (f : Fl) (x y : Bool) (a b : Int) (h1 : f.list.length ≤ 65536) (h2 : f.cut.length ≤ 2000000000000) (hnd : f.cut.Nodup) : F Try.prog 22 [.agg (f.rc x y), .val (.int .i64 a), .val (.int .i64 b)] (res (joinF f ⟨a, b⟩).1 [.val (.bool (joinF f ⟨a, b⟩).2)]) := F.of_C (C.mono (C22 f x y a b h1 h2 hnd) fun r m' h => h.new)
theorem numTo_rise {f : Fl} : ∀ {i : Nat}, i ≤ f.list.length → numTo f i = true → ∀ p q, p < q → q < i → (f.list.getD p default).number < (f.list.getD q default).number
  | 0, _, _, p, q, _, h => absurd h (Nat.not_lt_zero _)
  | i + 1, hi, h, p, q, hpq, hq => by
    unfold numTo numOk at h
    simp only [Bool.and_eq_true, decide_eq_true_eq] at h
    rcases Nat.lt_or_ge q i with hqi | hqi
    · exact numTo_rise (by omega) h.1 p q hpq hqi
    · have hqe : q = i := by omega
      subst hqe
      have hlast : (f.list.getD (q - 1) default).number < (f.list.getD q default).number := by
        have := h.2.1
        unfold prevN at this
        rwa [if_neg (by omega)] at this
      rcases Nat.lt_or_ge p (q - 1) with hp | hp
      · exact Int.lt_trans (numTo_rise (by omega) h.1 p (q - 1) hp (by omega)) hlast
      · rw [show p = q - 1 by omega]; exact hlast
structure Fit (f : Fl) : Prop where
  n0 : 0 ≤ f.next
  n1 : f.next ≤ 4611686018427387904
  ln : f.list.length ≤ 65536
  nm : numTo f f.list.length = true
  ct : cutTo f.cut f.cut.length = true
theorem fit_is {f : Fl} (h : fitB f = true) : Fit f := by
  unfold fitB at h
  simp only [Bool.and_eq_true, decide_eq_true_eq] at h
  exact ⟨h.1.1.1.1, h.1.1.1.2, h.1.1.2, h.1.2, h.2⟩
theorem Fit.b {f : Fl} (h : Fit f) : fitB f = true := by
  unfold fitB
  simp only [Bool.and_eq_true, decide_eq_true_eq]
  exact ⟨⟨⟨⟨h.n0, h.n1⟩, h.ln⟩, h.nm⟩, h.ct⟩
theorem Fit.rise {f : Fl} (h : Fit f) : NumRise f.list := by
  unfold NumRise RiseI
  rw [List.pairwise_map, List.pairwise_iff_getElem]
  intro i j hi hj hij
  have := numTo_rise (Nat.le_refl _) h.nm i j hij hj
  rwa [getD_get _ _ hi, getD_get _ _ hj] at this
theorem lessW_trans {a b c : Way} (h1 : lessW a b = true) (h2 : lessW b c = true) : lessW a c = true := by
  unfold lessW at *
  simp only [Bool.or_eq_true, Bool.and_eq_true, decide_eq_true_eq] at *
  omega
theorem cutTo_rise {l : List Way} : ∀ {i : Nat}, i ≤ l.length → cutTo l i = true → ∀ p q, p < q → q < i → lessW (l.getD p default) (l.getD q default) = true
  | 0, _, _, p, q, _, h => absurd h (Nat.not_lt_zero _)
  | i + 1, hi, h, p, q, hpq, hq => by
    unfold cutTo cutOk at h
    simp only [Bool.and_eq_true, Bool.or_eq_true, decide_eq_true_eq] at h
    rcases Nat.lt_or_ge q i with hqi | hqi
    · exact cutTo_rise (by omega) h.1 p q hpq hqi
    · have hqe : q = i := by omega
      subst hqe
      have hlast : lessW (l.getD (q - 1) default) (l.getD q default) = true := h.2.2.resolve_left (by omega)
      rcases Nat.lt_or_ge p (q - 1) with hp | hp
      · exact lessW_trans (cutTo_rise (by omega) h.1 p (q - 1) hp (by omega)) hlast
      · rw [show p = q - 1 by omega]; exact hlast
def CutRise (l : List Way) : Prop := l.Pairwise fun a b => lessW a b = true
theorem Fit.cutRise {f : Fl} (h : Fit f) : CutRise f.cut := by
  unfold CutRise
  rw [List.pairwise_iff_getElem]
  intro i j hi hj hij
  have := cutTo_rise (Nat.le_refl _) h.ct i j hij hj
  rwa [getD_get _ _ hi, getD_get _ _ hj] at this
theorem CutRise.nodup {l : List Way} (h : CutRise l) : l.Nodup := List.Pairwise.imp (fun {a b} hab e => by subst e; rw [lessW_irrefl] at hab; cases hab) h
theorem Fit.nodup {f : Fl} (h : Fit f) : f.cut.Nodup := h.cutRise.nodup
end Go.Proofs.Ytdhbonjbjnodhaa

set_option maxRecDepth 100000
set_option maxHeartbeats 1000000
set_option linter.unusedSimpArgs false
set_option linter.unusedVariables false
namespace Go.Proofs.Ytdhbonjbjnodhaa
open Go.Abs
attribute [local irreducible] C X CC Y CV CW binK litK AppK PureC PureCV againK loopV rangeV allK ifK got onB condK V stepsK planK opK firstK seeE keepsK
def f0 : Fl := ⟨0, [], []⟩
theorem seen_zero (m : Mem) : Seen m (.agg [.val (.int .i64 0), .val (.slice none 0 0), .val (.slice none 0 0)]) (.agg (f0.rc false false)) := .agg rfl fun i a b => by
  match i, a with
  | 0, _ => exact .same
  | 1, _ => exact .nilS
  | 2, _ => exact .nilS
theorem lit2i : litA Try.prog 31 2 [(0, .val (.int .i64 1)), (1, .val (.int .i64 3))] = some (2, 1, [.val (.int .i64 1), .val (.int .i64 3)]) := by
  simp only [litA, ti_31, ti_2, z_2, fillA]
  rfl
theorem awake_core {f1 f2 f3 g h : Fl} (p1 : F Try.prog 19 [.agg (f0.rc false false), .val (.int .i64 1), .val (.int .i64 2), .val (.string ⟨#[97]⟩)] (.tup [.agg (f1.rc false false), .val (.int .i64 1), .val (.int .i64 0)]))
    (p2 : F Try.prog 19 [.agg (f1.rc false false), .val (.int .i64 2), .val (.int .i64 1), .val (.string ⟨#[98]⟩)] (.tup [.agg (f2.rc false false), .val (.int .i64 2), .val (.int .i64 0)]))
    (p3 : F Try.prog 27 [.agg (f2.rc false false), .val (.int .i64 1)] (.tup [.agg (f3.rc false false), .val (.int .i64 3), .val (.int .i64 0)]))
    (p4 : F Try.prog 13 [.agg (f3.rc false false), .val (.int .i64 1), .val (.int .i64 2)] (.vs [[.val (.int .i64 1)], [.val (.int .i64 3)]] false))
    (p5 : F Try.prog 10 [.agg (f3.rc false false), .val (.int .i64 1)] (.tup [.val (.int .i64 2), .val (.bool true)]))
    (p6 : F Try.prog 21 [.agg (f3.rc false false), .val (.int .i64 1), .val (.int .i64 2)] (.tup [.agg (g.rc false false), .val (.int .i64 2)]))
    (p7 : F Try.prog 19 [.agg (g.rc false false), .val (.int .i64 1), .val (.int .i64 2), .val (.string ⟨#[99]⟩)] (.tup [.agg (h.rc false false), .val (.int .i64 0), .val (.int .i64 40)]))
    (p8 : F Try.prog 15 [.agg (f3.rc false false)] (.val (.bool true))) : F Try.prog 9 [] (.val (.bool true)) := by
  have p9 : F Try.prog 12 [.vs [[.val (.int .i64 1)], [.val (.int .i64 3)]] false, .vs [[.val (.int .i64 1)], [.val (.int .i64 3)]] true] (.val (.bool true)) := F12 [1, 3] [1, 3] false true (by decide)
  refine F9_of ?_
  unfold k9
  repeat' first
    | simp -dsimp (disch := omega) only [↓rulesA, rulesB, rulesC, Int.reduceLT, nth, upd, put, storeN, AV.one, Nat.reduceBEq, Nat.reduceBNe, Int.reduceBEq, Int.reduceBNe, Int.reduceLE, Int.reduceEq, Int.reduceMod, Int.reduceNeg, boolBin, strBin, intBin, unA, fillA, ne_eq, reduceCtorEq, Nat.reduceAdd, Nat.reduceSub, Nat.reduceLeDiff, Nat.reduceLT, Nat.reduceEqDiff, Int.reduceToNat, eq_self, rulesT, rulesD, Fl.g0, Fl.g1, Fl.g2, Fl.len, Fl.all, Fl.take, Fl.drop, Fl.sall, *]
    | (refine allK_intro fun n hn => ?_; try simp only [fresh_set] at hn)
    | (refine ifK_intro (fun h => ?_) (fun h => ?_) <;> (try simp only [rulesE] at h) <;> try (exfalso; (try simp only [rulesF] at h); omega))
    | (refine keeps_sub (Mem.sub_set ?_) ?_; focus (simp [Mem.set_at, nomem, *]; done))
    | (refine call_F (p1) (.cons (seen_zero _) (.refl _ _)) ?_)
    | (refine pure_F (p1) (.cons (seen_zero _) (.refl _ _)) ?_)
    | (refine call_F (p2) (Seens.refl _ _) ?_)
    | (refine pure_F (p2) (Seens.refl _ _) ?_)
    | (refine call_F (p3) (Seens.refl _ _) ?_)
    | (refine pure_F (p3) (Seens.refl _ _) ?_)
    | (refine call_F (p4) (Seens.refl _ _) ?_)
    | (refine pure_F (p4) (Seens.refl _ _) ?_)
    | (refine call_F (p5) (Seens.refl _ _) ?_)
    | (refine pure_F (p5) (Seens.refl _ _) ?_)
    | (refine call_F (p6) (Seens.refl _ _) ?_)
    | (refine pure_F (p6) (Seens.refl _ _) ?_)
    | (refine call_F (p7) (Seens.refl _ _) ?_)
    | (refine pure_F (p7) (Seens.refl _ _) ?_)
    | (refine call_F (p8) (Seens.refl _ _) ?_)
    | (refine pure_F (p8) (Seens.refl _ _) ?_)
    | (refine call_F (p9) (Seens.refl _ _) ?_)
    | (refine pure_F (p9) (Seens.refl _ _) ?_)
  refine lit_vs lit2i rfl ?_
  have p9' : F Try.prog 12 [.vs [[.val (.int .i64 1)], [.val (.int .i64 3)]] false, .vs [[.val (.int .i64 1), .val (.int .i64 3)].take 1, [.val (.int .i64 1), .val (.int .i64 3)].drop 1] true] (.val (.bool true)) := p9
  repeat' first
    | simp -dsimp (disch := omega) only [↓rulesA, rulesB, rulesC, Int.reduceLT, nth, upd, put, storeN, AV.one, Nat.reduceBEq, Nat.reduceBNe, Int.reduceBEq, Int.reduceBNe, Int.reduceLE, Int.reduceEq, Int.reduceMod, Int.reduceNeg, boolBin, strBin, intBin, unA, fillA, ne_eq, reduceCtorEq, Nat.reduceAdd, Nat.reduceSub, Nat.reduceLeDiff, Nat.reduceLT, Nat.reduceEqDiff, Int.reduceToNat, eq_self, rulesT, rulesD, Fl.g0, Fl.g1, Fl.g2, Fl.len, Fl.all, Fl.take, Fl.drop, Fl.sall, *]
    | (refine allK_intro fun n hn => ?_; try simp only [fresh_set] at hn)
    | (refine ifK_intro (fun h => ?_) (fun h => ?_) <;> (try simp only [rulesE] at h) <;> try (exfalso; (try simp only [rulesF] at h); omega))
    | (refine keeps_sub (Mem.sub_set ?_) ?_; focus (simp [Mem.set_at, nomem, *]; done))
    | (refine call_F (p9) (Seens.refl _ _) ?_)
    | (refine pure_F (p9) (Seens.refl _ _) ?_)
    | (refine call_F (p9') (Seens.refl _ _) ?_)
    | (refine pure_F (p9') (Seens.refl _ _) ?_)
    | (refine call_F (p8) (Seens.refl _ _) ?_)
    | (refine pure_F (p8) (Seens.refl _ _) ?_)
  exact .val
def fr1 : Frame := ⟨1, 1, 2, [97]⟩
def fr2 : Frame := ⟨2, 2, 1, [98]⟩
def fr3 : Frame := ⟨3, 1, 2, [97]⟩
theorem F9 : F Try.prog 9 [] (.val (.bool true)) := by
  have e1 : putF f0 ⟨1, 2⟩ [97] = (⟨1, [fr1], []⟩, 1, 0) := by kernel_rfl
  have e2 : putF ⟨1, [fr1], []⟩ ⟨2, 1⟩ [98] = (⟨2, [fr1, fr2], []⟩, 2, 0) := by kernel_rfl
  have e3 : doubleF ⟨2, [fr1, fr2], []⟩ 1 = (⟨3, [fr1, fr2, fr3], []⟩, 3, 0) := by kernel_rfl
  have e4 : onL [fr1, fr2, fr3] ⟨1, 2⟩ = [1, 3] := by kernel_rfl
  have e5 : oldestR [fr1, fr2, fr3] 1 = (2, true) := by kernel_rfl
  have e6 : cutF ⟨3, [fr1, fr2, fr3], []⟩ ⟨1, 2⟩ = (⟨3, [fr2], [⟨1, 2⟩]⟩, 2) := by kernel_rfl
  have e7 : putF ⟨3, [fr2], [⟨1, 2⟩]⟩ ⟨1, 2⟩ [99] = (⟨3, [fr2], [⟨1, 2⟩]⟩, 0, 40) := by kernel_rfl
  have e8 : fitB ⟨3, [fr1, fr2, fr3], []⟩ = true := by kernel_rfl
  have c1 := F19 f0 false false 1 2 [97] (by decide) (by simp [f0])
  have c2 := F19 ⟨1, [fr1], []⟩ false false 2 1 [98] (by decide) (by simp)
  have c3 := F27 ⟨2, [fr1, fr2], []⟩ false false 1 (by decide) (by simp)
  have c4 := F13 ⟨3, [fr1, fr2, fr3], []⟩ false false 1 2 (by decide)
  have c5 := F10 ⟨3, [fr1, fr2, fr3], []⟩ false false 1 (by decide)
  have c6 := F21 ⟨3, [fr1, fr2, fr3], []⟩ false false 1 2 (by decide) (by decide) (by simp) (by unfold NumRise RiseI fr1 fr2 fr3; simp)
  have c7 := F19 ⟨3, [fr2], [⟨1, 2⟩]⟩ false false 1 2 [99] (by decide) (by simp)
  have c8 := F15 ⟨3, [fr1, fr2, fr3], []⟩ false false (by decide)
  rw [e1] at c1
  rw [e2] at c2
  rw [e3] at c3
  rw [e4] at c4
  rw [e5] at c5
  rw [e6] at c6
  rw [e7] at c7
  rw [e8] at c8
  exact awake_core c1 c2 c3 c4 c5 c6 c7 c8
end Go.Proofs.Ytdhbonjbjnodhaa

set_option maxRecDepth 100000
set_option maxHeartbeats 1000000
set_option linter.unusedSimpArgs false
set_option linter.unusedVariables false
namespace Go.Proofs.Ytdhbonjbjnodhaa
open Go.Abs
attribute [local irreducible] C X CC Y CV CW binK litK AppK PureC PureCV againK loopV rangeV allK ifK got onB condK V stepsK planK opK firstK seeE keepsK
theorem fl_of {c : AV} (h : ShapedV Try.prog 25 c) : ∃ f : Fl, c = .agg (f.rc false false) ∧ f.list.length * 40 ≤ 140737488351232 ∧ f.cut.length * 16 ≤ 140737488351232 := by
  obtain ⟨cs, rfl, hl, hs⟩ := h.cells ti_25 rfl
  have hL := Shaped.leaves laidOut 8 25 [2, 22, 23] cs (of_decide_eq_true (by kernel_rfl)) (by kernel_rfl) hs (hl.trans (cells_size ti_25).symm)
  match cs, hL with
  | [c0, c1, c2], ⟨h0, h1, h2, _⟩ =>
    obtain ⟨n, e0, _⟩ := Shaped.i64 ti_2 rfl h0
    obtain ⟨l, e1, l1, _⟩ := Shaped.rows Frame.cells Frame.ok ti_22 rfl ti_44 rfl (fun x hx hl => by
      obtain ⟨d, e, hd⟩ := Frame.of_shaped hx hl
      exact ⟨d, e, hd⟩) h1
    obtain ⟨w, e2, w1, _⟩ := Shaped.rows Way.cells Way.ok ti_23 rfl ti_60 rfl (fun x hx hl => by
      obtain ⟨d, e, hd⟩ := Way.of_shaped hx hl
      exact ⟨d, e, hd⟩) h2
    subst e0 e1 e2
    exact ⟨⟨n, l, w⟩, rfl, l1, w1⟩
theorem sameB_self (f : Fl) : sameB f f = true := by unfold sameB; simp
end Go.Proofs.Ytdhbonjbjnodhaa

set_option maxRecDepth 100000
set_option maxHeartbeats 1000000
set_option linter.unusedSimpArgs false
set_option linter.unusedVariables false
namespace Go.Proofs.Ytdhbonjbjnodhaa
open Go.Abs
attribute [local irreducible] C X CC Y CV CW binK litK AppK PureC PureCV againK loopV rangeV allK ifK got onB condK V stepsK planK opK firstK seeE keepsK
structure FitP (f : Fl) : Prop where
  n0 : 0 ≤ f.next
  n1 : f.next ≤ 4611686018427387904
  ln : f.list.length ≤ 65536
  rise : NumRise f.list
  low : ∀ x ∈ f.list, 1 ≤ x.number
  top : ∀ x ∈ f.list, x.number ≤ f.next
  cut : CutRise f.cut
  ne : ∀ w ∈ f.cut, w.from_ ≠ w.to_
theorem getD_lt {α : Type} [Inhabited α] {l : List α} {i : Nat} (h : i < l.length) : l.getD i default ∈ l := by rw [getD_get _ _ h]; exact List.getElem_mem h
theorem num_at {l : List Frame} (h : NumRise l) {i j : Nat} (hij : i < j) (hj : j < l.length) : (l.getD i default).number < (l.getD j default).number := by
  unfold NumRise RiseI at h
  rw [List.pairwise_map, List.pairwise_iff_getElem] at h
  rw [getD_get _ _ (Nat.lt_trans hij hj), getD_get _ _ hj]
  exact h i j _ hj hij
theorem cut_at {l : List Way} (h : CutRise l) {i j : Nat} (hij : i < j) (hj : j < l.length) : lessW (l.getD i default) (l.getD j default) = true := by
  unfold CutRise at h
  rw [List.pairwise_iff_getElem] at h
  rw [getD_get _ _ (Nat.lt_trans hij hj), getD_get _ _ hj]
  exact h i j _ hj hij
theorem FitP.numTo {f : Fl} (h : FitP f) : ∀ i, i ≤ f.list.length → numTo f i = true
  | 0, _ => rfl
  | i + 1, hi => by
    unfold Go.Proofs.Ytdhbonjbjnodhaa.numTo numOk prevN
    rw [FitP.numTo h i (by omega)]
    have hm := getD_lt (l := f.list) (i := i) (by omega)
    have h1 := h.low _ hm
    have h2 := h.top _ hm
    simp only [Bool.true_and, Bool.and_eq_true, decide_eq_true_eq]
    refine ⟨?_, h2⟩
    split
    · omega
    · exact num_at h.rise (by omega) (by omega)
theorem FitP.cutTo {f : Fl} (h : FitP f) : ∀ i, i ≤ f.cut.length → cutTo f.cut i = true
  | 0, _ => rfl
  | i + 1, hi => by
    unfold Go.Proofs.Ytdhbonjbjnodhaa.cutTo cutOk
    rw [FitP.cutTo h i (by omega)]
    have h1 := h.ne _ (getD_lt (l := f.cut) (i := i) (by omega))
    simp only [Bool.true_and, Bool.and_eq_true, Bool.or_eq_true, decide_eq_true_eq, Bool.not_eq_true', decide_eq_false_iff_not]
    refine ⟨h1, ?_⟩
    by_cases h0 : i = 0
    · exact .inl h0
    · exact .inr (cut_at h.cut (by omega) (by omega))
theorem FitP.fit {f : Fl} (h : FitP f) : Fit f := ⟨h.n0, h.n1, h.ln, h.numTo _ (Nat.le_refl _), h.cutTo _ (Nat.le_refl _)⟩
theorem NumRise.sub {l k : List Frame} (h : NumRise l) (hs : k.Sublist l) : NumRise k := by
  unfold NumRise RiseI at *
  exact List.Pairwise.sublist (hs.map _) h
theorem CutRise.sub {l k : List Way} (h : CutRise l) (hs : k.Sublist l) : CutRise k := List.Pairwise.sublist hs h
theorem FitP.less {f : Fl} (h : FitP f) {l : List Frame} (hs : l.Sublist f.list) : FitP ⟨f.next, l, f.cut⟩ :=
  ⟨h.n0, h.n1, Nat.le_trans hs.length_le h.ln, h.rise.sub hs, fun x hx => h.low x (hs.subset hx), fun x hx => h.top x (hs.subset hx), h.cut, h.ne⟩
theorem FitP.put {f : Fl} (h : FitP f) (hn : f.next ≠ 4611686018427387904) (hl : f.list.length < 65536) (a b : Int) (body : List UInt8) : FitP ⟨f.next + 1, f.list ++ [⟨f.next + 1, a, b, body⟩], f.cut⟩ := by
  have h0 := h.n0
  have h1 := h.n1
  refine ⟨by show (0 : Int) ≤ f.next + 1; omega, by show f.next + 1 ≤ _; omega, by show (f.list ++ _).length ≤ _; simp; omega, ?_, ?_, ?_, h.cut, h.ne⟩
  · show NumRise (f.list ++ _)
    unfold NumRise RiseI
    rw [List.map_append, List.pairwise_append]
    refine ⟨h.rise, by simp, ?_⟩
    intro x hx y hy
    obtain ⟨d, hd, rfl⟩ := List.mem_map.1 hx
    have := h.top d hd
    simp only [List.map_cons, List.map_nil, List.mem_singleton] at hy
    subst hy
    show d.number < f.next + 1
    omega
  · intro x hx
    rcases List.mem_append.1 hx with hx | hx
    · exact h.low x hx
    · rw [List.mem_singleton] at hx; subst hx; show 1 ≤ f.next + 1; omega
  · intro x hx
    rcases List.mem_append.1 hx with hx | hx
    · have := h.top x hx; show x.number ≤ f.next + 1; omega
    · rw [List.mem_singleton] at hx; subst hx; exact Int.le_refl _
theorem lessW_total {a b : Way} (h : lessW a b = false) (hn : a ≠ b) : lessW b a = true := by
  have hne : ¬ (a.from_ = b.from_ ∧ a.to_ = b.to_) := fun e => hn (by cases a; cases b; simp only at e; rw [e.1, e.2])
  unfold lessW at *
  simp only [Bool.or_eq_true, Bool.and_eq_true, decide_eq_true_eq, Bool.or_eq_false_iff, Bool.and_eq_false_iff, decide_eq_false_iff_not] at *
  omega
theorem rise_in {w : Way} : ∀ {l : List Way}, CutRise l → w ∉ l → CutRise (cutIn w l)
  | [], _, _ => List.pairwise_singleton _ _
  | a :: l, h, hw => by
    have hc := List.pairwise_cons.1 h
    cases hl : lessW a w with
    | false =>
      have e : cutIn w (a :: l) = w :: a :: l := by
        unfold cutIn insAt
        rw [List.takeWhile_cons, if_neg (by rw [hl]; decide)]; rfl
      have h1 := lessW_total hl fun e => hw (by rw [e]; exact List.mem_cons_self ..)
      rw [e]
      refine List.pairwise_cons.2 ⟨fun x hx => ?_, h⟩
      rcases List.mem_cons.1 hx with rfl | hx
      · exact h1
      · exact lessW_trans h1 (hc.1 x hx)
    | true =>
      have e : cutIn w (a :: l) = a :: cutIn w l := by
        unfold cutIn insAt
        rw [List.takeWhile_cons, if_pos hl]; rfl
      rw [e]
      refine List.pairwise_cons.2 ⟨fun x hx => ?_, rise_in hc.2 fun hm => hw (List.mem_cons_of_mem _ hm)⟩
      unfold cutIn at hx
      rcases List.mem_append.1 hx with hx | hx
      · exact hc.1 x (List.mem_of_mem_take hx)
      · rcases List.mem_cons.1 hx with rfl | hx
        · exact hl
        · exact hc.1 x (List.mem_of_mem_drop hx)
theorem mem_cutIn {w x : Way} {l : List Way} (h : x ∈ cutIn w l) : x = w ∨ x ∈ l := by
  unfold cutIn at h
  rcases List.mem_append.1 h with h | h
  · exact .inr (List.mem_of_mem_take h)
  · rcases List.mem_cons.1 h with h | h
    · exact .inl h
    · exact .inr (List.mem_of_mem_drop h)
theorem wayN_zero {l : List Way} {w : Way} (h : wayN l w = 0) : w ∉ l := by
  unfold wayN at h
  cases hp : posW w l 0 with
  | none => exact posW_none.1 hp
  | some k => rw [hp] at h; simp only at h; omega
theorem FitP.cutG {f : Fl} (h : FitP f) {w : Way} (hw : w.from_ ≠ w.to_) : FitP (cutG f w) ∧ (Go.Proofs.Ytdhbonjbjnodhaa.cutG f w).list = f.list ∧ (Go.Proofs.Ytdhbonjbjnodhaa.cutG f w).cut.length ≤ f.cut.length + 1 := by
  unfold Go.Proofs.Ytdhbonjbjnodhaa.cutG
  split
  · rename_i h0
    refine ⟨⟨h.n0, h.n1, h.ln, h.rise, h.low, h.top, rise_in h.cut (wayN_zero h0), ?_⟩, rfl, by show (cutIn w f.cut).length ≤ _; rw [cutIn_len]; exact Nat.le_refl _⟩
    intro x hx
    rcases mem_cutIn hx with rfl | hx
    · exact hw
    · exact h.ne x hx
  · exact ⟨h, rfl, by omega⟩
theorem filter_two {α : Type} (p : α → Bool) (l : List α) : ((l.filter fun a => !p a).length : Int) = (l.length : Int) - (l.filter p).length := by
  induction l with
  | nil => rfl
  | cons a l ih =>
    cases h : p a <;> simp [List.filter_cons, h, ih] <;> omega
theorem lose_keeps {f : Fl} (h : FitP f) (w : Way) (any : Bool) : FitP (loseF f w any).1 ∧ (loseF f w any).1.cut = f.cut ∧ ((loseF f w any).1.list.length : Int) = (f.list.length : Int) - (loseF f w any).2 ∧ hitTo (loseF f w any).1.list w any (loseF f w any).1.list.length = [] :=
  ⟨h.less List.filter_sublist, rfl, filter_two _ _, hitTo_nil fun q hq => by
    have := getD_lt hq
    have := (List.mem_filter.1 this).2
    simpa using this⟩
theorem cut_keeps {f : Fl} (h : FitP f) (w : Way) : FitP (cutF f w).1 ∧ (cutF f w).1.cut.length ≤ f.cut.length + 1 ∧ ((cutF f w).1.list.length : Int) = (f.list.length : Int) - (cutF f w).2 ∧ (w.from_ ≠ w.to_ → onL (cutF f w).1.list w = []) := by
  unfold cutF
  split
  · rename_i h0
    exact ⟨h, Nat.le_succ _, by show (f.list.length : Int) = f.list.length - 0; omega, fun hn => absurd h0 hn⟩
  · rename_i h0
    obtain ⟨a, b, c⟩ := h.cutG h0
    obtain ⟨d, e, g, i⟩ := lose_keeps a w false
    refine ⟨d, by rw [e]; exact c, by rw [g, b], fun _ => ?_⟩
    unfold onL
    rw [i]; rfl
end Go.Proofs.Ytdhbonjbjnodhaa

set_option maxRecDepth 100000
set_option maxHeartbeats 1000000
set_option linter.unusedSimpArgs false
set_option linter.unusedVariables false
namespace Go.Proofs.Ytdhbonjbjnodhaa
open Go.Abs
attribute [local irreducible] C X CC Y CV CW binK litK AppK PureC PureCV againK loopV rangeV allK ifK got onB condK V stepsK planK opK firstK seeE keepsK
theorem Shaped.ints {P : Program} {t e : TypeId} {c : AV} {i j : TI} (ht : ti P t = some i) (hd : i.desc = .slice e) (he : ti P e = some j) (hj : j.desc = .int .i64) (hs : j.size = 1) (hb : j.bytes = 8) (h : Shaped P t [c]) :
    ∃ l : List Int, c = .vs (l.map intC) false ∧ l.length * 8 ≤ 140737488351232 := by
  obtain ⟨l, e1, e2, _, _⟩ := Shaped.rows intC (fun _ => True) ht hd he (by rw [hs]; rfl) (fun x hx hl => by
    rw [hs] at hl
    match x, hl with
    | [c], _ =>
      obtain ⟨v, rfl, _⟩ := hx.i64 he hj
      exact ⟨v, rfl, trivial⟩) h
  exact ⟨l, e1, by rw [hb] at e2; omega⟩
structure Act where
  kind : Int
  number : Int
  from_ : Int
  to_ : Int
  body : List UInt8
  a : List Int
  b : List Int
instance : DecidableEq Act := fun d e => decidable_of_iff (d.kind = e.kind ∧ d.number = e.number ∧ d.from_ = e.from_ ∧ d.to_ = e.to_ ∧ d.body = e.body ∧ d.a = e.a ∧ d.b = e.b) (by cases d; cases e; simp)
instance : Inhabited Act := ⟨⟨0, 0, 0, 0, [], [], []⟩⟩
def Act.cells (d : Act) : List AV := [.val (.int .i64 d.kind), .val (.int .i64 d.number), .val (.int .i64 d.from_), .val (.int .i64 d.to_), .val (.string (.mk (List.toArray d.body))), .vs (d.a.map intC) false, .vs (d.b.map intC) false]
theorem Act.g0 (d : Act) : d.cells[0]? = some (.val (.int .i64 d.kind)) := rfl
theorem Act.g1 (d : Act) : d.cells[1]? = some (.val (.int .i64 d.number)) := rfl
theorem Act.s1 (d : Act) (v : Int) : setRange d.cells 1 [.val (.int .i64 v)] = ({ d with number := v } : Act).cells := rfl
theorem Act.g2 (d : Act) : d.cells[2]? = some (.val (.int .i64 d.from_)) := rfl
theorem Act.s2 (d : Act) (v : Int) : setRange d.cells 2 [.val (.int .i64 v)] = ({ d with from_ := v } : Act).cells := rfl
theorem Act.g3 (d : Act) : d.cells[3]? = some (.val (.int .i64 d.to_)) := rfl
theorem Act.g4 (d : Act) : d.cells[4]? = some (.val (.string (.mk (List.toArray d.body)))) := rfl
theorem Act.g5 (d : Act) : d.cells[5]? = some (.vs (d.a.map intC) false) := rfl
theorem Act.g6 (d : Act) : d.cells[6]? = some (.vs (d.b.map intC) false) := rfl
theorem Act.len (d : Act) : d.cells.length = 7 := rfl
theorem Act.take (d : Act) : d.cells.take 7 = d.cells := rfl
theorem Act.rlen (l : List Act) : (l.map Act.cells).flatten.length = l.length * 7 := row_len Act.cells (fun _ => rfl) l
theorem Act.rpart (l : List Act) (k : Nat) (hk : k < l.length) : ((l.map Act.cells).flatten.drop (k * 7)).take 7 = (l.getD k default).cells := row_part Act.cells (fun _ => rfl) l hk
theorem Act.rin (l : List Act) (k j : Nat) (hk : k < l.length) (hj : j ≤ 7) : (k * 7 + j ≤ (l.map Act.cells).flatten.length) = True := eq_true (row_in Act.cells (fun _ => rfl) l hk hj)
theorem Act.rset (l : List Act) (k : Nat) (hk : k < l.length) (d : Act) : setRange (l.map Act.cells).flatten (k * 7) d.cells = ((l.set k d).map Act.cells).flatten := row_set Act.cells (fun _ => rfl) l hk d
theorem Act.sall (d e : Act) : setRange d.cells 0 e.cells = e.cells := rfl
theorem Act.drop (d : Act) : d.cells.drop 7 = [] := rfl
theorem Act.all (d : Act) : d.cells.all AV.one = true := rfl
theorem Act.mk_agg (kind : Int) (number : Int) (from_ : Int) (to_ : Int) (body : List UInt8) (a : List Int) (b : List Int) : AV.agg [.val (.int .i64 kind), .val (.int .i64 number), .val (.int .i64 from_), .val (.int .i64 to_), .val (.string (.mk (List.toArray body))), .vs (a.map intC) false, .vs (b.map intC) false] = .agg (Act.cells ⟨kind, number, from_, to_, body, a, b⟩) := rfl
def Act.ok (d : Act) : Prop := (-9223372036854775808 ≤ d.kind ∧ d.kind ≤ 9223372036854775807) ∧ (-9223372036854775808 ≤ d.number ∧ d.number ≤ 9223372036854775807) ∧ (-9223372036854775808 ≤ d.from_ ∧ d.from_ ≤ 9223372036854775807) ∧ (-9223372036854775808 ≤ d.to_ ∧ d.to_ ≤ 9223372036854775807) ∧ d.body.length ≤ 140737488351232 ∧ d.a.length * 8 ≤ 140737488351232 ∧ d.b.length * 8 ≤ 140737488351232
theorem Act.of_shaped {cs : List AV} (h : Shaped Try.prog 39 cs) (hc : cs.length = 7) : ∃ d : Act, cs = d.cells ∧ d.ok := by
  have h := Shaped.leaves laidOut 8 39 [3, 2, 3, 3, 9, 37, 37] cs (of_decide_eq_true (by kernel_rfl)) (by kernel_rfl) h (hc.trans (cells_size ti_39).symm)
  match cs, h with
  | [c0, c1, c2, c3, c4, c5, c6], ⟨h0, h1, h2, h3, h4, h5, h6, _⟩ =>
    obtain ⟨x0, rfl, w0⟩ := h0.i64 ti_3 rfl
    obtain ⟨x1, rfl, w1⟩ := h1.i64 ti_2 rfl
    obtain ⟨x2, rfl, w2⟩ := h2.i64 ti_3 rfl
    obtain ⟨x3, rfl, w3⟩ := h3.i64 ti_3 rfl
    obtain ⟨x4, rfl, w4⟩ := h4.txt ti_9 rfl
    obtain ⟨x5, rfl, w5⟩ := Shaped.ints ti_37 rfl ti_3 rfl rfl rfl h5
    obtain ⟨x6, rfl, w6⟩ := Shaped.ints ti_37 rfl ti_3 rfl rfl rfl h6
    exact ⟨⟨x0, x1, x2, x3, x4, x5, x6⟩, rfl, w0, w1, w2, w3, w4, w5, w6⟩
structure Lies (f : Fl) (v u : AV) : Prop where
  v1 : AV.one v = true
  u1 : AV.one u = true
  ln : ∀ m, lenA Try.prog m 22 v = some (.val (.int .i64 f.list.length))
  see : ∀ m, Seen m (.agg [.val (.int .i64 f.next), v, u]) (.agg (f.rc false false))
end Go.Proofs.Ytdhbonjbjnodhaa

set_option maxRecDepth 100000
set_option maxHeartbeats 1000000
set_option linter.unusedSimpArgs false
set_option linter.unusedVariables false
namespace Go.Proofs.Ytdhbonjbjnodhaa
open Go.Abs
attribute [local irreducible] C X CC Y CV CW binK litK AppK PureC PureCV againK loopV rangeV allK ifK got onB condK V stepsK planK opK firstK seeE keepsK
theorem numTo_at {f : Fl} : ∀ {n i : Nat}, numTo f n = true → i < n → numOk f i = true
  | n + 1, i, h, hi => by
    unfold numTo at h
    rw [Bool.and_eq_true] at h
    rcases Nat.lt_or_ge i n with hlt | hge
    · exact numTo_at h.1 hlt
    · rw [show i = n by omega]; exact h.2
theorem cutTo_at {l : List Way} : ∀ {n i : Nat}, cutTo l n = true → i < n → cutOk l i = true
  | n + 1, i, h, hi => by
    unfold cutTo at h
    rw [Bool.and_eq_true] at h
    rcases Nat.lt_or_ge i n with hlt | hge
    · exact cutTo_at h.1 hlt
    · rw [show i = n by omega]; exact h.2
theorem Fit.p {f : Fl} (h : Fit f) : FitP f := by
  have hr := h.rise
  refine ⟨h.n0, h.n1, h.ln, hr, fun x hx => ?_, fun x hx => ?_, h.cutRise, fun w hw => ?_⟩
  · obtain ⟨i, hi, rfl⟩ := List.getElem_of_mem hx
    have h0 := numTo_at h.nm (i := 0) (by omega)
    unfold numOk prevN at h0
    simp only [if_true, Bool.and_eq_true, decide_eq_true_eq] at h0
    rcases Nat.eq_zero_or_pos i with rfl | hp
    · rw [getD_get _ _ hi] at h0; omega
    · have := num_at hr hp hi
      rw [getD_get _ _ hi] at this
      omega
  · obtain ⟨i, hi, rfl⟩ := List.getElem_of_mem hx
    have h0 := numTo_at h.nm hi
    unfold numOk at h0
    simp only [Bool.and_eq_true, decide_eq_true_eq] at h0
    rw [getD_get _ _ hi] at h0
    exact h0.2
  · obtain ⟨i, hi, rfl⟩ := List.getElem_of_mem hw
    have h0 := cutTo_at h.ct hi
    unfold cutOk at h0
    simp only [Bool.and_eq_true, Bool.not_eq_true', decide_eq_false_iff_not] at h0
    rw [getD_get _ _ hi] at h0
    exact h0.1
def isoP (s : Fl × Int) (w : Way) : Fl × Int := ((cutF s.1 w).1, s.2 + (cutF s.1 w).2)
def iso2 (s : Fl × Int) (x y : Int) : Fl × Int := isoP (isoP s ⟨x, y⟩) ⟨y, x⟩
def isoB (s : Fl × Int) (x : Int) : List Int → Fl × Int
  | [] => s
  | y :: b => isoB (iso2 s x y) x b
def isoA (s : Fl × Int) (b : List Int) : List Int → Fl × Int
  | [] => s
  | x :: a => isoA (isoB s x b) b a
def isoF (f : Fl) (a b : List Int) : Fl × Int := isoA (f, 0) b a
structure Iso (f : Fl) (c : Nat) (s : Fl × Int) : Prop where
  fit : FitP s.1
  cut : s.1.cut.length ≤ c
  len : (s.1.list.length : Int) = f.list.length - s.2
  all : ∀ w ∈ f.cut, w ∈ s.1.cut
theorem mem_in {w x : Way} {l : List Way} (h : x = w ∨ x ∈ l) : x ∈ cutIn w l := by
  unfold cutIn
  rcases h with rfl | h
  · simp
  · rw [← List.take_append_drop (insAt w l) l] at h
    rcases List.mem_append.1 h with h | h
    · exact List.mem_append.2 (.inl h)
    · exact List.mem_append.2 (.inr (List.mem_cons_of_mem _ h))
theorem wayN_ne {l : List Way} {w : Way} (h : wayN l w ≠ 0) : w ∈ l := by
  unfold wayN at h
  cases hp : posW w l 0 with
  | none => rw [hp] at h; exact absurd rfl h
  | some k =>
    obtain ⟨_, hk, he⟩ := posW_some hp
    rw [← he]; exact List.getElem_mem hk
theorem cut_mem (f : Fl) (w : Way) : (∀ x ∈ f.cut, x ∈ (cutF f w).1.cut) ∧ (w.from_ ≠ w.to_ → w ∈ (cutF f w).1.cut) := by
  unfold cutF
  split
  · rename_i h; exact ⟨fun x hx => hx, fun hn => absurd h hn⟩
  · show (∀ x ∈ f.cut, x ∈ (cutG f w).cut) ∧ (_ → w ∈ (cutG f w).cut)
    unfold cutG
    split
    · exact ⟨fun x hx => mem_in (.inr hx), fun _ => mem_in (.inl rfl)⟩
    · rename_i h
      exact ⟨fun x hx => hx, fun _ => wayN_ne h⟩
theorem Iso.step {f : Fl} {c : Nat} {s : Fl × Int} (h : Iso f c s) (w : Way) : Iso f (c + 1) (isoP s w) ∧ (w.from_ ≠ w.to_ → w ∈ (isoP s w).1.cut) := by
  obtain ⟨k1, k2, k3, _⟩ := cut_keeps h.fit w
  obtain ⟨m1, m2⟩ := cut_mem s.1 w
  have h2 := h.cut
  have h3 := h.len
  refine ⟨⟨k1, by show (cutF s.1 w).1.cut.length ≤ _; omega, ?_, fun x hx => m1 x (h.all x hx)⟩, m2⟩
  show ((cutF s.1 w).1.list.length : Int) = f.list.length - (s.2 + (cutF s.1 w).2)
  omega
theorem Iso.two {f : Fl} {c : Nat} {s : Fl × Int} (h : Iso f c s) (x y : Int) : Iso f (c + 2) (iso2 s x y) ∧ (∀ w ∈ s.1.cut, w ∈ (iso2 s x y).1.cut) ∧ (x ≠ y → ⟨x, y⟩ ∈ (iso2 s x y).1.cut ∧ ⟨y, x⟩ ∈ (iso2 s x y).1.cut) := by
  obtain ⟨a1, a2⟩ := h.step ⟨x, y⟩
  obtain ⟨b1, b2⟩ := a1.step ⟨y, x⟩
  have m1 := (cut_mem s.1 ⟨x, y⟩).1
  have m2 := (cut_mem (isoP s ⟨x, y⟩).1 ⟨y, x⟩).1
  exact ⟨b1, fun w hw => m2 w (m1 w hw), fun hn => ⟨m2 _ (a2 hn), b2 (Ne.symm hn)⟩⟩
theorem Iso.row {f : Fl} (x : Int) : ∀ (b : List Int) {c : Nat} {s : Fl × Int}, Iso f c s → Iso f (c + 2 * b.length) (isoB s x b) ∧ (∀ w ∈ s.1.cut, w ∈ (isoB s x b).1.cut) ∧ (∀ y ∈ b, x ≠ y → ⟨x, y⟩ ∈ (isoB s x b).1.cut ∧ ⟨y, x⟩ ∈ (isoB s x b).1.cut)
  | [], c, s, h => ⟨h, fun _ hw => hw, fun y hy => absurd hy List.not_mem_nil⟩
  | z :: b, c, s, h => by
    obtain ⟨a1, a2, a3⟩ := h.two x z
    obtain ⟨b1, b2, b3⟩ := Iso.row x b a1
    refine ⟨?_, fun w hw => b2 w (a2 w hw), fun y hy hn => ?_⟩
    · rw [List.length_cons, show c + 2 * (b.length + 1) = c + 2 + 2 * b.length by omega]; exact b1
    · rcases List.mem_cons.1 hy with rfl | hy
      · exact ⟨b2 _ (a3 hn).1, b2 _ (a3 hn).2⟩
      · exact b3 y hy hn
theorem Iso.rows {f : Fl} (b : List Int) : ∀ (a : List Int) {c : Nat} {s : Fl × Int}, Iso f c s → Iso f (c + 2 * (a.length * b.length)) (isoA s b a) ∧ (∀ w ∈ s.1.cut, w ∈ (isoA s b a).1.cut) ∧ (∀ x ∈ a, ∀ y ∈ b, x ≠ y → ⟨x, y⟩ ∈ (isoA s b a).1.cut ∧ ⟨y, x⟩ ∈ (isoA s b a).1.cut)
  | [], c, s, h => ⟨by rw [List.length_nil, Nat.zero_mul]; exact h, fun _ hw => hw, fun x hx => absurd hx List.not_mem_nil⟩
  | z :: a, c, s, h => by
    obtain ⟨a1, a2, a3⟩ := h.row z b
    obtain ⟨b1, b2, b3⟩ := Iso.rows b a a1
    refine ⟨?_, fun w hw => b2 w (a2 w hw), fun x hx y hy hn => ?_⟩
    · rw [List.length_cons, show c + 2 * ((a.length + 1) * b.length) = c + 2 * b.length + 2 * (a.length * b.length) by rw [Nat.add_mul]; omega]; exact b1
    · rcases List.mem_cons.1 hx with rfl | hx
      · exact ⟨b2 _ (a3 y hy hn).1, b2 _ (a3 y hy hn).2⟩
      · exact b3 x hx y hy hn
theorem iso_start {f : Fl} (h : FitP f) : Iso f f.cut.length (f, 0) := ⟨h, Nat.le_refl _, by show (f.list.length : Int) = f.list.length - 0; omega, fun _ hw => hw⟩
theorem wayN_mem {l : List Way} {w : Way} (h : w ∈ l) : 0 < wayN l w := by
  have := wayN_pos l w
  have : wayN l w ≠ 0 := fun e => wayN_zero e h
  omega
theorem put_cut {f : Fl} {w : Way} (h : w ∈ f.cut) (body : List UInt8) : putF f w body = (f, 0, 40) := by
  unfold putF; rw [if_pos (wayN_mem h)]
theorem filter_again {α : Type} (p : α → Bool) (l : List α) : ((l.filter fun a => !p a).filter fun a => !p a) = l.filter fun a => !p a := by rw [List.filter_filter]; simp
theorem filter_gone {α : Type} (p : α → Bool) (l : List α) : ((l.filter fun a => !p a).filter p) = [] := by
  rw [List.filter_filter, List.filter_eq_nil_iff]
  intro a _
  simp
theorem cut_again (f : Fl) (w : Way) : cutF (cutF f w).1 w = ((cutF f w).1, 0) := by
  by_cases h : w.from_ = w.to_
  · unfold cutF; rw [if_pos h]
  · have hm := (cut_mem f w).2 h
    have hw := wayN_mem hm
    have e : cutG (cutF f w).1 w = (cutF f w).1 := by unfold cutG; rw [if_neg (by omega)]
    have e2 : cutF (cutF f w).1 w = loseF (cutF f w).1 w false := by
      rw [show cutF (cutF f w).1 w = if w.from_ = w.to_ then ((cutF f w).1, 0) else loseF (cutG (cutF f w).1 w) w false from rfl, if_neg h, e]
    rw [e2]
    have e3 : (cutF f w).1 = (loseF (cutG f w) w false).1 := by
      rw [show cutF f w = if w.from_ = w.to_ then (f, 0) else loseF (cutG f w) w false from rfl, if_neg h]
    rw [e3]
    unfold loseF
    simp only [filter_again, filter_gone, List.length_nil]
    rfl
theorem join_cut {f : Fl} {w : Way} (h : w.from_ ≠ w.to_) (hj : (joinF f w).2 = false) : (joinF (cutF f w).1 w).2 = true ∧ (joinF (cutF f w).1 w).1.cut.length = f.cut.length := by
  have h0 : wayN f.cut w = 0 := by
    unfold joinF at hj
    cases hp : posW w f.cut 0 with
    | none => exact wayN_none hp
    | some k => rw [hp] at hj; cases hj
  have e3 : (cutF f w).1.cut = cutIn w f.cut := by
    rw [show cutF f w = if w.from_ = w.to_ then (f, 0) else loseF (cutG f w) w false from rfl, if_neg h]
    show (cutG f w).cut = _
    unfold cutG
    rw [if_pos h0]
  have hm : w ∈ (cutF f w).1.cut := (cut_mem f w).2 h
  unfold joinF
  cases hp : posW w (cutF f w).1.cut 0 with
  | none => exact absurd hm (posW_none.1 hp)
  | some k =>
    have hk := posW_lt hp
    refine ⟨rfl, ?_⟩
    show ((cutF f w).1.cut.take k ++ (cutF f w).1.cut.drop (k + 1)).length = _
    have : (cutF f w).1.cut.length = f.cut.length + 1 := by rw [e3, cutIn_len]
    rw [List.length_append, List.length_take, List.length_drop]; omega
end Go.Proofs.Ytdhbonjbjnodhaa

set_option maxRecDepth 100000
set_option maxHeartbeats 1000000
set_option linter.unusedSimpArgs false
set_option linter.unusedVariables false
namespace Go.Proofs.Ytdhbonjbjnodhaa
open Go.Abs
attribute [local irreducible] C X CC Y CV CW binK litK AppK PureC PureCV againK loopV rangeV allK ifK got onB condK V stepsK planK opK firstK seeE keepsK
theorem FlR.seen {g : Fl} {x : AV} {m' M : Mem} (h : FlR g x m') (hs : m'.sub M) : Seen M x (.agg (g.rc false false)) := by
  obtain ⟨N, L, cN, cM, oN, oM, rN, rM, hne, rfl, _, _, h1, h2⟩ := h.at
  refine .agg rfl fun i a b => ?_
  match i, a with
  | 0, _ => exact .same
  | 1, _ => exact Seen.rowPre Frame.cells (s := 4) (fun _ => rfl) g.list (hs _ _ h1)
  | 2, _ => exact Seen.rowPre Way.cells (s := 2) (fun _ => rfl) g.cut (hs _ _ h2)
def isoW (s : Fl × Int) : List Way → Fl × Int
  | [] => s
  | w :: l => isoW (isoP s w) l
theorem isoW_app (s : Fl × Int) (w : Way) : ∀ l, isoW s (l ++ [w]) = isoP (isoW s l) w
  | [] => rfl
  | v :: l => by
    have ih := isoW_app (isoP s v) w l
    exact ih
theorem isoB_app (x y : Int) : ∀ (b : List Int) (s : Fl × Int), isoB s x (b ++ [y]) = iso2 (isoB s x b) x y
  | [], s => rfl
  | z :: b, s => isoB_app x y b (iso2 s x z)
theorem isoA_app (b : List Int) (x : Int) : ∀ (a : List Int) (s : Fl × Int), isoA s b (a ++ [x]) = isoB (isoA s b a) x b
  | [], s => rfl
  | z :: a, s => isoA_app b x a (isoB s z b)
theorem take_next {α : Type} [Inhabited α] (l : List α) (i : Nat) (h : i < l.length) : l.take (i + 1) = l.take i ++ [l.getD i default] := by
  rw [List.take_add_one, List.getElem?_eq_getElem h, getD_get _ _ h]; rfl
def zeroC : List AV := [.val (.int .i64 0), .val (.slice none 0 0), .val (.slice none 0 0)]
def IsoS (g : Fl) (A B : Nat) (m : Mem) : Prop := ∃ v u mg, FlR g (.agg [.val (.int .i64 g.next), v, u]) mg ∧ AV.one v = true ∧ AV.one u = true ∧ mg A = none ∧ mg B = none ∧ A ≠ B ∧ m = (mg.set A (.cells false 25 [.val (.int .i64 g.next), v, u])).set B (.cells false 25 zeroC)
theorem ix_37 (l : List Int) (x : Bool) (kk : IntKind) (k : Int) (h0 : 0 ≤ k) (h1 : k < l.length) : indexAddrA Try.prog 37 (.vs (l.map intC) x) (.val (.int kk k)) = some (.vp (intC (l.getD k.toNat default)) 0) := index_vs intC ti_37 rfl ti_3 (fun _ => rfl) l x kk k h0 h1
theorem lit2_23 (d e : Way) : litA Try.prog 23 2 [(0, .agg d.cells), (1, .agg e.cells)] = some (60, 2, ([d, e].map Way.cells).flatten) := by
  simp only [litA, ti_23, ti_60, z_60, fillA, cells_agg, Way.all, if_true]
  rfl
theorem C24 (f : Fl) (x y : Bool) (a b : List Int) (u v : Bool) (hf : FitP f) (hc : f.cut.length + 2 * (a.length * b.length) ≤ 2000000000000) (ha : a.length ≤ 140737488355328) (hb : b.length ≤ 140737488355328) :
    C Try.prog 24 [.agg (f.rc x y), .vs (a.map intC) u, .vs (b.map intC) v] nomem (Res2 (isoF f a b)) := by
  have hl := hf.ln
  refine C.turn (C24_of ?_)
  unfold k24
  repeat' first
    | simp -dsimp (disch := omega) only [↓rulesA, rulesB, rulesC, Int.reduceLT, nth, upd, put, storeN, AV.one, Nat.reduceBEq, Nat.reduceBNe, Int.reduceBEq, Int.reduceBNe, Int.reduceLE, Int.reduceEq, Int.reduceMod, Int.reduceNeg, boolBin, strBin, intBin, unA, fillA, ne_eq, reduceCtorEq, Nat.reduceAdd, Nat.reduceSub, Nat.reduceLeDiff, Nat.reduceLT, Nat.reduceEqDiff, Int.reduceToNat, eq_self, rulesT, rulesD, Fl.g0, Fl.g1, Fl.g2, Fl.len, Fl.all, Fl.take, Fl.drop, Fl.sall, *]
    | (refine allK_intro fun n hn => ?_; try simp only [fresh_set] at hn)
    | (refine ifK_intro (fun h => ?_) (fun h => ?_) <;> (try simp only [rulesE] at h) <;> try (exfalso; (try simp only [rulesF] at h); omega))
    | (refine keeps_sub (Mem.sub_set ?_) ?_; focus (simp [Mem.set_at, nomem, *]; done))
  rename_i nF hnF
  revert n
  intro B hB
  refine call_at (C32 f x y (by omega) (by omega)) (nomem_sub _) fun r m1' M1 ⟨N, L, hr, hown⟩ hs1 hl1 => ?_
  subst hr
  obtain ⟨hne, hN, hL⟩ := hown
  obtain ⟨gB, iB⟩ := left_at hl1 (q := B) rfl (Mem.set_same _ _ _)
  have aN := iB _ _ hN
  have aL := iB _ _ hL
  have kN := hs1 _ _ hN
  have kL := hs1 _ _ hL
  clear hl1 iB hs1 hN hL
  repeat' first
    | simp -dsimp (disch := omega) only [↓rulesA, rulesB, rulesC, Int.reduceLT, nth, upd, put, storeN, AV.one, Nat.reduceBEq, Nat.reduceBNe, Int.reduceBEq, Int.reduceBNe, Int.reduceLE, Int.reduceEq, Int.reduceMod, Int.reduceNeg, boolBin, strBin, intBin, unA, fillA, ne_eq, reduceCtorEq, Nat.reduceAdd, Nat.reduceSub, Nat.reduceLeDiff, Nat.reduceLT, Nat.reduceEqDiff, Int.reduceToNat, eq_self, rulesT, rulesD, oc_is, Fl.g0, Fl.g1, Fl.g2, Fl.len, Fl.all, Fl.take, Fl.drop, Fl.sall, *]
    | (refine allK_intro fun n hn => ?_; try simp only [fresh_set] at hn)
    | (refine ifK_intro (fun h => ?_) (fun h => ?_) <;> (try simp only [rulesE] at h) <;> try (exfalso; (try simp only [rulesF] at h); omega))
    | (refine keeps_sub (Mem.sub_set ?_) ?_; focus (simp [Mem.set_at, nomem, *]; done))
  revert n
  intro A hA
  have dN := apart kN hA
  have dL := apart kL hA
  have dB := apart gB hA
  have hL' : M1 L = some (.cells true 60 ((f.cut.map Way.cells).flatten ++ [])) := by rw [List.append_nil]; exact kL
  have hN' : M1 N = some (.cells true 44 ((f.list.map Frame.cells).flatten ++ [])) := by rw [List.append_nil]; exact kN
  have hi0 := iso_start hf
  refine loop_intro (fun jj env m => ∃ (i : Nat) (s : Fl × Int), i ≤ a.length ∧ jj = a.length - i ∧ s = isoA (f, 0) b (a.take i) ∧ Iso f (f.cut.length + 2 * (i * b.length)) s ∧ IsoS s.1 A B m ∧ env.length = 60 ∧ nth env 2 = .vs (b.map intC) v ∧ nth env 6 = .ptr B 0 ∧ nth env 8 = .ptr A 0 ∧ nth env 9 = .val (.int .i64 s.2) ∧ nth env 19 = .vs (a.map intC) u ∧ nth env 20 = .val (.int .i64 a.length) ∧ nth env 21 = .val (.int .i64 i)) a.length
    ((((nomem.set N (.cells true 44 ((f.list.map Frame.cells).flatten ++ []))).set L (.cells true 60 ((f.cut.map Way.cells).flatten ++ []))).set A (.cells false 25 [.val (.int .i64 f.next), .sl N 0 f.list.length f.list.length, .sl L 0 f.cut.length f.cut.length])).set B (.cells false 25 zeroC)) ?_
    ⟨0, (f, 0), by omega, by omega, rfl, by rw [Nat.zero_mul]; exact hi0, ⟨_, _, _, ⟨N, L, _, _, true, true, [], [], hne, rfl, rfl, rfl, rfl⟩, rfl, rfl, ?_, ?_, ?_, rfl⟩, rfl, rfl, rfl, rfl, rfl, rfl, rfl, rfl⟩ ?_
  · refine Mem.set_sub (Mem.set_sub (Mem.set_sub (Mem.set_sub (nomem_sub _) ?_) ?_) ?_) ?_ <;> simp [Mem.set_at, *, zeroC]
  · simp [Mem.set_at, nomem, *]
  · simp [Mem.set_at, nomem, *]
  · exact dB.2
  clear aN aL kN kL dN dL gB hL' hN' hA hne hnF hB
  rintro jj env m ⟨i, s, hi, rfl, es, hs, hS, hlen, e2, e6, e8, e9, e19, e20, e21⟩
  by_cases hia : i < a.length
  · have hxa := ix_37 a u .i64 i (by omega) (by omega)
    rw [Int.toNat_natCast] at hxa
    have hsA := isoA_app b (a.getD i default) (a.take i) (f, 0)
    rw [← take_next a i hia, ← es] at hsA
    generalize a.getD i default = xx at hxa hsA
    have hbound : i * b.length + b.length ≤ a.length * b.length := by
      have := Nat.mul_le_mul_right b.length (show i + 1 ≤ a.length by omega)
      rw [Nat.add_mul] at this; omega
    have hia' : (i : Int) < a.length := by omega
    replace hS : Kept _ := hS
    replace hs : Kept _ := hs
    replace es : Kept _ := es
    replace hi0 : Kept _ := hi0
    replace hsA : Kept _ := hsA
    repeat' first
      | simp -dsimp (disch := omega) only [↓rulesA, rulesB, rulesC, Int.reduceLT, nth, upd, put, storeN, AV.one, Nat.reduceBEq, Nat.reduceBNe, Int.reduceBEq, Int.reduceBNe, Int.reduceLE, Int.reduceEq, Int.reduceMod, Int.reduceNeg, boolBin, strBin, intBin, unA, fillA, ne_eq, reduceCtorEq, Nat.reduceAdd, Nat.reduceSub, Nat.reduceLeDiff, Nat.reduceLT, Nat.reduceEqDiff, Int.reduceToNat, eq_self, rulesT, rulesD, intC_0, *]
      | (refine allK_intro fun n hn => ?_; try simp only [fresh_set] at hn)
      | (refine ifK_intro (fun h => ?_) (fun h => ?_) <;> (try simp only [rulesE] at h) <;> try (exfalso; (try simp only [rulesF] at h); omega))
      | (refine keeps_sub (Mem.sub_set ?_) ?_; focus (simp [Mem.set_at, nomem, *]; done))
    refine loop_intro (fun jj env m => ∃ (k : Nat) (q : Fl × Int), k ≤ b.length ∧ jj = b.length - k ∧ q = isoB s xx (b.take k) ∧ Iso f (f.cut.length + 2 * (i * b.length) + 2 * k) q ∧ Kept (IsoS q.1 A B m) ∧ env.length = 60 ∧ nth env 2 = .vs (b.map intC) v ∧ nth env 6 = .ptr B 0 ∧ nth env 8 = .ptr A 0 ∧ nth env 9 = .val (.int .i64 q.2) ∧ nth env 11 = .val (.int .i64 xx) ∧ nth env 19 = .vs (a.map intC) u ∧ nth env 20 = .val (.int .i64 a.length) ∧ nth env 21 = .val (.int .i64 i) ∧ nth env 25 = .vs (b.map intC) v ∧ nth env 26 = .val (.int .i64 b.length) ∧ nth env 27 = .val (.int .i64 k)) b.length _ (Mem.sub.refl _)
      ⟨0, s, by omega, by omega, rfl, hs, hS, ?_, ?_, ?_, ?_, ?_, ?_, ?_, ?_, ?_, ?_, ?_, ?_⟩ ?_
    rotate_left 12
    · clear hS hlen e2 e6 e8 e9 e19 e20 e21 hs env m
      rintro jj env m ⟨k, q, hk, rfl, eq, hq, hS, hlen, e2, e6, e8, e9, e11, e19, e20, e21, e25, e26, e27⟩
      by_cases hkb : k < b.length
      · have hxb := ix_37 b v .i64 k (by omega) (by omega)
        rw [Int.toNat_natCast] at hxb
        have hqB := isoB_app xx (b.getD k default) (b.take k) s
        rw [← take_next b k hkb, ← eq] at hqB
        generalize b.getD k default = yy at hxb hqB
        have hkb' : (k : Int) < b.length := by omega
        replace hq : Kept _ := hq
        replace eq : Kept _ := eq
        replace hqB : Kept _ := hqB
        repeat' first
          | simp -dsimp (disch := omega) only [↓rulesA, rulesB, rulesC, Int.reduceLT, nth, upd, put, storeN, AV.one, Nat.reduceBEq, Nat.reduceBNe, Int.reduceBEq, Int.reduceBNe, Int.reduceLE, Int.reduceEq, Int.reduceMod, Int.reduceNeg, boolBin, strBin, intBin, unA, fillA, ne_eq, reduceCtorEq, Nat.reduceAdd, Nat.reduceSub, Nat.reduceLeDiff, Nat.reduceLT, Nat.reduceEqDiff, Int.reduceToNat, eq_self, rulesT, rulesD, intC_0, Way.mk_agg, *]
          | (refine allK_intro fun n hn => ?_; try simp only [fresh_set] at hn)
          | (refine ifK_intro (fun h => ?_) (fun h => ?_) <;> (try simp only [rulesE] at h) <;> try (exfalso; (try simp only [rulesF] at h); omega))
          | (refine keeps_sub (Mem.sub_set ?_) ?_; focus (simp [Mem.set_at, nomem, *]; done))
        refine lit_vs (lit2_23 ⟨xx, yy⟩ ⟨yy, xx⟩) rfl ?_
        obtain ⟨ws, ews⟩ : ∃ ws : List Way, ws = [⟨xx, yy⟩, ⟨yy, xx⟩] := ⟨_, rfl⟩
        have hch : chunk 2 2 (([⟨xx, yy⟩, ⟨yy, xx⟩] : List Way).map Way.cells).flatten = ws.map Way.cells := by rw [ews]; rfl
        have hwl : ws.length = 2 := by rw [ews]; rfl
        have hw2 : isoW q ws = iso2 q xx yy := by rw [ews]; rfl
        rw [hch]
        replace hw2 : Kept _ := hw2
        clear hch ews
        repeat' first
          | simp -dsimp (disch := omega) only [↓rulesA, rulesB, rulesC, Int.reduceLT, nth, upd, put, storeN, AV.one, Nat.reduceBEq, Nat.reduceBNe, Int.reduceBEq, Int.reduceBNe, Int.reduceLE, Int.reduceEq, Int.reduceMod, Int.reduceNeg, boolBin, strBin, intBin, unA, fillA, ne_eq, reduceCtorEq, Nat.reduceAdd, Nat.reduceSub, Nat.reduceLeDiff, Nat.reduceLT, Nat.reduceEqDiff, Int.reduceToNat, eq_self, rulesT, rulesD, Way.g0, Way.g1, Way.len, Way.all, Way.take, Way.drop, Way.sall, *]
          | (refine allK_intro fun n hn => ?_; try simp only [fresh_set] at hn)
          | (refine ifK_intro (fun h => ?_) (fun h => ?_) <;> (try simp only [rulesE] at h) <;> try (exfalso; (try simp only [rulesF] at h); omega))
          | (refine keeps_sub (Mem.sub_set ?_) ?_; focus (simp [Mem.set_at, nomem, *]; done))
        refine loop_intro (fun jj env m => ∃ (w : Nat) (p : Fl × Int), w ≤ 2 ∧ jj = 2 - w ∧ p = isoW q (ws.take w) ∧ Iso f (f.cut.length + 2 * (i * b.length) + 2 * k + w) p ∧ Kept (IsoS p.1 A B m) ∧ env.length = 60 ∧ nth env 2 = .vs (b.map intC) v ∧ nth env 6 = .ptr B 0 ∧ nth env 8 = .ptr A 0 ∧ nth env 9 = .val (.int .i64 p.2) ∧ nth env 11 = .val (.int .i64 xx) ∧ nth env 19 = .vs (a.map intC) u ∧ nth env 20 = .val (.int .i64 a.length) ∧ nth env 21 = .val (.int .i64 i) ∧ nth env 25 = .vs (b.map intC) v ∧ nth env 26 = .val (.int .i64 b.length) ∧ nth env 27 = .val (.int .i64 k) ∧ nth env 37 = .vs (ws.map Way.cells) true ∧ nth env 38 = .val (.int .i64 2) ∧ nth env 39 = .val (.int .i64 w)) 2 _ (Mem.sub.refl _)
          ⟨0, q, by omega, by omega, rfl, hq, hS, ?_, ?_, ?_, ?_, ?_, ?_, ?_, ?_, ?_, ?_, ?_, ?_, ?_, ?_, ?_⟩ ?_
        rotate_left 15
        · clear hS hlen e2 e6 e8 e9 e11 e19 e20 e21 e25 e26 e27 hq env m
          rintro jj env m ⟨w, p, hw, rfl, ep, hp, hS, hlen, e2, e6, e8, e9, e11, e19, e20, e21, e25, e26, e27, e37, e38, e39⟩
          by_cases hw' : w < 2
          · have hxw := ix_23 ws true .i64 w (by omega) (by omega)
            rw [Int.toNat_natCast] at hxw
            have hpW := isoW_app q (ws.getD w default) (ws.take w)
            rw [← take_next ws w (by omega), ← ep] at hpW
            generalize ws.getD w default = d at hxw hpW
            have hw2' : (w : Int) < 2 := by omega
            obtain ⟨va, ua, mg, hF, o1, o2, hgA, hgB, hAB, hm⟩ := hS
            have hBA := Ne.symm hAB
            have hmA : m A = some (.cells false 25 [.val (.int .i64 p.1.next), va, ua]) := by rw [hm]; simp [Mem.set_at, *]
            have hmB : m B = some (.cells false 25 zeroC) := by rw [hm]; simp [Mem.set_at, *]
            have hmg : mg.sub m := by rw [hm]; exact (Mem.sub_set hgA).trans (Mem.sub_set (by simp [Mem.set_at, *]))
            clear hm
            have hlp := hp.fit.ln
            have hcp := hp.cut
            have c21 := C21 p.1 false false d.from_ d.to_ hlp (by omega) hp.fit.fit.nodup hp.fit.rise
            obtain ⟨hp', _⟩ := hp.step d
            have hlen2 := hp'.len
            have hlen1 := hp.len
            have hll := hp'.fit.ln
            replace hp : Kept _ := hp
            replace hp' : Kept _ := hp'
            replace ep : Kept _ := ep
            replace hpW : Kept _ := hpW
            repeat' first
              | simp -dsimp (disch := omega) only [↓rulesA, rulesB, rulesC, Int.reduceLT, nth, upd, put, storeN, AV.one, Nat.reduceBEq, Nat.reduceBNe, Int.reduceBEq, Int.reduceBNe, Int.reduceLE, Int.reduceEq, Int.reduceMod, Int.reduceNeg, boolBin, strBin, intBin, unA, fillA, ne_eq, reduceCtorEq, Nat.reduceAdd, Nat.reduceSub, Nat.reduceLeDiff, Nat.reduceLT, Nat.reduceEqDiff, Int.reduceToNat, eq_self, rulesT, rulesD, Way.g0, Way.g1, Way.len, Way.all, Way.take, Way.drop, Way.sall, *]
              | (refine allK_intro fun n hn => ?_; try simp only [fresh_set] at hn)
              | (refine ifK_intro (fun h => ?_) (fun h => ?_) <;> (try simp only [rulesE] at h) <;> try (exfalso; (try simp only [rulesF] at h); omega))
              | (refine keeps_sub (Mem.sub_set ?_) ?_; focus (simp [Mem.set_at, nomem, *]; done))
            have dA := apart hmA hn
            have dB' := apart hmB hn
            repeat' first
              | simp -dsimp (disch := omega) only [↓rulesA, rulesB, rulesC, Int.reduceLT, nth, upd, put, storeN, AV.one, Nat.reduceBEq, Nat.reduceBNe, Int.reduceBEq, Int.reduceBNe, Int.reduceLE, Int.reduceEq, Int.reduceMod, Int.reduceNeg, boolBin, strBin, intBin, unA, fillA, ne_eq, reduceCtorEq, Nat.reduceAdd, Nat.reduceSub, Nat.reduceLeDiff, Nat.reduceLT, Nat.reduceEqDiff, Int.reduceToNat, eq_self, rulesT, rulesD, Way.g0, Way.g1, Way.len, Way.all, Way.take, Way.drop, Way.sall, *]
              | (refine allK_intro fun n hn => ?_; try simp only [fresh_set] at hn)
              | (refine ifK_intro (fun h => ?_) (fun h => ?_) <;> (try simp only [rulesE] at h) <;> try (exfalso; (try simp only [rulesF] at h); omega))
              | (refine keeps_sub (Mem.sub_set ?_) ?_; focus (simp [Mem.set_at, nomem, *]; done))
            refine call_seen c21 (nomem_sub _) (.cons (hF.seen fun z bb hz => ?_) (Seens.refl _ _)) (fun r m' h => h.clean) fun r m1 M1 hres s1 l1 => ?_
            · rw [Mem.rest_none rfl]; exact Mem.sub_set hn _ _ (hmg _ _ hz)
            obtain ⟨x', rfl, _, hF'⟩ := hres
            obtain ⟨N', L', cN', cL', oN', oL', rN', rL', hne', rfl, _⟩ := hF'.at
            obtain ⟨kA, lA⟩ := l1 A _ rfl (show (m.set n _) A = some _ by rw [Mem.set_ne _ _ dA.1]; exact hmA)
            obtain ⟨kB, lB⟩ := l1 B _ rfl (show (m.set n _) B = some _ by rw [Mem.set_ne _ _ dB'.1]; exact hmB)
            clear l1 c21 hmA hmB hmg hF
            rw [show cutF p.1 ⟨d.from_, d.to_⟩ = cutF p.1 d from rfl] at hF' ⊢
            have hpp : Kept (isoP p d = ((cutF p.1 d).1, p.2 + (cutF p.1 d).2)) := rfl
            have hl3 : (isoP p d).2 = p.2 + (cutF p.1 d).2 := rfl
            rw [show (cutF p.1 d).1 = (isoP p d).1 from rfl] at hF'
            generalize isoP p d = P at *
            generalize (cutF p.1 d).2 = cc at *
            have hnx : (cutF p.1 d).1.next = P.1.next := by rw [(hpp : _ = _)]
            have hnl : (cutF p.1 d).1.list.length = P.1.list.length := by rw [(hpp : _ = _)]
            have hnc : (cutF p.1 d).1.cut.length = P.1.cut.length := by rw [(hpp : _ = _)]
            repeat' first
              | simp -dsimp (disch := omega) only [↓rulesA, rulesB, rulesC, Int.reduceLT, nth, upd, put, storeN, AV.one, Nat.reduceBEq, Nat.reduceBNe, Int.reduceBEq, Int.reduceBNe, Int.reduceLE, Int.reduceEq, Int.reduceMod, Int.reduceNeg, boolBin, strBin, intBin, unA, fillA, ne_eq, reduceCtorEq, Nat.reduceAdd, Nat.reduceSub, Nat.reduceLeDiff, Nat.reduceLT, Nat.reduceEqDiff, Int.reduceToNat, eq_self, rulesT, rulesD, Way.g0, Way.g1, Way.len, Way.all, Way.take, Way.drop, Way.sall, *]
              | (refine allK_intro fun n hn => ?_; try simp only [fresh_set] at hn)
              | (refine ifK_intro (fun h => ?_) (fun h => ?_) <;> (try simp only [rulesE] at h) <;> try (exfalso; (try simp only [rulesF] at h); omega))
              | (refine keeps_sub (Mem.sub_set ?_) ?_; focus (simp [Mem.set_at, nomem, *]; done))
            refine again_intro (2 - (w + 1)) (by omega) ((m1.set A (.cells false 25 [.val (.int .i64 P.1.next), .sl N' 0 P.1.list.length cN', .sl L' 0 P.1.cut.length cL'])).set B (.cells false 25 zeroC)) ?_ ⟨w + 1, P, by omega, rfl, (hpW : _ = _).symm, hp', ⟨_, _, m1, hF', rfl, rfl, kA, kB, hAB, rfl⟩, ?_, ?_, ?_, ?_, ?_, ?_, ?_, ?_, ?_, ?_, ?_, ?_, ?_, ?_, ?_⟩
            · exact Mem.set_sub (Mem.set_mono s1) (by rw [Mem.set_ne _ _ hBA]; exact lB)
            all_goals try (simp (disch := omega) only [nth_upd, pickB_true, pickB_false, inB_lt, upd_len, cast_succ, Int.cast_ofNat_Int, Nat.reduceBEq, beq_self_eq_true, reduceCtorEq, *]; done)
          · have hw2' : w = 2 := by omega
            subst hw2'
            rw [← hwl, List.take_length] at ep
            have ep' : p = iso2 q xx yy := ep.trans (hw2 : _ = _)
            replace ep' : Kept (isoB s xx (b.take (k + 1)) = p) := by rw [ep']; exact hqB
            replace ep : Kept _ := ep
            replace hp : Kept _ := hp
            repeat' first
              | simp -dsimp (disch := omega) only [↓rulesA, rulesB, rulesC, Int.reduceLT, nth, upd, put, storeN, AV.one, Nat.reduceBEq, Nat.reduceBNe, Int.reduceBEq, Int.reduceBNe, Int.reduceLE, Int.reduceEq, Int.reduceMod, Int.reduceNeg, boolBin, strBin, intBin, unA, fillA, ne_eq, reduceCtorEq, Nat.reduceAdd, Nat.reduceSub, Nat.reduceLeDiff, Nat.reduceLT, Nat.reduceEqDiff, Int.reduceToNat, eq_self, rulesT, rulesD, *]
              | (refine allK_intro fun n hn => ?_; try simp only [fresh_set] at hn)
              | (refine ifK_intro (fun h => ?_) (fun h => ?_) <;> (try simp only [rulesE] at h) <;> try (exfalso; (try simp only [rulesF] at h); omega))
              | (refine keeps_sub (Mem.sub_set ?_) ?_; focus (simp [Mem.set_at, nomem, *]; done))
            refine again_intro (b.length - (k + 1)) (by omega) _ (Mem.sub.refl _) ⟨k + 1, p, by omega, rfl, (ep' : _ = _).symm, by rw [show f.cut.length + 2 * (i * b.length) + 2 * (k + 1) = f.cut.length + 2 * (i * b.length) + 2 * k + 2 by omega]; exact hp, hS, ?_, ?_, ?_, ?_, ?_, ?_, ?_, ?_, ?_, ?_, ?_, ?_⟩
            all_goals try (simp (disch := omega) only [nth_upd, pickB_true, pickB_false, inB_lt, upd_len, cast_succ, Int.cast_ofNat_Int, Nat.reduceBEq, beq_self_eq_true, reduceCtorEq, *]; done)
        all_goals all_goals try (simp (disch := omega) only [nth_upd, pickB_true, pickB_false, inB_lt, upd_len, cast_succ, Int.cast_ofNat_Int, Nat.reduceBEq, beq_self_eq_true, reduceCtorEq, *]; done)
      · have hkb' : k = b.length := by omega
        subst hkb'
        rw [List.take_length] at eq
        have eq' : Kept (isoA (f, 0) b (a.take (i + 1)) = q) := by rw [eq]; exact hsA
        replace eq : Kept _ := eq
        have hq' : Kept (Iso f (f.cut.length + 2 * ((i + 1) * b.length)) q) := by
          rw [show f.cut.length + 2 * ((i + 1) * b.length) = f.cut.length + 2 * (i * b.length) + 2 * b.length by rw [Nat.add_mul]; omega]; exact hq
        replace hq : Kept _ := hq
        repeat' first
          | simp -dsimp (disch := omega) only [↓rulesA, rulesB, rulesC, Int.reduceLT, nth, upd, put, storeN, AV.one, Nat.reduceBEq, Nat.reduceBNe, Int.reduceBEq, Int.reduceBNe, Int.reduceLE, Int.reduceEq, Int.reduceMod, Int.reduceNeg, boolBin, strBin, intBin, unA, fillA, ne_eq, reduceCtorEq, Nat.reduceAdd, Nat.reduceSub, Nat.reduceLeDiff, Nat.reduceLT, Nat.reduceEqDiff, Int.reduceToNat, eq_self, rulesT, rulesD, *]
          | (refine allK_intro fun n hn => ?_; try simp only [fresh_set] at hn)
          | (refine ifK_intro (fun h => ?_) (fun h => ?_) <;> (try simp only [rulesE] at h) <;> try (exfalso; (try simp only [rulesF] at h); omega))
          | (refine keeps_sub (Mem.sub_set ?_) ?_; focus (simp [Mem.set_at, nomem, *]; done))
        refine again_intro (a.length - (i + 1)) (by omega) _ (Mem.sub.refl _) ⟨i + 1, q, by omega, rfl, (eq' : _ = _).symm, hq', hS, ?_, ?_, ?_, ?_, ?_, ?_, ?_, ?_⟩
        all_goals try (simp (disch := omega) only [nth_upd, pickB_true, pickB_false, inB_lt, upd_len, cast_succ, Int.cast_ofNat_Int, Nat.reduceBEq, beq_self_eq_true, reduceCtorEq, *]; done)
    all_goals all_goals try (simp (disch := omega) only [nth_upd, pickB_true, pickB_false, inB_lt, upd_len, cast_succ, Int.cast_ofNat_Int, Nat.reduceBEq, beq_self_eq_true, reduceCtorEq, *]; done)
  · have hia' : i = a.length := by omega
    subst hia'
    rw [List.take_length] at es
    have hr : isoF f a b = s := es.symm
    rw [hr]
    clear hr
    replace es : Kept _ := es
    obtain ⟨va, ua, mg, hF, o1, o2, hgA, hgB, hAB, hm⟩ := hS
    obtain ⟨N', L', cN', cL', oN', oL', rN', rL', hne', ex, _⟩ := hF.at
    have hBA := Ne.symm hAB
    have hmA : m A = some (.cells false 25 [.val (.int .i64 s.1.next), va, ua]) := by rw [hm]; simp [Mem.set_at, *]
    have hmB : m B = some (.cells false 25 zeroC) := by rw [hm]; simp [Mem.set_at, *]
    have hmg : mg.sub m := by rw [hm]; exact (Mem.sub_set hgA).trans (Mem.sub_set (by simp [Mem.set_at, *]))
    clear hm
    injection ex with ex
    injection ex with _ ex
    injection ex with ex1 ex
    injection ex with ex2 _
    subst ex1 ex2
    unfold zeroC at hmB
    repeat' first
      | simp -dsimp (disch := omega) only [↓rulesA, rulesB, rulesC, Int.reduceLT, nth, upd, put, storeN, AV.one, Nat.reduceBEq, Nat.reduceBNe, Int.reduceBEq, Int.reduceBNe, Int.reduceLE, Int.reduceEq, Int.reduceMod, Int.reduceNeg, boolBin, strBin, intBin, unA, fillA, ne_eq, reduceCtorEq, Nat.reduceAdd, Nat.reduceSub, Nat.reduceLeDiff, Nat.reduceLT, Nat.reduceEqDiff, Int.reduceToNat, eq_self, rulesT, rulesD, *]
      | (refine allK_intro fun n hn => ?_; try simp only [fresh_set] at hn)
      | (refine ifK_intro (fun h => ?_) (fun h => ?_) <;> (try simp only [rulesE] at h) <;> try (exfalso; (try simp only [rulesF] at h); omega))
      | (refine keeps_sub (Mem.sub_set ?_) ?_; focus (simp [Mem.set_at, nomem, *]; done))
    exact .sub (m' := mg) (Mem.sub_set_new hmg hgB) ⟨_, rfl, rfl, hF⟩
theorem F24 (f : Fl) (x y : Bool) (a b : List Int) (u v : Bool) (hf : FitP f) (hc : f.cut.length + 2 * (a.length * b.length) ≤ 2000000000000) (ha : a.length ≤ 140737488355328) (hb : b.length ≤ 140737488355328) :
    F Try.prog 24 [.agg (f.rc x y), .vs (a.map intC) u, .vs (b.map intC) v] (res (isoF f a b).1 [.val (.int .i64 (isoF f a b).2)]) := F.of_C (C.mono (C24 f x y a b u v hf hc ha hb) fun r m' h => h.new)
end Go.Proofs.Ytdhbonjbjnodhaa

set_option maxRecDepth 100000
set_option maxHeartbeats 1000000
set_option linter.unusedSimpArgs false
set_option linter.unusedVariables false
namespace Go.Proofs.Ytdhbonjbjnodhaa
open Go.Abs
attribute [local irreducible] C X CC Y CV CW binK litK AppK PureC PureCV againK loopV rangeV allK ifK got onB condK V stepsK planK opK firstK seeE keepsK
theorem F6 (f : Fl) (a b : List Int) (i k : Int) (h1 : f.list.length * 40 ≤ 140737488351232) (h2 : f.cut.length * 16 ≤ 140737488351232) (hn : f.cut.length + a.length + b.length ≤ 1048576) : F Try.prog 6 [.agg (f.rc false false), .vs (a.map intC) false, .vs (b.map intC) false, .val (.int .i64 i), .val (.int .i64 k)] (.val (.bool true)) := by
  have f8 := F8 f false false (by omega)
  refine F6_of ?_
  unfold k6
  cases hf : fitB f with
  | false =>
    rw [hf] at f8
    repeat' first
      | simp -dsimp (disch := omega) only [↓rulesA, rulesB, rulesC, Int.reduceLT, nth, upd, put, storeN, AV.one, Nat.reduceBEq, Nat.reduceBNe, Int.reduceBEq, Int.reduceBNe, Int.reduceLE, Int.reduceEq, Int.reduceMod, Int.reduceNeg, boolBin, strBin, intBin, unA, fillA, ne_eq, reduceCtorEq, Nat.reduceAdd, Nat.reduceSub, Nat.reduceLeDiff, Nat.reduceLT, Nat.reduceEqDiff, Int.reduceToNat, eq_self, rulesT, rulesD, Fl.g0, Fl.g1, Fl.g2, Fl.len, Fl.all, Fl.take, Fl.drop, Fl.sall, *]
      | (refine allK_intro fun n hn => ?_; try simp only [fresh_set] at hn)
      | (refine ifK_intro (fun h => ?_) (fun h => ?_) <;> (try simp only [rulesE] at h) <;> try (exfalso; (try simp only [rulesF] at h); omega))
      | (refine keeps_sub (Mem.sub_set ?_) ?_; focus (simp [Mem.set_at, nomem, *]; done))
      | (refine call_F (f8) (Seens.refl _ _) ?_)
      | (refine pure_F (f8) (Seens.refl _ _) ?_)
      | (refine call_F (F9) (Seens.refl _ _) ?_)
      | (refine pure_F (F9) (Seens.refl _ _) ?_)
    exact .val
  | true =>
    rw [hf] at f8
    have hp := (fit_is hf).p
    have hab : a.length * b.length ≤ 524288 * 1048576 := by
      rcases Nat.lt_or_ge a.length 524289 with h | h
      · exact Nat.mul_le_mul (by omega) (by omega)
      · rw [Nat.mul_comm]; exact Nat.mul_le_mul (by omega) (by omega)
    have f24 := F24 f false false a b false false hp (by omega) (by omega) (by omega)
    obtain ⟨hI, hmono, hall⟩ := Iso.rows b a (iso_start hp)
    rw [show isoA (f, 0) b a = isoF f a b from rfl] at hI hmono hall
    generalize isoF f a b = s at *
    obtain ⟨g, c⟩ := s
    unfold res at f24
    dsimp only at f24 hI hmono hall
    have hIc := hI.cut
    have hIl := hI.len
    have hgf := hI.fit
    dsimp only at hIc hIl hgf
    have hgl := hgf.ln
    have f15 := F15 g false false (by omega)
    rw [hgf.fit.b] at f15
    have hl := hp.ln
    have f21 := F21 f false false i k hl (by omega) hp.fit.nodup hp.rise
    obtain ⟨kf, kc, _, _⟩ := cut_keeps hp ⟨i, k⟩
    have f21b := F21 (cutF f ⟨i, k⟩).1 false false i k kf.ln (by omega) kf.fit.nodup kf.rise
    rw [cut_again f ⟨i, k⟩] at f21b
    have f16 := F16 (cutF f ⟨i, k⟩).1 (cutF f ⟨i, k⟩).1 false false false false (by have := kf.ln; omega) (by omega)
    rw [sameB_self] at f16
    have f22 := F22 f false false i k hl (by omega) hp.fit.nodup
    have f22b := F22 (cutF f ⟨i, k⟩).1 false false i k kf.ln (by omega) kf.fit.nodup
    have hjc : i ≠ k → (joinF f ⟨i, k⟩).2 = false → (joinF (cutF f ⟨i, k⟩).1 ⟨i, k⟩).2 = true ∧ (joinF (cutF f ⟨i, k⟩).1 ⟨i, k⟩).1.cut.length = f.cut.length := fun h1 h2 => join_cut (w := ⟨i, k⟩) h1 h2
    generalize joinF f ⟨i, k⟩ = J at *
    generalize joinF (cutF f ⟨i, k⟩).1 ⟨i, k⟩ = U at *
    generalize cutF f ⟨i, k⟩ = Y at *
    obtain ⟨y, cy⟩ := Y
    obtain ⟨jf, jb⟩ := J
    obtain ⟨uf, ub⟩ := U
    unfold res at f21 f21b f22 f22b
    dsimp only at f21 f21b f22 f22b hjc f16
    have hfin : Kept (jb = true ∨ i = k ∨ (jb = false ∧ i ≠ k ∧ ub = true ∧ uf.cut.length = f.cut.length)) := by
      show _ ∨ _
      cases jb with
      | true => exact .inl rfl
      | false =>
        by_cases hik : i = k
        · exact .inr (.inl hik)
        · exact .inr (.inr ⟨rfl, hik, hjc hik rfl⟩)
    replace hI : Kept _ := hI
    replace hmono : Kept _ := hmono
    replace hp : Kept _ := hp
    replace hgf : Kept _ := hgf
    clear kf kc hjc
    by_cases hne : 0 < a.length ∧ 0 < b.length
    · obtain ⟨ha0, hb0⟩ := hne
      have wi : ∀ q : Int, 0 ≤ IntKind.u64.wrap q := fun q => by rw [IntKind.wrap_u64]; omega
      have rem : ∀ (q : Int) (n : Nat), 0 < n → n ≤ 1048576 → ∃ p : Nat, p < n ∧ (IntKind.u64.wrap q).tmod n = (p : Int) := fun q n h0 h1 => by
        have h2 := wi q
        refine ⟨((IntKind.u64.wrap q) % (n : Int)).toNat, ?_, ?_⟩
        · have := Int.emod_lt_of_pos (IntKind.u64.wrap q) (show (0 : Int) < n by omega)
          have := Int.emod_nonneg (IntKind.u64.wrap q) (show (n : Int) ≠ 0 by omega)
          omega
        · rw [Int.tmod_eq_emod_of_nonneg h2]
          have := Int.emod_nonneg (IntKind.u64.wrap q) (show (n : Int) ≠ 0 by omega)
          omega
      obtain ⟨pa, pa1, pa2⟩ := rem i a.length ha0 (by omega)
      obtain ⟨pb, pb1, pb2⟩ := rem k b.length hb0 (by omega)
      have xa := ix_37 a false .i64 pa (by omega) (by omega)
      have xb := ix_37 b false .i64 pb (by omega) (by omega)
      rw [Int.toNat_natCast] at xa xb
      have ma := getD_lt pa1
      have mb := getD_lt pb1
      generalize a.getD pa default = xx at *
      generalize b.getD pb default = yy at *
      have h19 := F19 g false false xx yy [] ⟨hgl, by omega, (hgf : FitP g).n0, (hgf : FitP g).n1⟩ (hgf : FitP g).fit.nodup
      have h19b := F19 g false false yy xx [] ⟨hgl, by omega, (hgf : FitP g).n0, (hgf : FitP g).n1⟩ (hgf : FitP g).fit.nodup
      have e0 : ((a.length : Int) = 0) = False := eq_false (by omega)
      have e1 : ((b.length : Int) = 0) = False := eq_false (by omega)
      have hcut : xx ≠ yy → putF g ⟨xx, yy⟩ [] = (g, 0, 40) ∧ putF g ⟨yy, xx⟩ [] = (g, 0, 40) := fun hn => by
        obtain ⟨z1, z2⟩ := hall xx ma yy mb hn
        exact ⟨put_cut z1 _, put_cut z2 _⟩
      clear hall wi rem
      by_cases hxy : xx = yy
      · subst hxy
        generalize putF g ⟨xx, xx⟩ [] = P at *
        obtain ⟨pf, pn, pe⟩ := P
        unfold res3 at h19 h19b
        dsimp only at h19 h19b
        clear hcut
        repeat' first
          | simp -dsimp (disch := omega) only [↓rulesA, rulesB, rulesC, Int.reduceLT, nth, upd, put, storeN, AV.one, Nat.reduceBEq, Nat.reduceBNe, Int.reduceBEq, Int.reduceBNe, Int.reduceLE, Int.reduceEq, Int.reduceMod, Int.reduceNeg, boolBin, strBin, intBin, unA, fillA, ne_eq, reduceCtorEq, Nat.reduceAdd, Nat.reduceSub, Nat.reduceLeDiff, Nat.reduceLT, Nat.reduceEqDiff, Int.reduceToNat, eq_self, rulesT, rulesD, Fl.g0, Fl.g1, Fl.g2, Fl.len, Fl.all, Fl.take, Fl.drop, Fl.sall, intC_0, pa2, pb2, e0, e1, *]
          | (refine allK_intro fun n hn => ?_; try simp only [fresh_set] at hn)
          | (refine ifK_intro (fun h => ?_) (fun h => ?_) <;> (try simp only [rulesE] at h) <;> try (exfalso; (try simp only [rulesF] at h); omega))
          | (refine keeps_sub (Mem.sub_set ?_) ?_; focus (simp [Mem.set_at, nomem, *]; done))
          | (refine call_F (f8) (Seens.refl _ _) ?_)
          | (refine pure_F (f8) (Seens.refl _ _) ?_)
          | (refine call_F (f24) (Seens.refl _ _) ?_)
          | (refine pure_F (f24) (Seens.refl _ _) ?_)
          | (refine call_F (f15) (Seens.refl _ _) ?_)
          | (refine pure_F (f15) (Seens.refl _ _) ?_)
          | (refine call_F (h19) (Seens.refl _ _) ?_)
          | (refine pure_F (h19) (Seens.refl _ _) ?_)
          | (refine call_F (h19b) (Seens.refl _ _) ?_)
          | (refine pure_F (h19b) (Seens.refl _ _) ?_)
          | (refine call_F (f21) (Seens.refl _ _) ?_)
          | (refine pure_F (f21) (Seens.refl _ _) ?_)
          | (refine call_F (f21b) (Seens.refl _ _) ?_)
          | (refine pure_F (f21b) (Seens.refl _ _) ?_)
          | (refine call_F (f16) (Seens.refl _ _) ?_)
          | (refine pure_F (f16) (Seens.refl _ _) ?_)
          | (refine call_F (f22) (Seens.refl _ _) ?_)
          | (refine pure_F (f22) (Seens.refl _ _) ?_)
          | (refine call_F (f22b) (Seens.refl _ _) ?_)
          | (refine pure_F (f22b) (Seens.refl _ _) ?_)
          | (refine call_F (F9) (Seens.refl _ _) ?_)
          | (refine pure_F (F9) (Seens.refl _ _) ?_)
        all_goals first
          | exact .val
          | (exfalso
             clear f8 f24 f15 f21 f21b f16 f22 f22b
             rcases (hfin : _ ∨ _ ∨ _) with h' | h' | ⟨h', h'', h3, h4⟩ <;> simp_all)
      · obtain ⟨z1, z2⟩ := hcut hxy
        rw [z1] at h19
        rw [z2] at h19b
        unfold res3 at h19 h19b
        dsimp only at h19 h19b
        clear hcut z1 z2
        repeat' first
          | simp -dsimp (disch := omega) only [↓rulesA, rulesB, rulesC, Int.reduceLT, nth, upd, put, storeN, AV.one, Nat.reduceBEq, Nat.reduceBNe, Int.reduceBEq, Int.reduceBNe, Int.reduceLE, Int.reduceEq, Int.reduceMod, Int.reduceNeg, boolBin, strBin, intBin, unA, fillA, ne_eq, reduceCtorEq, Nat.reduceAdd, Nat.reduceSub, Nat.reduceLeDiff, Nat.reduceLT, Nat.reduceEqDiff, Int.reduceToNat, eq_self, rulesT, rulesD, Fl.g0, Fl.g1, Fl.g2, Fl.len, Fl.all, Fl.take, Fl.drop, Fl.sall, intC_0, pa2, pb2, e0, e1, *]
          | (refine allK_intro fun n hn => ?_; try simp only [fresh_set] at hn)
          | (refine ifK_intro (fun h => ?_) (fun h => ?_) <;> (try simp only [rulesE] at h) <;> try (exfalso; (try simp only [rulesF] at h); omega))
          | (refine keeps_sub (Mem.sub_set ?_) ?_; focus (simp [Mem.set_at, nomem, *]; done))
          | (refine call_F (f8) (Seens.refl _ _) ?_)
          | (refine pure_F (f8) (Seens.refl _ _) ?_)
          | (refine call_F (f24) (Seens.refl _ _) ?_)
          | (refine pure_F (f24) (Seens.refl _ _) ?_)
          | (refine call_F (f15) (Seens.refl _ _) ?_)
          | (refine pure_F (f15) (Seens.refl _ _) ?_)
          | (refine call_F (h19) (Seens.refl _ _) ?_)
          | (refine pure_F (h19) (Seens.refl _ _) ?_)
          | (refine call_F (h19b) (Seens.refl _ _) ?_)
          | (refine pure_F (h19b) (Seens.refl _ _) ?_)
          | (refine call_F (f21) (Seens.refl _ _) ?_)
          | (refine pure_F (f21) (Seens.refl _ _) ?_)
          | (refine call_F (f21b) (Seens.refl _ _) ?_)
          | (refine pure_F (f21b) (Seens.refl _ _) ?_)
          | (refine call_F (f16) (Seens.refl _ _) ?_)
          | (refine pure_F (f16) (Seens.refl _ _) ?_)
          | (refine call_F (f22) (Seens.refl _ _) ?_)
          | (refine pure_F (f22) (Seens.refl _ _) ?_)
          | (refine call_F (f22b) (Seens.refl _ _) ?_)
          | (refine pure_F (f22b) (Seens.refl _ _) ?_)
          | (refine call_F (F9) (Seens.refl _ _) ?_)
          | (refine pure_F (F9) (Seens.refl _ _) ?_)
        all_goals first
          | exact .val
          | (exfalso
             clear f8 f24 f15 f21 f21b f16 f22 f22b
             rcases (hfin : _ ∨ _ ∨ _) with h' | h' | ⟨h', h'', h3, h4⟩ <;> simp_all)
    · have hne' : ¬ (0 : Int) < a.length ∨ (0 : Int) < a.length ∧ ¬ (0 : Int) < b.length := by omega
      clear hall
      rcases hne' with h | ⟨h, h'⟩
      all_goals
        repeat' first
          | simp -dsimp (disch := omega) only [↓rulesA, rulesB, rulesC, Int.reduceLT, nth, upd, put, storeN, AV.one, Nat.reduceBEq, Nat.reduceBNe, Int.reduceBEq, Int.reduceBNe, Int.reduceLE, Int.reduceEq, Int.reduceMod, Int.reduceNeg, boolBin, strBin, intBin, unA, fillA, ne_eq, reduceCtorEq, Nat.reduceAdd, Nat.reduceSub, Nat.reduceLeDiff, Nat.reduceLT, Nat.reduceEqDiff, Int.reduceToNat, eq_self, rulesT, rulesD, Fl.g0, Fl.g1, Fl.g2, Fl.len, Fl.all, Fl.take, Fl.drop, Fl.sall, *]
          | (refine allK_intro fun n hn => ?_; try simp only [fresh_set] at hn)
          | (refine ifK_intro (fun h => ?_) (fun h => ?_) <;> (try simp only [rulesE] at h) <;> try (exfalso; (try simp only [rulesF] at h); omega))
          | (refine keeps_sub (Mem.sub_set ?_) ?_; focus (simp [Mem.set_at, nomem, *]; done))
          | (refine call_F (f8) (Seens.refl _ _) ?_)
          | (refine pure_F (f8) (Seens.refl _ _) ?_)
          | (refine call_F (f24) (Seens.refl _ _) ?_)
          | (refine pure_F (f24) (Seens.refl _ _) ?_)
          | (refine call_F (f15) (Seens.refl _ _) ?_)
          | (refine pure_F (f15) (Seens.refl _ _) ?_)
          | (refine call_F (f21) (Seens.refl _ _) ?_)
          | (refine pure_F (f21) (Seens.refl _ _) ?_)
          | (refine call_F (f21b) (Seens.refl _ _) ?_)
          | (refine pure_F (f21b) (Seens.refl _ _) ?_)
          | (refine call_F (f16) (Seens.refl _ _) ?_)
          | (refine pure_F (f16) (Seens.refl _ _) ?_)
          | (refine call_F (f22) (Seens.refl _ _) ?_)
          | (refine pure_F (f22) (Seens.refl _ _) ?_)
          | (refine call_F (f22b) (Seens.refl _ _) ?_)
          | (refine pure_F (f22b) (Seens.refl _ _) ?_)
          | (refine call_F (F9) (Seens.refl _ _) ?_)
          | (refine pure_F (F9) (Seens.refl _ _) ?_)
        all_goals first
          | exact .val
          | (exfalso
             clear f8 f24 f15 f21 f21b f16 f22 f22b
             rcases (hfin : _ ∨ _ ∨ _) with h' | h' | ⟨h', h'', h3, h4⟩ <;> simp_all)
theorem wtR_vs (l : List (List AV)) (x : Bool) : l.length ≤ wt (.vs l x) := by simp only [wt]; exact wtR_len l
theorem apart_law : ∀ args, ShapedAll Try.prog Try.f6.params.toList args → wtL args ≤ 1048576 → F Try.prog 6 args (.val (.bool true)) := by
  intro args h hw
  have hp : Try.f6.params.toList = [25, 37, 37, 3, 3] := by kernel_rfl
  rw [hp] at h
  match args, h, hw with
  | [f, a, b, i, k], ⟨h0, h1, h2, h3, h4, _⟩, hw =>
    obtain ⟨f, rfl, l1, l2⟩ := fl_of h0
    obtain ⟨a, rfl, _⟩ := Shaped.ints ti_37 rfl ti_3 rfl rfl rfl (h1.one ti_37 rfl)
    obtain ⟨b, rfl, _⟩ := Shaped.ints ti_37 rfl ti_3 rfl rfl rfl (h2.one ti_37 rfl)
    obtain ⟨i, rfl, _⟩ := Shaped.i64 ti_3 rfl (h3.one ti_3 rfl)
    obtain ⟨k, rfl, _⟩ := Shaped.i64 ti_3 rfl (h4.one ti_3 rfl)
    refine F6 f a b i k l1 l2 ?_
    have w1 := wtR_vs (f.cut.map Way.cells) false
    have w2 := wtR_vs (a.map intC) false
    have w3 := wtR_vs (b.map intC) false
    rw [List.length_map] at w1 w2 w3
    simp only [wtL, wt, Fl.rc] at hw w1 w2 w3
    omega
end Go.Proofs.Ytdhbonjbjnodhaa
