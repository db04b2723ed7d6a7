/- Tables of pages: Same, the document's Same. -/
import Derived.Test.YtkfhdaimememiaaJ
set_option linter.unusedVariables false
set_option linter.unusedSimpArgs false
set_option linter.unusedSimpArgs false
set_option maxRecDepth 100000
set_option linter.unusedVariables false
set_option linter.unusedSimpArgs false
namespace Go.Proofs.Ytkfhdaimememiaa
open Go Go.Vm
theorem eqIs_all {P : Program} {g : V → V → Option Bool} {e : TypeId} {k : Nat} {xs ys : List V} {x y : Nat → V} {q : Nat → Prop} [∀ i, Decidable (q i)] : ∀ (is : List Nat), (∀ i ∈ is, partV P e xs (i * k) = some (x i) ∧ partV P e ys (i * k) = some (y i) ∧ g (x i) (y i) = some (decide (q i))) → eqIs P g e k xs ys is = some (decide (∀ i ∈ is, q i))
  | [], _ => by simp [eqIs]
  | i :: is, h => by
    obtain ⟨h1, h2, h3⟩ := h i (by simp)
    have ih := eqIs_all is fun j hj => h j (by simp [hj])
    unfold eqIs
    rw [h1, h2]
    simp only [h3]
    by_cases hq : q i
    · rw [decide_eq_true hq]
      simp only [ih]
      congr 1
      exact decide_eq_decide.2 ⟨fun h j hj => (List.mem_cons.1 hj).elim (fun e => by rw [e]; exact hq) (h j), fun h j hj => h j (by simp [hj])⟩
    · rw [decide_eq_false hq]
      show some false = _
      congr 1
      exact (decide_eq_false fun h => hq (h i (by simp))).symm
def ceL (x : Ce) : List V := [.bool x.isSome, .int .i64 x.f, .int .i64 x.r, .bool x.t, .bool x.w]
theorem ceL_inj {x y : Ce} : ceL x = ceL y ↔ x = y := by
  refine ⟨fun h => ?_, fun h => by rw [h]⟩
  cases x with
  | none => cases y with
    | none => rfl
    | some b => simp [ceL] at h
  | some a => cases y with
    | none => simp [ceL] at h
    | some b =>
      obtain ⟨a1, a2, a3, a4⟩ := a
      obtain ⟨b1, b2, b3, b4⟩ := b
      simp [ceL, Ce.f, Ce.r, Ce.t, Ce.w] at h
      simp [h]
theorem beqI (a b : Int) : (a == b) = decide (a = b) := by by_cases h : a = b <;> simp [h]
theorem beqB (a b : Bool) : (a == b) = decide (a = b) := by cases a <;> cases b <;> rfl
theorem eq_34 (d : Nat) (f f' r r' : Int) (t t' w w' : Bool) : eqD Try.prog (d + 2) 34 (.agg [.int .i64 f, .int .i64 r, .bool t, .bool w]) (.agg [.int .i64 f', .int .i64 r', .bool t', .bool w']) = some (decide (f = f' ∧ r = r' ∧ t = t' ∧ w = w')) := by
  have e : eqD Try.prog (d + 2) 34 (.agg [.int .i64 f, .int .i64 r, .bool t, .bool w]) (.agg [.int .i64 f', .int .i64 r', .bool t', .bool w']) = (match (f == f') with | true => (match (r == r') with | true => (match (t == t') with | true => (match (w == w') with | true => some true | false => some false) | false => some false) | false => some false) | false => some false) := by kernel_rfl
  rw [e, beqI f f', beqI r r', beqB t t', beqB w w']
  by_cases h1 : f = f'
  · by_cases h2 : r = r'
    · by_cases h3 : t = t'
      · by_cases h4 : w = w'
        · rw [decide_eq_true h1, decide_eq_true h2, decide_eq_true h3, decide_eq_true h4]; exact congrArg some (decide_eq_true ⟨h1, h2, h3, h4⟩).symm
        · rw [decide_eq_true h1, decide_eq_true h2, decide_eq_true h3, decide_eq_false h4]; exact congrArg some (decide_eq_false fun h => h4 h.2.2.2).symm
      · rw [decide_eq_true h1, decide_eq_true h2, decide_eq_false h3]; exact congrArg some (decide_eq_false fun h => h3 h.2.2.1).symm
    · rw [decide_eq_true h1, decide_eq_false h2]; exact congrArg some (decide_eq_false fun h => h2 h.2.1).symm
  · rw [decide_eq_false h1]; exact congrArg some (decide_eq_false fun h => h1 h.1).symm
theorem eq_59 (d : Nat) (x y : Ce) : eqD Try.prog (d + 3) 59 (.agg (ceL x)) (.agg (ceL y)) = some (decide (x = y)) := by
  have e : ∀ (i i' : Bool) (f f' r r' : Int) (t t' w w' : Bool), eqD Try.prog (d + 3) 59 (.agg [.bool i, .int .i64 f, .int .i64 r, .bool t, .bool w]) (.agg [.bool i', .int .i64 f', .int .i64 r', .bool t', .bool w']) = (match (i == i') with | true => (match eqD Try.prog (d + 2) 34 (.agg [.int .i64 f, .int .i64 r, .bool t, .bool w]) (.agg [.int .i64 f', .int .i64 r', .bool t', .bool w']) with | some true => some true | some false => some false | none => none) | false => some false) := fun i i' f f' r r' t t' w w' => by kernel_rfl
  have e1 := e x.isSome y.isSome x.f y.f x.r y.r x.t y.t x.w y.w
  rw [show V.agg (ceL x) = .agg [.bool x.isSome, .int .i64 x.f, .int .i64 x.r, .bool x.t, .bool x.w] from rfl, show V.agg (ceL y) = .agg [.bool y.isSome, .int .i64 y.f, .int .i64 y.r, .bool y.t, .bool y.w] from rfl, e1, eq_34]
  have key : x = y ↔ x.isSome = y.isSome ∧ x.f = y.f ∧ x.r = y.r ∧ x.t = y.t ∧ x.w = y.w := by rw [← ceL_inj]; simp [ceL]
  rw [beqB]
  by_cases h1 : x.isSome = y.isSome
  · by_cases h2 : x.f = y.f ∧ x.r = y.r ∧ x.t = y.t ∧ x.w = y.w
    · rw [decide_eq_true h1, decide_eq_true h2]; exact congrArg some (decide_eq_true (key.2 ⟨h1, h2⟩)).symm
    · rw [decide_eq_true h1, decide_eq_false h2]; exact congrArg some (decide_eq_false fun h => h2 (key.1 h).2).symm
  · rw [decide_eq_false h1]; exact congrArg some (decide_eq_false fun h => h1 (key.1 h).1).symm
def sameT (T T' : Tb) : Prop := ∀ s ∈ List.range 16, ∀ p ∈ List.range 32, T s p = T' s p
instance (T T' : Tb) : Decidable (sameT T T') := by unfold sameT; infer_instance
theorem part_at {c : Blk} {e sz n o : Nat} (ha : aggV Try.prog e = some true) (hs : szV Try.prog e = some sz) {i : Nat} (hi : i * sz + sz ≤ n) : partV Try.prog e (c.gets o n) (i * sz) = some (.agg (c.gets (o + i * sz) sz)) := by
  simp only [partV, ha, hs]
  rw [gets_drop _ _ _ (by omega), gets_take _ _ _ (by omega)]
theorem cell_gets {c : Blk} {o : Nat} {x : Ce} (h : CellAt c o x) : c.gets o 5 = ceL x := by
  obtain ⟨c0, c1, c2, c3, c4⟩ := h
  unfold ceL
  rw [← c0, ← c1, ← c2, ← c3, ← c4]
  rfl
theorem eqD_60 (d : Nat) (xs ys : List V) : eqD Try.prog (d + 1) 60 (.agg xs) (.agg ys) = eqIs Try.prog (eqD Try.prog d 59) 59 5 xs ys (List.range 32) := by kernel_rfl
theorem eqD_61 (d : Nat) (xs ys : List V) : eqD Try.prog (d + 1) 61 (.agg xs) (.agg ys) = eqIs Try.prog (eqD Try.prog d 60) 60 160 xs ys (List.range 16) := by kernel_rfl
theorem eq_61 {c c' : Blk} {T T' : Tb} (h : CellsAt c T) (h' : CellsAt c' T') : eqD Try.prog 10 61 (.agg (c.gets 0 2560)) (.agg (c'.gets 0 2560)) = some (decide (sameT T T')) := by
  rw [eqD_61]
  refine eqIs_all (x := fun s => .agg (c.gets (0 + s * 160) 160)) (y := fun s => .agg (c'.gets (0 + s * 160) 160)) (q := fun s => ∀ p ∈ List.range 32, T s p = T' s p) _ fun s hs => ?_
  have hs := List.mem_range.1 hs
  refine ⟨part_at ag_60 sz_60 (by omega), part_at ag_60 sz_60 (by omega), ?_⟩
  rw [eqD_60]
  refine eqIs_all (x := fun p => .agg (c.gets (0 + s * 160 + p * 5) 5)) (y := fun p => .agg (c'.gets (0 + s * 160 + p * 5) 5)) (q := fun p => T s p = T' s p) _ fun p hp => ?_
  have hp := List.mem_range.1 hp
  refine ⟨part_at ag_59 sz_59 (by omega), part_at ag_59 sz_59 (by omega), ?_⟩
  rw [Nat.zero_add, cell_gets (h s p hs hp), cell_gets (h' s p hs hp)]
  exact eq_59 5 _ _
theorem eg_61 : Try.prog.eqGuardType Try.prog.depth 61 = false := by kernel_rfl
theorem eg_87 : Try.prog.eqGuardType Try.prog.depth 87 = false := by kernel_rfl
set_option maxHeartbeats 1000000 in
theorem same_ok {h : Heap} {R W : Set'} {ta ra tb rb : Nat} {T T' : Tb} (ha : TabAt h ta ra T) (hb : TabAt h tb rb T') (hR : ∀ b, R b) :
    SF Try.prog 15 [.ptr (some (ta, 0)), .ptr (some (tb, 0))] h R W fun v h' => v = .bool (decide (sameT T T')) ∧ h' = h := by
  refine SF.go hm Try.func15 ir15_eq ?_
  simp -implicitDefEqProofs (disch := (first | omega | (simp -implicitDefEqProofs only [szs, ne_eq] <;> omega) | fail)) only [go_sem, Nat.reduceAdd, Nat.reduceSub, Nat.reduceMul, Nat.reduceLT, Nat.reduceMod, Nat.reduceDiv, Nat.reduceEqDiff, Nat.reduceBEq, Nat.reduceLeDiff, ↓reduceIte, reduceCtorEq, Int.reduceAdd, Int.reduceSub, Int.reduceLT, Int.reduceLE, Int.reduceBEq, Int.reduceEq, Int.reduceToNat, ir15]
  refine GCall.of (there_ok ha (.inr (hR _))) ?_
  rintro v h1 ⟨rfl, rfl⟩
  simp -implicitDefEqProofs (disch := (first | omega | (simp -implicitDefEqProofs only [szs, ne_eq] <;> omega) | fail)) only [go_sem, Nat.reduceAdd, Nat.reduceSub, Nat.reduceMul, Nat.reduceLT, Nat.reduceMod, Nat.reduceDiv, Nat.reduceEqDiff, Nat.reduceBEq, Nat.reduceLeDiff, ↓reduceIte, reduceCtorEq, Int.reduceAdd, Int.reduceSub, Int.reduceLT, Int.reduceLE, Int.reduceBEq, Int.reduceEq, Int.reduceToNat, undefV]
  refine GCall.of (there_ok hb (.inr (hR _))) ?_
  rintro v h2 ⟨rfl, rfl⟩
  obtain ⟨c, t1, t2, t3, t4, t5⟩ := ha.t
  obtain ⟨c', t1', t2', t3', t4', t5'⟩ := hb.t
  have hR1 := hR ta
  have hR2 := hR tb
  have heq := eq_61 t4 t4'
  obtain ⟨L, hL⟩ : ∃ L, c.gets 0 2560 = L := ⟨_, rfl⟩
  obtain ⟨L', hL'⟩ : ∃ L, c'.gets 0 2560 = L := ⟨_, rfl⟩
  rw [hL, hL'] at heq
  simp -implicitDefEqProofs (disch := (first | omega | (simp -implicitDefEqProofs only [szs, ne_eq] <;> omega) | fail)) only [go_sem, Nat.reduceAdd, Nat.reduceSub, Nat.reduceMul, Nat.reduceLT, Nat.reduceMod, Nat.reduceDiv, Nat.reduceEqDiff, Nat.reduceBEq, Nat.reduceLeDiff, ↓reduceIte, reduceCtorEq, Int.reduceAdd, Int.reduceSub, Int.reduceLT, Int.reduceLE, Int.reduceBEq, Int.reduceEq, Int.reduceToNat, undefV, t1, t2, t1', t2', hR1, hR2, ↓hL, ↓hL', ↓eg_61, heq]
theorem eqD_87 (d : Nat) (xs ys : List V) : eqD Try.prog (d + 1) 87 (.agg xs) (.agg ys) = (match partV Try.prog 85 xs 0, partV Try.prog 85 ys 0 with
  | some a, some b => (match eqD Try.prog d 85 a b with
    | some true => some true
    | some false => some false
    | none => none)
  | _, _ => none) := by kernel_rfl
theorem eq_83 (d : Nat) (x y : Ce) : eqD Try.prog (d + 3) 83 (.agg (ceL x)) (.agg (ceL y)) = some (decide (x = y)) := by
  have e : ∀ (i i' : Bool) (f f' r r' : Int) (t t' w w' : Bool), eqD Try.prog (d + 3) 83 (.agg [.bool i, .int .i64 f, .int .i64 r, .bool t, .bool w]) (.agg [.bool i', .int .i64 f', .int .i64 r', .bool t', .bool w']) = eqD Try.prog (d + 3) 59 (.agg [.bool i, .int .i64 f, .int .i64 r, .bool t, .bool w]) (.agg [.bool i', .int .i64 f', .int .i64 r', .bool t', .bool w']) := fun i i' f f' r r' t t' w w' => by kernel_rfl
  exact (e x.isSome y.isSome x.f y.f x.r y.r x.t y.t x.w y.w).trans (eq_59 d x y)
theorem eqD_84 (d : Nat) (xs ys : List V) : eqD Try.prog (d + 1) 84 (.agg xs) (.agg ys) = eqIs Try.prog (eqD Try.prog d 83) 83 5 xs ys (List.range 32) := by kernel_rfl
theorem eqD_85 (d : Nat) (xs ys : List V) : eqD Try.prog (d + 1) 85 (.agg xs) (.agg ys) = eqIs Try.prog (eqD Try.prog d 84) 84 160 xs ys (List.range 16) := by kernel_rfl
theorem ag_84 : aggV Try.prog 84 = some true := by kernel_rfl
theorem ag_85 : aggV Try.prog 85 = some true := by kernel_rfl
theorem sz_84 : szV Try.prog 84 = some 160 := by kernel_rfl
theorem sz_85 : szV Try.prog 85 = some 2560 := by kernel_rfl
theorem eq_87 {c c' : Blk} {T T' : Tb} (h : CellsAt c T) (h' : CellsAt c' T') : eqD Try.prog 10 87 (.agg (c.gets 0 2560)) (.agg (c'.gets 0 2560)) = some (decide (sameT T T')) := by
  have p1 := part_at (c := c) (o := 0) (n := 2560) (i := 0) ag_85 sz_85 (by omega)
  have p2 := part_at (c := c') (o := 0) (n := 2560) (i := 0) ag_85 sz_85 (by omega)
  rw [Nat.zero_mul, Nat.add_zero] at p1 p2
  rw [eqD_87, p1, p2]
  have e : eqIs Try.prog (eqD Try.prog 8 84) 84 160 (c.gets 0 2560) (c'.gets 0 2560) (List.range 16) = some (decide (sameT T T')) := by
    refine eqIs_all (x := fun s => .agg (c.gets (0 + s * 160) 160)) (y := fun s => .agg (c'.gets (0 + s * 160) 160)) (q := fun s => ∀ p ∈ List.range 32, T s p = T' s p) _ fun s hs => ?_
    have hs := List.mem_range.1 hs
    refine ⟨part_at ag_84 sz_84 (by omega), part_at ag_84 sz_84 (by omega), ?_⟩
    rw [eqD_84]
    refine eqIs_all (x := fun p => .agg (c.gets (0 + s * 160 + p * 5) 5)) (y := fun p => .agg (c'.gets (0 + s * 160 + p * 5) 5)) (q := fun p => T s p = T' s p) _ fun p hp => ?_
    have hp := List.mem_range.1 hp
    refine ⟨part_at ag_83 sz_83 (by omega), part_at ag_83 sz_83 (by omega), ?_⟩
    rw [Nat.zero_add, cell_gets (h s p hs hp), cell_gets (h' s p hs hp)]
    exact eq_83 4 _ _
  show (match eqD Try.prog 9 85 (.agg (c.gets 0 2560)) (.agg (c'.gets 0 2560)) with
    | some true => some true
    | some false => some false
    | none => none) = _
  rw [eqD_85, e]
  cases decide (sameT T T') <;> rfl
set_option maxHeartbeats 1000000 in
theorem rsame_ok {h : Heap} {R W : Set'} {ra rb : Nat} {T T' : Tb} (ha : RefP h ra T) (hb : RefP h rb T') (hR : ∀ b, R b) :
    SF Try.prog 16 [.ptr (some (ra, 0)), .ptr (some (rb, 0))] h R W fun v h' => v = .bool (decide (sameT T T')) ∧ h' = h := by
  obtain ⟨c, t1, t2, t3, t4⟩ := ha.t
  obtain ⟨c', t1', t2', t3', t4'⟩ := hb.t
  have hR1 := hR ra
  have hR2 := hR rb
  have heq := eq_87 t4 t4'
  obtain ⟨L, hL⟩ : ∃ L, c.gets 0 2560 = L := ⟨_, rfl⟩
  obtain ⟨L', hL'⟩ : ∃ L, c'.gets 0 2560 = L := ⟨_, rfl⟩
  rw [hL, hL'] at heq
  refine SF.go hm Try.func16 ir16_eq ?_
  simp -implicitDefEqProofs (disch := (first | omega | (simp -implicitDefEqProofs only [szs, ne_eq] <;> omega) | fail)) only [go_sem, Nat.reduceAdd, Nat.reduceSub, Nat.reduceMul, Nat.reduceLT, Nat.reduceMod, Nat.reduceDiv, Nat.reduceEqDiff, Nat.reduceBEq, Nat.reduceLeDiff, ↓reduceIte, reduceCtorEq, Int.reduceAdd, Int.reduceSub, Int.reduceLT, Int.reduceLE, Int.reduceBEq, Int.reduceEq, Int.reduceToNat, ir16, undefV, t1, t2, t1', t2', hR1, hR2, ↓hL, ↓hL', ↓eg_87, heq]
/-- A table's cells and its map, put together. -/
theorem putL_get (vs : List V) : ∀ (l : List V) (off : Nat), off + vs.length ≤ l.length → ∀ i, (putL l off vs)[i]? = if off ≤ i ∧ i < off + vs.length then vs[i - off]? else l[i]? := by
  induction vs with
  | nil => intro l off h i; rw [if_neg (by simp only [List.length_nil]; omega)]; rfl
  | cons v r ih =>
    intro l off h i
    simp only [List.length_cons] at h ⊢
    show (putL (l.set off v) (off + 1) r)[i]? = _
    rw [ih _ _ (by rw [List.length_set]; omega)]
    by_cases h1 : off + 1 ≤ i ∧ i < off + 1 + r.length
    · rw [if_pos h1, if_pos (by omega), show i - off = (i - (off + 1)) + 1 by omega]; rfl
    · rw [if_neg h1]
      by_cases h2 : i = off
      · subst h2
        rw [if_pos (by omega), List.getElem?_set_self (by omega), Nat.sub_self]; rfl
      · rw [if_neg (by omega), List.getElem?_set_ne (by omega)]
theorem built_64 (L : List V) (hL : L.length = 2560) (m : Nat) : builtV Try.prog 64 [(0, .agg L), (1, .map (some m))] = some (L ++ [.map (some m)]) := by
  rw [bz_64]
  have z := zcl_64
  show (if L.length = 2560 ∧ 0 + 2560 ≤ zc_64.length then fillV _ (putL zc_64 0 L) [(1, .map (some m))] else none) = _
  rw [if_pos ⟨hL, by omega⟩]
  show (if ([V.map (some m)] : List V).length = 1 ∧ 2560 + 1 ≤ (putL zc_64 0 L).length then some (putL (putL zc_64 0 L) 2560 [.map (some m)]) else none) = _
  rw [if_pos ⟨rfl, by rw [length_putL]; omega⟩]
  congr 1
  apply List.ext_getElem?
  intro i
  rw [putL_get _ _ _ (by rw [length_putL]; simp; omega), putL_get _ _ _ (by omega)]
  simp only [List.length_cons, List.length_nil, Nat.zero_le, true_and, Nat.zero_add, Nat.sub_zero]
  by_cases h1 : i < 2560
  · rw [if_neg (by omega), if_pos (by omega), List.getElem?_append_left (by omega)]
  · by_cases h2 : i = 2560
    · subst h2
      rw [if_pos (by omega), List.getElem?_append_right (by omega), hL]
    · rw [if_neg (by omega), if_neg (by omega), List.getElem?_eq_none (by omega), List.getElem?_eq_none (by simp; omega)]
theorem getP_perm {l es : Ents} {ck : Nat} (hp : PMap es ck) (hl : l.Perm es) (k : Int × Int) : getP l k = getP es k := by
  have hk : (l.map fun e => keyP e.1).Nodup := ((hl.map _).nodup_iff).2 hp.keys
  cases h : getP es k with
  | none =>
    cases h' : getP l k with
    | none => rfl
    | some v =>
      obtain ⟨e, he, hek⟩ := getP_mem h'
      exact absurd hek (getP_none h e (hl.mem_iff.1 he))
  | some v =>
    obtain ⟨e, he, hek⟩ := getP_mem h
    have h1 := getP_of_mem hp.keys he
    rw [hek, h] at h1
    have h2 := getP_of_mem hk (hl.mem_iff.2 he)
    rw [hek] at h2
    rw [h2, h1]
end Go.Proofs.Ytkfhdaimememiaa
