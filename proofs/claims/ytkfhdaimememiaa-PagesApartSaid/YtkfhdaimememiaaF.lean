/- Tables of pages: the document's Pages, Share, Drop; Drop; SameInts. -/
import Derived.Test.YtkfhdaimememiaaE
set_option linter.unusedVariables false
set_option linter.unusedSimpArgs false
set_option linter.unusedSimpArgs false
set_option maxRecDepth 100000
set_option linter.unusedVariables false
set_option linter.unusedSimpArgs false
namespace Go.Proofs.Ytkfhdaimememiaa
open Go Go.Vm
theorem ap_76 : apT Try.prog 76 76 = some (3, 1, 8) := by kernel_rfl
/-- The pages of a space, rising. -/
def pgsL (T : Tb) (s n : Nat) : List Nat := (List.range n).filter fun b => (T s b).isSome
theorem pgsL_none {T : Tb} {s p : Nat} (h : T s p = none) : pgsL T s (p + 1) = pgsL T s p := by
  unfold pgsL
  rw [List.range_succ, List.filter_append]
  simp [List.filter_cons, h]
theorem pgsL_some {T : Tb} {s p : Nat} {e : En} (h : T s p = some e) : pgsL T s (p + 1) = pgsL T s p ++ [p] := by
  unfold pgsL
  rw [List.range_succ, List.filter_append]
  simp [List.filter_cons, h]
theorem pgsL_len (T : Tb) (s n : Nat) : (pgsL T s n).length = cntU T s n := rfl
theorem pgsL_mem {T : Tb} {s n p : Nat} : p ∈ pgsL T s n ↔ p < n ∧ (T s p).isSome := by
  unfold pgsL
  rw [List.mem_filter, List.mem_range]
def pgs (T : Tb) (s : Int) : List Nat := if okS s then pgsL T s.toNat 32 else []
def natV (l : List Nat) : List V := l.map fun (n : Nat) => .int .i64 n
theorem okSP0 (s : Int) : okSP s 0 ↔ okS s := ⟨fun h => h.1, fun h => ⟨h, by omega, by omega⟩⟩
theorem natV_snoc (l : List Nat) (p : Nat) : natV (l ++ [p]) = natV l ++ [.int .i64 p] := by simp [natV]
theorem natV_len (l : List Nat) : (natV l).length = l.length := by simp [natV]
set_option maxHeartbeats 1000000 in
theorem rpages_ok {h : Heap} {R W : Set'} {rd : Nat} {T : Tb} (hr : RefP h rd T) (hR : ∀ b, R b) (s : Int) :
    SF Try.prog 52 [.ptr (some (rd, 0)), .int .i64 s] h R W fun v h' => Own h.n h' v (natV (pgs T s)) 3 ∧ h.n ≤ h'.n ∧ ∀ b, b < h.n → h'.get b = h.get b := by
  obtain ⟨c, c1, c2, c3, c4⟩ := hr.t
  have hlt := hr.lt
  have hRr := hR rd
  refine SF.go hm Try.func52 ir52_eq ?_
  simp -implicitDefEqProofs (disch := (first | omega | (simp -implicitDefEqProofs only [szs, ne_eq] <;> omega) | fail)) only [go_sem, Nat.reduceAdd, Nat.reduceSub, Nat.reduceMul, Nat.reduceLT, Nat.reduceMod, Nat.reduceDiv, Nat.reduceEqDiff, Nat.reduceBEq, Nat.reduceLeDiff, ↓reduceIte, reduceCtorEq, Int.reduceAdd, Int.reduceSub, Int.reduceLT, Int.reduceLE, Int.reduceBEq, Int.reduceEq, Int.reduceToNat, ir52]
  refine GLoop.inv hm (fun k f g => f.mks = [] ∧ f.tm.n = 33 ∧ f.tm.get 0 = some (.ptr (some (rd, 0))) ∧ f.tm.get 1 = some (.int .i64 s) ∧ h.n ≤ g.n ∧ (∀ b, b < h.n → g.get b = h.get b) ∧ ∃ (p : Nat) (lv : V), p + k = 32 ∧ f.tm.get 6 = some (.int .i64 p) ∧ f.tm.get 5 = some lv ∧ Own h.n g lv (natV (pgsL T s.toNat p)) 3 ∧ (p = 0 ∨ okS s)) 32 ?_ ?_
  · exact ⟨rfl, rfl, by simp -implicitDefEqProofs (disch := (first | omega | (simp -implicitDefEqProofs only [szs, ne_eq] <;> omega) | fail)) only [go_sem, Nat.reduceAdd, Nat.reduceSub, Nat.reduceMul, Nat.reduceLT, Nat.reduceMod, Nat.reduceDiv, Nat.reduceEqDiff, Nat.reduceBEq, Nat.reduceLeDiff, ↓reduceIte, reduceCtorEq, Int.reduceAdd, Int.reduceSub, Int.reduceLT, Int.reduceLE, Int.reduceBEq, Int.reduceEq, Int.reduceToNat], by simp -implicitDefEqProofs (disch := (first | omega | (simp -implicitDefEqProofs only [szs, ne_eq] <;> omega) | fail)) only [go_sem, Nat.reduceAdd, Nat.reduceSub, Nat.reduceMul, Nat.reduceLT, Nat.reduceMod, Nat.reduceDiv, Nat.reduceEqDiff, Nat.reduceBEq, Nat.reduceLeDiff, ↓reduceIte, reduceCtorEq, Int.reduceAdd, Int.reduceSub, Int.reduceLT, Int.reduceLE, Int.reduceBEq, Int.reduceEq, Int.reduceToNat], Nat.le_refl _, fun _ _ => rfl, 0, _, by omega, by simp -implicitDefEqProofs (disch := (first | omega | (simp -implicitDefEqProofs only [szs, ne_eq] <;> omega) | fail)) only [go_sem, Nat.reduceAdd, Nat.reduceSub, Nat.reduceMul, Nat.reduceLT, Nat.reduceMod, Nat.reduceDiv, Nat.reduceEqDiff, Nat.reduceBEq, Nat.reduceLeDiff, ↓reduceIte, reduceCtorEq, Int.reduceAdd, Int.reduceSub, Int.reduceLT, Int.reduceLE, Int.reduceBEq, Int.reduceEq, Int.reduceToNat]; rfl, by simp -implicitDefEqProofs (disch := (first | omega | (simp -implicitDefEqProofs only [szs, ne_eq] <;> omega) | fail)) only [go_sem, Nat.reduceAdd, Nat.reduceSub, Nat.reduceMul, Nat.reduceLT, Nat.reduceMod, Nat.reduceDiv, Nat.reduceEqDiff, Nat.reduceBEq, Nat.reduceLeDiff, ↓reduceIte, reduceCtorEq, Int.reduceAdd, Int.reduceSub, Int.reduceLT, Int.reduceLE, Int.reduceBEq, Int.reduceEq, Int.reduceToNat], Own.nil _ _ _, .inl rfl⟩
  rintro k ⟨⟨n', tr⟩, mks⟩ g ⟨hmk, hn', t0, u1, hgn, hgo, p, lv, hpk, t6, t5, ho, hz⟩
  simp only [Tm.get_mk] at hmk hn' t0 u1 t6 t5
  subst hmk hn'
  have c1' := (hgo rd hlt).trans c1
  by_cases hp : p < 32
  · simp -implicitDefEqProofs (disch := (first | omega | (simp -implicitDefEqProofs only [szs, ne_eq] <;> omega) | fail)) only [go_sem, Nat.reduceAdd, Nat.reduceSub, Nat.reduceMul, Nat.reduceLT, Nat.reduceMod, Nat.reduceDiv, Nat.reduceEqDiff, Nat.reduceBEq, Nat.reduceLeDiff, ↓reduceIte, reduceCtorEq, Int.reduceAdd, Int.reduceSub, Int.reduceLT, Int.reduceLE, Int.reduceBEq, Int.reduceEq, Int.reduceToNat, ir52_l0, t0, u1, t6, undefV]
    refine GCall.of (in_ok s 0) ?_
    rintro v g' ⟨rfl, rfl⟩
    by_cases hs : okS s
    · rw [decide_eq_true ((okSP0 s).2 hs)]
      obtain ⟨a, rfl⟩ : ∃ a : Nat, s = a := ⟨s.toNat, by unfold okS at hs; omega⟩
      have l1 : (a : Int) < ((16 : Nat) : Int) := by unfold okS at hs; omega
      have l2 : (p : Int) < ((32 : Nat) : Int) := by omega
      have l3 : (0 : Int) ≤ (a : Int) := by omega
      have l4 : (0 : Int) ≤ (p : Int) := by omega
      have hcell := c4 a p (by omega) hp
      have hb : a * 160 + p * 5 + 5 ≤ 2560 := by omega
      rw [Int.toNat_natCast] at ho
      obtain ⟨d0, d1, d2, d3, d4⟩ := hcell
      cases hT : T a p with
      | none =>
        rw [hT] at d0
        simp only [Option.isSome_none] at d0
        simp -implicitDefEqProofs (disch := (first | omega | (simp -implicitDefEqProofs only [szs, ne_eq] <;> omega) | fail)) only [go_sem, Nat.reduceAdd, Nat.reduceSub, Nat.reduceMul, Nat.reduceLT, Nat.reduceMod, Nat.reduceDiv, Nat.reduceEqDiff, Nat.reduceBEq, Nat.reduceLeDiff, ↓reduceIte, reduceCtorEq, Int.reduceAdd, Int.reduceSub, Int.reduceLT, Int.reduceLE, Int.reduceBEq, Int.reduceEq, Int.reduceToNat, t0, u1, t5, t6, undefV, l1, l2, l3, l4, c1', c2, d0, hRr]
        exact ⟨k - 1, by omega, hgn, hgo, p + 1, lv, by omega, by simp, rfl, by rw [pgsL_none hT]; exact ho, .inr hs⟩
      | some e =>
        rw [hT] at d0
        simp only [Option.isSome_some] at d0
        have hcl := cntU_le T a p
        obtain ⟨v2, g6, r2, w2, hap, o2, m2, k2, hw2, kk, ht⟩ := app_own (n0 := h.n) (h := g'.push (.cells (Blk.of [.int .i64 p]) 3)) (v := lv) (x := .slice (some (g'.n, 0)) 1 1 true) (l := natV (pgsL T a p)) (news := [.int .i64 p]) (rs := [g'.n]) (e := 3) (bytes := 8) (ho.old fun b hb => by rw [w_push_ne (by omega)]) (by simp; omega) rfl (first_one (e := 3) (w_push_eq rfl _)) rfl (by simp only [List.length_cons, List.length_nil, natV_len, pgsL_len]; omega) (by simp only [List.length_cons, List.length_nil, natV_len, pgsL_len]; omega)
        have hcv := o2.lr.cells
        have hon := o2.lr.one
        have hr2 : allB (fun b => h.n ≤ b ∨ R b) r2 := allB_of fun b _ => .inr (hR b)
        have hw2' : allB (fun b => h.n ≤ b ∨ W b) w2 := allB_of fun b hb => .inl (hw2 b hb)
        have m2' : g'.n + 1 ≤ g6.n := by simpa using m2
        simp -implicitDefEqProofs (disch := (first | omega | (simp -implicitDefEqProofs only [szs, ne_eq] <;> omega) | fail)) only [go_sem, Nat.reduceAdd, Nat.reduceSub, Nat.reduceMul, Nat.reduceLT, Nat.reduceMod, Nat.reduceDiv, Nat.reduceEqDiff, Nat.reduceBEq, Nat.reduceLeDiff, ↓reduceIte, reduceCtorEq, Int.reduceAdd, Int.reduceSub, Int.reduceLT, Int.reduceLE, Int.reduceBEq, Int.reduceEq, Int.reduceToNat, t0, u1, t5, t6, undefV, l1, l2, l3, l4, c1', c2, d0, hRr, appendV_of ap_76, hap, hr2, hw2', ↓hcv, ↓hon]
        exact ⟨k - 1, by omega, by omega, fun b hb => by rw [k2 b (by omega), w_push_ne (by omega)]; exact hgo b hb, p + 1, v2, by omega, by simp, rfl, by rw [pgsL_some hT, natV_snoc]; exact o2, .inr hs⟩
    · rw [decide_eq_false (fun h => hs ((okSP0 s).1 h))]
      simp -implicitDefEqProofs (disch := (first | omega | (simp -implicitDefEqProofs only [szs, ne_eq] <;> omega) | fail)) only [go_sem, Nat.reduceAdd, Nat.reduceSub, Nat.reduceMul, Nat.reduceLT, Nat.reduceMod, Nat.reduceDiv, Nat.reduceEqDiff, Nat.reduceBEq, Nat.reduceLeDiff, ↓reduceIte, reduceCtorEq, Int.reduceAdd, Int.reduceSub, Int.reduceLT, Int.reduceLE, Int.reduceBEq, Int.reduceEq, Int.reduceToNat, t0, u1, t5, t6, undefV]
      rw [pgs, if_neg hs]
      obtain rfl : p = 0 := hz.resolve_right hs
      exact ⟨ho, hgn, hgo⟩
  · obtain rfl : p = 32 := by omega
    have hs := hz.resolve_left (by omega)
    simp -implicitDefEqProofs (disch := (first | omega | (simp -implicitDefEqProofs only [szs, ne_eq] <;> omega) | fail)) only [go_sem, Nat.reduceAdd, Nat.reduceSub, Nat.reduceMul, Nat.reduceLT, Nat.reduceMod, Nat.reduceDiv, Nat.reduceEqDiff, Nat.reduceBEq, Nat.reduceLeDiff, ↓reduceIte, reduceCtorEq, Int.reduceAdd, Int.reduceSub, Int.reduceLT, Int.reduceLE, Int.reduceBEq, Int.reduceEq, Int.reduceToNat, ir52_l0, t0, u1, t6, t5, undefV]
    rw [pgs, if_pos hs]
    exact ⟨ho, hgn, hgo⟩
/-- A slice of whole numbers, whatever it is. -/
def intV (l : List Int) : List V := l.map (.int .i64)
theorem intV_len (l : List Int) : (intV l).length = l.length := by simp [intV]
theorem intV_snoc (l : List Int) (x : Int) : intV (l ++ [x]) = intV l ++ [.int .i64 x] := by simp [intV]
theorem same_step {a b : List Int} {p : Nat} (hl : a.length = b.length) (h : ∀ i, i < p → a[i]? = b[i]?) (hp : a.length ≤ p) : a = b := by
  apply List.ext_getElem?
  intro i
  by_cases hi : i < p
  · exact h i hi
  · rw [List.getElem?_eq_none (by omega), List.getElem?_eq_none (by omega)]
set_option maxHeartbeats 1000000 in
theorem sameints_ok {h : Heap} {R W S1 S2 : Set'} {v1 v2 : V} {a b : List Int} (h1 : LR h S1 v1 (intV a)) (h2 : LR h S2 v2 (intV b)) (hR : ∀ b, R b) (ha : a.length ≤ 1000000) (hb : b.length ≤ 1000000) :
    SF Try.prog 38 [v1, v2] h R W fun v h' => v = .bool (decide (a = b)) ∧ h' = h := by
  have hl1 := h1.lenV Try.underlying76
  have hl2 := h2.lenV Try.underlying76
  rw [intV_len] at hl1 hl2
  refine SF.go hm Try.func38 ir38_eq ?_
  by_cases hl : a.length = b.length
  · have hn : ((a.length : Int) != (b.length : Int)) = false := by simp [hl]
    simp -implicitDefEqProofs (disch := (first | omega | (simp -implicitDefEqProofs only [szs, ne_eq] <;> omega) | fail)) only [go_sem, Nat.reduceAdd, Nat.reduceSub, Nat.reduceMul, Nat.reduceLT, Nat.reduceMod, Nat.reduceDiv, Nat.reduceEqDiff, Nat.reduceBEq, Nat.reduceLeDiff, ↓reduceIte, reduceCtorEq, Int.reduceAdd, Int.reduceSub, Int.reduceLT, Int.reduceLE, Int.reduceBEq, Int.reduceEq, Int.reduceToNat, ir38, ↓hl1, ↓hl2, hn]
    refine GLoop.inv hm (fun k f g => f.mks = [] ∧ f.tm.n = 26 ∧ f.tm.get 0 = some v1 ∧ f.tm.get 1 = some v2 ∧ g = h ∧ ∃ (p : Nat), p + k = a.length ∧ f.tm.get 5 = some (.int .i64 p) ∧ ∀ i, i < p → a[i]? = b[i]?) a.length ?_ ?_
    · exact ⟨rfl, rfl, by simp -implicitDefEqProofs (disch := (first | omega | (simp -implicitDefEqProofs only [szs, ne_eq] <;> omega) | fail)) only [go_sem, Nat.reduceAdd, Nat.reduceSub, Nat.reduceMul, Nat.reduceLT, Nat.reduceMod, Nat.reduceDiv, Nat.reduceEqDiff, Nat.reduceBEq, Nat.reduceLeDiff, ↓reduceIte, reduceCtorEq, Int.reduceAdd, Int.reduceSub, Int.reduceLT, Int.reduceLE, Int.reduceBEq, Int.reduceEq, Int.reduceToNat], by simp -implicitDefEqProofs (disch := (first | omega | (simp -implicitDefEqProofs only [szs, ne_eq] <;> omega) | fail)) only [go_sem, Nat.reduceAdd, Nat.reduceSub, Nat.reduceMul, Nat.reduceLT, Nat.reduceMod, Nat.reduceDiv, Nat.reduceEqDiff, Nat.reduceBEq, Nat.reduceLeDiff, ↓reduceIte, reduceCtorEq, Int.reduceAdd, Int.reduceSub, Int.reduceLT, Int.reduceLE, Int.reduceBEq, Int.reduceEq, Int.reduceToNat], rfl, 0, by omega, by simp -implicitDefEqProofs (disch := (first | omega | (simp -implicitDefEqProofs only [szs, ne_eq] <;> omega) | fail)) only [go_sem, Nat.reduceAdd, Nat.reduceSub, Nat.reduceMul, Nat.reduceLT, Nat.reduceMod, Nat.reduceDiv, Nat.reduceEqDiff, Nat.reduceBEq, Nat.reduceLeDiff, ↓reduceIte, reduceCtorEq, Int.reduceAdd, Int.reduceSub, Int.reduceLT, Int.reduceLE, Int.reduceBEq, Int.reduceEq, Int.reduceToNat]; rfl, fun i hi => by omega⟩
    rintro k ⟨⟨n', tr⟩, mks⟩ g ⟨hmk, hn', t0, u1, rfl, p, hpk, t5, hs⟩
    simp only [Tm.get_mk] at hmk hn' t0 u1 t5
    subst hmk hn'
    by_cases hp : p < a.length
    · obtain ⟨b1, o1, cap1, ex1, c1, ce1, rfl, hb1, i1, j1, l1⟩ := h1.get (i := p) (by rw [intV_len]; exact hp)
      obtain ⟨b2, o2, cap2, ex2, c2, ce2, rfl, hb2, i2, j2, l2⟩ := h2.get (i := p) (by rw [intV_len]; omega)
      have hR1 := hR b1
      have hR2 := hR b2
      rw [intV_len] at j1 j2
      have hpb : p < b.length := by omega
      have g1 : (intV a).getD p undefV = .int .i64 a[p] := by simp [intV, hp]
      have g2 : (intV b).getD p undefV = .int .i64 b[p] := by simp [intV, hpb]
      rw [g1] at l1
      rw [g2] at l2
      have p1 : (p : Int) < (a.length : Int) := by omega
      have p2 : (p : Int) < (b.length : Int) := by omega
      have p0 : (0 : Int) ≤ (p : Int) := by omega
      by_cases he : a[p] = b[p]
      · have hne : (a[p] != b[p]) = false := by simp [he]
        simp -implicitDefEqProofs (disch := (first | omega | (simp -implicitDefEqProofs only [szs, ne_eq] <;> omega) | fail)) only [go_sem, Nat.reduceAdd, Nat.reduceSub, Nat.reduceMul, Nat.reduceLT, Nat.reduceMod, Nat.reduceDiv, Nat.reduceEqDiff, Nat.reduceBEq, Nat.reduceLeDiff, ↓reduceIte, reduceCtorEq, Int.reduceAdd, Int.reduceSub, Int.reduceLT, Int.reduceLE, Int.reduceBEq, Int.reduceEq, Int.reduceToNat, ir38_l0, t0, u1, t5, ↓hl1, ↓hl2, hR1, hR2, i1, i2, l1, l2, hne, intV_len, p0, p1, p2]
        refine ⟨k - 1, by omega, p + 1, by omega, by simp, fun i hi => ?_⟩
        · by_cases e : i = p
          · subst e; rw [List.getElem?_eq_getElem hp, List.getElem?_eq_getElem hpb, he]
          · exact hs i (by omega)
      · have hne : (a[p] != b[p]) = true := by simpa using he
        simp -implicitDefEqProofs (disch := (first | omega | (simp -implicitDefEqProofs only [szs, ne_eq] <;> omega) | fail)) only [go_sem, Nat.reduceAdd, Nat.reduceSub, Nat.reduceMul, Nat.reduceLT, Nat.reduceMod, Nat.reduceDiv, Nat.reduceEqDiff, Nat.reduceBEq, Nat.reduceLeDiff, ↓reduceIte, reduceCtorEq, Int.reduceAdd, Int.reduceSub, Int.reduceLT, Int.reduceLE, Int.reduceBEq, Int.reduceEq, Int.reduceToNat, ir38_l0, t0, u1, t5, ↓hl1, ↓hl2, hR1, hR2, i1, i2, l1, l2, hne, intV_len, p0, p1, p2]
        have : ¬ a = b := fun e => he (by simp [e])
        rw [decide_eq_false this]
    · have e : a = b := same_step hl hs (by omega)
      have p1 : ¬ (p : Int) < (a.length : Int) := by omega
      simp -implicitDefEqProofs (disch := (first | omega | (simp -implicitDefEqProofs only [szs, ne_eq] <;> omega) | fail)) only [go_sem, Nat.reduceAdd, Nat.reduceSub, Nat.reduceMul, Nat.reduceLT, Nat.reduceMod, Nat.reduceDiv, Nat.reduceEqDiff, Nat.reduceBEq, Nat.reduceLeDiff, ↓reduceIte, reduceCtorEq, Int.reduceAdd, Int.reduceSub, Int.reduceLT, Int.reduceLE, Int.reduceBEq, Int.reduceEq, Int.reduceToNat, ir38_l0, t0, u1, t5, ↓hl1, ↓hl2, p1]
      rw [decide_eq_true e]
  · have hn : ((a.length : Int) != (b.length : Int)) = true := by simpa using fun e : (a.length : Int) = b.length => hl (by omega)
    simp -implicitDefEqProofs (disch := (first | omega | (simp -implicitDefEqProofs only [szs, ne_eq] <;> omega) | fail)) only [go_sem, Nat.reduceAdd, Nat.reduceSub, Nat.reduceMul, Nat.reduceLT, Nat.reduceMod, Nat.reduceDiv, Nat.reduceEqDiff, Nat.reduceBEq, Nat.reduceLeDiff, ↓reduceIte, reduceCtorEq, Int.reduceAdd, Int.reduceSub, Int.reduceLT, Int.reduceLE, Int.reduceBEq, Int.reduceEq, Int.reduceToNat, ir38, ↓hl1, ↓hl2, hn]
    rw [decide_eq_false (fun e => hl (by rw [e]))]
theorem TabAt.not3 {h : Heap} {tb r : Nat} {T : Tb} (ht : TabAt h tb r T) {b : Nat} {c : Blk} (hb : h.get b = some (.cells c 3)) : ¬ (b = tb ∨ b = r) := by
  obtain ⟨⟨c', t1, _⟩, es, ck, m1, _⟩ := ht
  rintro (rfl | rfl)
  · rw [t1] at hb; cases hb
  · rw [m1] at hb; cases hb
theorem RefP.not3 {h : Heap} {rd : Nat} {T : Tb} (ht : RefP h rd T) {b : Nat} {c : Blk} (hb : h.get b = some (.cells c 3)) : b ≠ rd := by
  obtain ⟨c', t1, _⟩ := ht
  rintro rfl
  rw [t1] at hb; cases hb
/-- What Drop answers, and leaves. -/
def drE (s : Int) : Int := if okS s then 0 else 2
def clU (T : Tb) (s p : Nat) : Tb := fun a b => if a = s ∧ b < p then none else T a b
def frm (T : Tb) (s : Nat) (l : List Nat) : List Int := l.map fun p => (T s p).f
def drL (T : Tb) (s : Int) : List Int := frm T s.toNat (pgs T s)
def drT (T : Tb) (s : Int) : Tb := if okS s then clU T s.toNat 32 else T
theorem frm_snoc (T : Tb) (s : Nat) (l : List Nat) (p : Nat) : frm T s (l ++ [p]) = frm T s l ++ [(T s p).f] := by simp [frm]
theorem frm_len (T : Tb) (s : Nat) (l : List Nat) : (frm T s l).length = l.length := by simp [frm]
theorem clU_zero (T : Tb) (s : Nat) : clU T s 0 = T := by funext a b; simp [clU]
theorem clU_none {T : Tb} {s p : Nat} (h : T s p = none) : clU T s (p + 1) = clU T s p := by
  funext a b
  unfold clU
  by_cases hb : b = p
  · subst hb
    by_cases ha : a = s
    · subst ha; simp [h]
    · simp [ha]
  · have : b < p + 1 ↔ b < p := by omega
    simp only [this]
theorem clU_some (T : Tb) (s p : Nat) : clU T s (p + 1) = (clU T s p).upd s p none := by
  funext a b
  unfold clU Tb.upd
  by_cases hb : b = p
  · subst hb
    by_cases ha : a = s
    · simp [ha]
    · simp [ha]
  · have : b < p + 1 ↔ b < p := by omega
    simp only [this, hb, and_false, if_false]
set_option maxHeartbeats 2000000 in
theorem drop_ok {h : Heap} {R W : Set'} {tb r : Nat} {T : Tb} (ht : TabAt h tb r T) (hR : ∀ b, R b) (hW : ∀ b, b = tb ∨ b = r → W b) (s : Int) :
    SF Try.prog 36 [.ptr (some (tb, 0)), .int .i64 s] h R W fun v h' => (∃ lv, v = .tuple [lv, .int .i64 (drE s)] ∧ Own h.n h' lv (intV (drL T s)) 3) ∧ TabAt h' tb r (drT T s) := by
  have hlt := ht.lt
  refine SF.go hm Try.func36 ir36_eq ?_
  simp -implicitDefEqProofs (disch := (first | omega | (simp -implicitDefEqProofs only [szs, ne_eq] <;> omega) | fail)) only [go_sem, Nat.reduceAdd, Nat.reduceSub, Nat.reduceMul, Nat.reduceLT, Nat.reduceMod, Nat.reduceDiv, Nat.reduceEqDiff, Nat.reduceBEq, Nat.reduceLeDiff, ↓reduceIte, reduceCtorEq, Int.reduceAdd, Int.reduceSub, Int.reduceLT, Int.reduceLE, Int.reduceBEq, Int.reduceEq, Int.reduceToNat, ir36]
  refine GCall.of (there_ok ht (.inr (hR _))) ?_
  rintro v h1 ⟨rfl, rfl⟩
  simp -implicitDefEqProofs (disch := (first | omega | (simp -implicitDefEqProofs only [szs, ne_eq] <;> omega) | fail)) only [go_sem, Nat.reduceAdd, Nat.reduceSub, Nat.reduceMul, Nat.reduceLT, Nat.reduceMod, Nat.reduceDiv, Nat.reduceEqDiff, Nat.reduceBEq, Nat.reduceLeDiff, ↓reduceIte, reduceCtorEq, Int.reduceAdd, Int.reduceSub, Int.reduceLT, Int.reduceLE, Int.reduceBEq, Int.reduceEq, Int.reduceToNat, undefV]
  refine GCall.of (space1_ok s (.inl (Nat.le_refl _))) ?_
  rintro v h2 ⟨rfl, rfl⟩
  obtain ⟨g0, e1, n1, k1⟩ : ∃ g, h1.push (O.cells (Blk.of [V.int IntKind.i64 s]) 3) = g ∧ g.n = h1.n + 1 ∧ ∀ b, b < h1.n → g.get b = h1.get b := ⟨_, rfl, by simp, fun b hb => w_push_ne (by omega) _⟩
  rw [e1]
  clear e1
  have ht1 := ht.old k1
  by_cases hs : okS s
  · rw [decide_eq_true hs, drE, drT, drL, pgs, if_pos hs, if_pos hs, if_pos hs]
    obtain ⟨a, rfl⟩ : ∃ a : Nat, s = a := ⟨s.toNat, by unfold okS at hs; omega⟩
    rw [Int.toNat_natCast]
    simp -implicitDefEqProofs (disch := (first | omega | (simp -implicitDefEqProofs only [szs, ne_eq] <;> omega) | fail)) only [go_sem, Nat.reduceAdd, Nat.reduceSub, Nat.reduceMul, Nat.reduceLT, Nat.reduceMod, Nat.reduceDiv, Nat.reduceEqDiff, Nat.reduceBEq, Nat.reduceLeDiff, ↓reduceIte, reduceCtorEq, Int.reduceAdd, Int.reduceSub, Int.reduceLT, Int.reduceLE, Int.reduceBEq, Int.reduceEq, Int.reduceToNat, undefV]
    refine GLoop.inv hm (fun k f g => f.mks = [] ∧ f.tm.n = 38 ∧ f.tm.get 0 = some (.ptr (some (tb, 0))) ∧ f.tm.get 1 = some (.int .i64 a) ∧ g0.n ≤ g.n ∧ ∃ (p : Nat) (lv : V), p + k = 32 ∧ f.tm.get 7 = some (.int .i64 p) ∧ f.tm.get 6 = some lv ∧ Own h1.n g lv (intV (frm T a (pgsL T a p))) 3 ∧ TabAt g tb r (clU T a p)) 32 ?_ ?_
    · exact ⟨rfl, rfl, by simp -implicitDefEqProofs (disch := (first | omega | (simp -implicitDefEqProofs only [szs, ne_eq] <;> omega) | fail)) only [go_sem, Nat.reduceAdd, Nat.reduceSub, Nat.reduceMul, Nat.reduceLT, Nat.reduceMod, Nat.reduceDiv, Nat.reduceEqDiff, Nat.reduceBEq, Nat.reduceLeDiff, ↓reduceIte, reduceCtorEq, Int.reduceAdd, Int.reduceSub, Int.reduceLT, Int.reduceLE, Int.reduceBEq, Int.reduceEq, Int.reduceToNat], by simp -implicitDefEqProofs (disch := (first | omega | (simp -implicitDefEqProofs only [szs, ne_eq] <;> omega) | fail)) only [go_sem, Nat.reduceAdd, Nat.reduceSub, Nat.reduceMul, Nat.reduceLT, Nat.reduceMod, Nat.reduceDiv, Nat.reduceEqDiff, Nat.reduceBEq, Nat.reduceLeDiff, ↓reduceIte, reduceCtorEq, Int.reduceAdd, Int.reduceSub, Int.reduceLT, Int.reduceLE, Int.reduceBEq, Int.reduceEq, Int.reduceToNat], Nat.le_refl _, 0, _, by omega, by simp -implicitDefEqProofs (disch := (first | omega | (simp -implicitDefEqProofs only [szs, ne_eq] <;> omega) | fail)) only [go_sem, Nat.reduceAdd, Nat.reduceSub, Nat.reduceMul, Nat.reduceLT, Nat.reduceMod, Nat.reduceDiv, Nat.reduceEqDiff, Nat.reduceBEq, Nat.reduceLeDiff, ↓reduceIte, reduceCtorEq, Int.reduceAdd, Int.reduceSub, Int.reduceLT, Int.reduceLE, Int.reduceBEq, Int.reduceEq, Int.reduceToNat]; rfl, by simp -implicitDefEqProofs (disch := (first | omega | (simp -implicitDefEqProofs only [szs, ne_eq] <;> omega) | fail)) only [go_sem, Nat.reduceAdd, Nat.reduceSub, Nat.reduceMul, Nat.reduceLT, Nat.reduceMod, Nat.reduceDiv, Nat.reduceEqDiff, Nat.reduceBEq, Nat.reduceLeDiff, ↓reduceIte, reduceCtorEq, Int.reduceAdd, Int.reduceSub, Int.reduceLT, Int.reduceLE, Int.reduceBEq, Int.reduceEq, Int.reduceToNat], Own.nil _ _ _, by rw [clU_zero]; exact ht1⟩
    rintro k ⟨⟨n', tr⟩, mks⟩ g ⟨hmk, hn', t0, u1, hgn, p, lv, hpk, t7, t6, ho, hT⟩
    simp only [Tm.get_mk] at hmk hn' t0 u1 t7 t6
    subst hmk hn'
    by_cases hp : p < 32
    · have hp32 : ((p : Int) == 32) = false := by simpa using (show (p : Int) ≠ 32 by omega)
      simp -implicitDefEqProofs (disch := (first | omega | (simp -implicitDefEqProofs only [szs, ne_eq] <;> omega) | fail)) only [go_sem, Nat.reduceAdd, Nat.reduceSub, Nat.reduceMul, Nat.reduceLT, Nat.reduceMod, Nat.reduceDiv, Nat.reduceEqDiff, Nat.reduceBEq, Nat.reduceLeDiff, ↓reduceIte, reduceCtorEq, Int.reduceAdd, Int.reduceSub, Int.reduceLT, Int.reduceLE, Int.reduceBEq, Int.reduceEq, Int.reduceToNat, ir36_l0, t0, u1, t7, hp32]
      refine GCall.of (((clear_ok (R := R) (W := fun b => b = tb ∨ b = r) hT (fun b _ => hR b) (fun b hb => hb) (a : Int) (p : Int)).kept).foot (fun b hb => .inr hb) (fun b hb => .inr (hW b hb))) ?_
      rintro v g2 ⟨⟨rfl, hT2⟩, vf⟩
      have hn2 := vf.n
      have ho2 : Own h1.n g2 lv (intV (frm T a (pgsL T a p))) 3 := ho.keep fun b c hb => by rw [vf.get b (Heap.lt_of_get hb) (hT.not3 hb)]; exact hb
      have hcl := cntU_le T a p
      have hTp : clU T a p a p = T a p := by unfold clU; rw [if_neg (by omega)]
      have hok : okSP (a : Int) (p : Int) := ⟨hs, by omega, by omega⟩
      have hgc : getC (clU T a p) (a : Int) (p : Int) = T a p := by rw [getC, if_pos hok, Int.toNat_natCast, Int.toNat_natCast, hTp]
      have hse : setE (clU T a p) (a : Int) (p : Int) 0 = if (T a p).isSome then 0 else 6 := by rw [setE, if_pos (okAt0.2 hok), Int.toNat_natCast, Int.toNat_natCast, hTp]
      have hct : clrT (clU T a p) (a : Int) (p : Int) = clU T a (p + 1) := by
        rw [clrT, hse, Int.toNat_natCast, Int.toNat_natCast]
        cases hx : T a p with
        | none => rw [clU_none hx]; rfl
        | some e => rw [clU_some]; rfl
      rw [hct] at hT2
      rw [hgc, hse]
      cases hx : T a p with
      | none =>
        simp only [Option.isSome_none]
        simp -implicitDefEqProofs (disch := (first | omega | (simp -implicitDefEqProofs only [szs, ne_eq] <;> omega) | fail)) only [go_sem, Nat.reduceAdd, Nat.reduceSub, Nat.reduceMul, Nat.reduceLT, Nat.reduceMod, Nat.reduceDiv, Nat.reduceEqDiff, Nat.reduceBEq, Nat.reduceLeDiff, ↓reduceIte, reduceCtorEq, Int.reduceAdd, Int.reduceSub, Int.reduceLT, Int.reduceLE, Int.reduceBEq, Int.reduceEq, Int.reduceToNat, t0, u1, t6, t7, undefV, Ce.v]
        exact ⟨.inl (by omega), k - 1, by omega, by omega, p + 1, lv, by omega, by simp, rfl, by rw [pgsL_none hx]; exact (ho2.old fun b hb => by rw [w_set_ne (by simp) (by omega), w_push_ne (by omega)]), hT2.old fun b hb => by rw [w_set_ne (by simp) (by omega), w_push_ne (by omega)]⟩
      | some e =>
        simp only [Option.isSome_some, if_true]
        obtain ⟨h3, e3, n3, b3, k3⟩ : ∃ h3, (g2.push (O.cells (Blk.of [V.int IntKind.i64 0, V.int IntKind.i64 0, V.bool false, V.bool false]) 34)).set g2.n (O.cells (((((Blk.of [V.int IntKind.i64 0, V.int IntKind.i64 0, V.bool false, V.bool false]).set 0 (V.int IntKind.i64 (Ce.f (some e)))).set 1 (V.int IntKind.i64 (Ce.r (some e)))).set 2 (V.bool (Ce.t (some e)))).set 3 (V.bool (Ce.w (some e)))) 34) = h3 ∧ h3.n = g2.n + 1 ∧
          (∃ d, h3.get g2.n = some (.cells d 34) ∧ d.size = 4 ∧ d.get 0 = .int .i64 e.f) ∧ ∀ b, b < g2.n → h3.get b = g2.get b := ⟨_, rfl, by simp, ⟨_, w_set_eq (by simp) rfl _, rfl, by simp -implicitDefEqProofs (disch := (first | omega | (simp -implicitDefEqProofs only [szs, ne_eq] <;> omega) | fail)) only [go_sem, Nat.reduceAdd, Nat.reduceSub, Nat.reduceMul, Nat.reduceLT, Nat.reduceMod, Nat.reduceDiv, Nat.reduceEqDiff, Nat.reduceBEq, Nat.reduceLeDiff, ↓reduceIte, reduceCtorEq, Int.reduceAdd, Int.reduceSub, Int.reduceLT, Int.reduceLE, Int.reduceBEq, Int.reduceEq, Int.reduceToNat]; rfl⟩, fun b hb => by simp -implicitDefEqProofs (disch := (first | omega | (simp -implicitDefEqProofs only [szs, ne_eq] <;> omega) | fail)) only [go_sem, Nat.reduceAdd, Nat.reduceSub, Nat.reduceMul, Nat.reduceLT, Nat.reduceMod, Nat.reduceDiv, Nat.reduceEqDiff, Nat.reduceBEq, Nat.reduceLeDiff, ↓reduceIte, reduceCtorEq, Int.reduceAdd, Int.reduceSub, Int.reduceLT, Int.reduceLE, Int.reduceBEq, Int.reduceEq, Int.reduceToNat]⟩
        obtain ⟨d, b3, f1, f2⟩ := b3
        obtain ⟨v2, g6, r2, w2, hap, o2, m2, k2, hw2, kk, hty⟩ := app_own (n0 := h1.n) (h := h3.push (.cells (Blk.of [.int .i64 e.f]) 3)) (v := lv) (x := .slice (some (h3.n, 0)) 1 1 true) (l := intV (frm T a (pgsL T a p))) (news := [.int .i64 e.f]) (rs := [h3.n]) (e := 3) (bytes := 8) ((ho2.old k3).old fun b hb => by rw [w_push_ne (by omega)]) (by simp; omega) rfl (first_one (e := 3) (w_push_eq rfl _)) rfl (by simp only [List.length_cons, List.length_nil, intV_len, frm_len, pgsL_len]; omega) (by simp only [List.length_cons, List.length_nil, intV_len, frm_len, pgsL_len]; omega)
        have hcv := o2.lr.cells
        have hon := o2.lr.one
        have hr2 : allB (fun b => h1.n ≤ b ∨ R b) r2 := allB_of fun b _ => .inr (hR b)
        have hw2' : allB (fun b => h1.n ≤ b ∨ W b) w2 := allB_of fun b hb => .inl (hw2 b hb)
        have m2' : h3.n + 1 ≤ g6.n := by simpa using m2
        simp -implicitDefEqProofs (disch := (first | omega | (simp -implicitDefEqProofs only [szs, ne_eq] <;> omega) | fail)) only [go_sem, Nat.reduceAdd, Nat.reduceSub, Nat.reduceMul, Nat.reduceLT, Nat.reduceMod, Nat.reduceDiv, Nat.reduceEqDiff, Nat.reduceBEq, Nat.reduceLeDiff, ↓reduceIte, reduceCtorEq, Int.reduceAdd, Int.reduceSub, Int.reduceLT, Int.reduceLE, Int.reduceBEq, Int.reduceEq, Int.reduceToNat, t0, u1, t6, t7, undefV, Ce.v, e3, b3, f1, f2, appendV_of ap_76, hap, hr2, hw2', ↓hcv, ↓hon]
        refine ⟨.inl (by omega), .inl (by omega), k - 1, by omega, by omega, p + 1, v2, by omega, by simp, rfl, by rw [pgsL_some hx, frm_snoc, intV_snoc, hx]; exact o2, ?_⟩
        refine hT2.same fun b hb => ?_
        have hb' : b < g2.n := hb.elim (fun e => e ▸ hT2.lt.1) (fun e => e ▸ hT2.lt.2.1)
        rw [kk b (by simp; omega) (fun h => ?_), w_push_ne (by omega), k3 b hb']
        obtain ⟨c', e'⟩ := hty b h
        rw [w_push_ne (by omega), k3 b hb'] at e'
        exact hT2.not3 e' hb
    · obtain rfl : p = 32 := by omega
      simp -implicitDefEqProofs (disch := (first | omega | (simp -implicitDefEqProofs only [szs, ne_eq] <;> omega) | fail)) only [go_sem, Nat.reduceAdd, Nat.reduceSub, Nat.reduceMul, Nat.reduceLT, Nat.reduceMod, Nat.reduceDiv, Nat.reduceEqDiff, Nat.reduceBEq, Nat.reduceLeDiff, ↓reduceIte, reduceCtorEq, Int.reduceAdd, Int.reduceSub, Int.reduceLT, Int.reduceLE, Int.reduceBEq, Int.reduceEq, Int.reduceToNat, ir36_l0, t0, u1, t7, t6]
      exact ⟨⟨lv, rfl, ho⟩, hT⟩
  · rw [decide_eq_false hs, drE, drT, drL, pgs, if_neg hs, if_neg hs, if_neg hs]
    simp -implicitDefEqProofs (disch := (first | omega | (simp -implicitDefEqProofs only [szs, ne_eq] <;> omega) | fail)) only [go_sem, Nat.reduceAdd, Nat.reduceSub, Nat.reduceMul, Nat.reduceLT, Nat.reduceMod, Nat.reduceDiv, Nat.reduceEqDiff, Nat.reduceBEq, Nat.reduceLeDiff, ↓reduceIte, reduceCtorEq, Int.reduceAdd, Int.reduceSub, Int.reduceLT, Int.reduceLE, Int.reduceBEq, Int.reduceEq, Int.reduceToNat, undefV]
    exact ⟨⟨_, rfl, Own.nil _ _ _⟩, ht1⟩
end Go.Proofs.Ytkfhdaimememiaa
