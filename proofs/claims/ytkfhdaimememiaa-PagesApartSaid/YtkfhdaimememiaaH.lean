/- Tables of pages: the document's Where, Spaces. -/
import Derived.Test.YtkfhdaimememiaaG
import Derived.Test.YtkfhdaimememiaaV4
set_option linter.unusedVariables false
set_option linter.unusedSimpArgs false
set_option linter.unusedSimpArgs false
set_option maxRecDepth 100000
set_option linter.unusedVariables false
set_option linter.unusedSimpArgs false
namespace Go.Proofs.Ytkfhdaimememiaa
open Go Go.Vm
theorem ap_46 : apT Try.prog 46 46 = some (50, 2, 16) := by kernel_rfl
/-- The places at which a frame stands, rising: 32 times the space, and the page. -/
def spots (T : Tb) (f : Int) (n : Nat) : List Nat := (List.range n).filter fun i => decide ((T (i / 32) (i % 32)).map En.f = some f)
theorem spots_succ (T : Tb) (f : Int) (n : Nat) : spots T f (n + 1) = if (T (n / 32) (n % 32)).map En.f = some f then spots T f n ++ [n] else spots T f n := by
  unfold spots
  rw [List.range_succ, List.filter_append]
  by_cases h : (T (n / 32) (n % 32)).map En.f = some f
  · rw [if_pos h]
    have e : List.filter (fun i => decide ((T (i / 32) (i % 32)).map En.f = some f)) [n] = [n] := List.filter_cons_of_pos (p := fun i => decide ((T (i / 32) (i % 32)).map En.f = some f)) (decide_eq_true h)
    rw [e]
  · rw [if_neg h]
    have e : List.filter (fun i => decide ((T (i / 32) (i % 32)).map En.f = some f)) [n] = [] := List.filter_cons_of_neg (p := fun i => decide ((T (i / 32) (i % 32)).map En.f = some f)) (fun e => h (of_decide_eq_true e))
    rw [e, List.append_nil]
theorem spots_len (T : Tb) (f : Int) (n : Nat) : (spots T f n).length ≤ n := by
  have := List.length_filter_le (fun i => decide ((T (i / 32) (i % 32)).map En.f = some f)) (List.range n)
  rw [List.length_range] at this
  exact this
theorem spots_mem {T : Tb} {f : Int} {n i : Nat} : i ∈ spots T f n ↔ i < n ∧ (T (i / 32) (i % 32)).map En.f = some f := by
  unfold spots
  rw [List.mem_filter, List.mem_range, decide_eq_true_iff]
def spV (l : List Nat) : List V := l.flatMap fun i => [.int .i64 (i / 32 : Nat), .int .i64 (i % 32 : Nat)]
theorem spV_snoc (l : List Nat) (i : Nat) : spV (l ++ [i]) = spV l ++ [.int .i64 (i / 32 : Nat), .int .i64 (i % 32 : Nat)] := by simp [spV]
theorem spV_len (l : List Nat) : (spV l).length = l.length * 2 := by
  induction l with
  | nil => rfl
  | cons x l ih =>
    have e : spV (x :: l) = V.int .i64 (x / 32 : Nat) :: V.int .i64 (x % 32 : Nat) :: spV l := rfl
    rw [e, List.length_cons, List.length_cons, ih, List.length_cons]; omega
set_option maxHeartbeats 2000000 in
theorem rwhere_ok {h : Heap} {R W : Set'} {rd : Nat} {T : Tb} (hr : RefP h rd T) (hR : ∀ b, R b) (fr : Int) :
    SF Try.prog 45 [.ptr (some (rd, 0)), .int .i64 fr] h R W fun v h' => OwnS 2 h.n h' v (spots T fr 512).length (spV (spots T fr 512)) 50 ∧ h.n ≤ h'.n ∧ ∀ b, b < h.n → h'.get b = h.get b := by
  obtain ⟨c, c1, c2, c3, c4⟩ := hr.t
  have hlt := hr.lt
  have hRr := hR rd
  refine SF.go hm Try.func45 ir45_eq ?_
  simp -implicitDefEqProofs (disch := (first | omega | (simp -implicitDefEqProofs only [szs, ne_eq] <;> omega) | fail)) only [go_sem, Nat.reduceAdd, Nat.reduceSub, Nat.reduceMul, Nat.reduceLT, Nat.reduceMod, Nat.reduceDiv, Nat.reduceEqDiff, Nat.reduceBEq, Nat.reduceLeDiff, ↓reduceIte, reduceCtorEq, Int.reduceAdd, Int.reduceSub, Int.reduceLT, Int.reduceLE, Int.reduceBEq, Int.reduceEq, Int.reduceToNat, ir45]
  refine GLoop.inv hm (fun k f g => f.mks = [] ∧ f.tm.n = 50 ∧ f.tm.get 0 = some (.ptr (some (rd, 0))) ∧ f.tm.get 1 = some (.int .i64 fr) ∧ h.n ≤ g.n ∧ (∀ b, b < h.n → g.get b = h.get b) ∧ ∃ (s : Nat) (lv : V), s + k = 16 ∧ f.tm.get 6 = some (.int .i64 s) ∧ f.tm.get 5 = some lv ∧ OwnS 2 h.n g lv (spots T fr (s * 32)).length (spV (spots T fr (s * 32))) 50) 16 ?_ ?_
  · exact ⟨rfl, rfl, by simp -implicitDefEqProofs (disch := (first | omega | (simp -implicitDefEqProofs only [szs, ne_eq] <;> omega) | fail)) only [go_sem, Nat.reduceAdd, Nat.reduceSub, Nat.reduceMul, Nat.reduceLT, Nat.reduceMod, Nat.reduceDiv, Nat.reduceEqDiff, Nat.reduceBEq, Nat.reduceLeDiff, ↓reduceIte, reduceCtorEq, Int.reduceAdd, Int.reduceSub, Int.reduceLT, Int.reduceLE, Int.reduceBEq, Int.reduceEq, Int.reduceToNat], by simp -implicitDefEqProofs (disch := (first | omega | (simp -implicitDefEqProofs only [szs, ne_eq] <;> omega) | fail)) only [go_sem, Nat.reduceAdd, Nat.reduceSub, Nat.reduceMul, Nat.reduceLT, Nat.reduceMod, Nat.reduceDiv, Nat.reduceEqDiff, Nat.reduceBEq, Nat.reduceLeDiff, ↓reduceIte, reduceCtorEq, Int.reduceAdd, Int.reduceSub, Int.reduceLT, Int.reduceLE, Int.reduceBEq, Int.reduceEq, Int.reduceToNat], Nat.le_refl _, fun _ _ => rfl, 0, _, by omega, by simp -implicitDefEqProofs (disch := (first | omega | (simp -implicitDefEqProofs only [szs, ne_eq] <;> omega) | fail)) only [go_sem, Nat.reduceAdd, Nat.reduceSub, Nat.reduceMul, Nat.reduceLT, Nat.reduceMod, Nat.reduceDiv, Nat.reduceEqDiff, Nat.reduceBEq, Nat.reduceLeDiff, ↓reduceIte, reduceCtorEq, Int.reduceAdd, Int.reduceSub, Int.reduceLT, Int.reduceLE, Int.reduceBEq, Int.reduceEq, Int.reduceToNat]; rfl, by simp -implicitDefEqProofs (disch := (first | omega | (simp -implicitDefEqProofs only [szs, ne_eq] <;> omega) | fail)) only [go_sem, Nat.reduceAdd, Nat.reduceSub, Nat.reduceMul, Nat.reduceLT, Nat.reduceMod, Nat.reduceDiv, Nat.reduceEqDiff, Nat.reduceBEq, Nat.reduceLeDiff, ↓reduceIte, reduceCtorEq, Int.reduceAdd, Int.reduceSub, Int.reduceLT, Int.reduceLE, Int.reduceBEq, Int.reduceEq, Int.reduceToNat], OwnS.nil _ _ _ _⟩
  rintro k ⟨⟨n', tr⟩, mks⟩ g ⟨hmk, hn', t0, u1, hgn, hgo, s, lv, hsk, t6, t5, ho⟩
  simp only [Tm.get_mk] at hmk hn' t0 u1 t6 t5
  subst hmk hn'
  by_cases hs : s < 16
  · simp -implicitDefEqProofs (disch := (first | omega | (simp -implicitDefEqProofs only [szs, ne_eq] <;> omega) | fail)) only [go_sem, Nat.reduceAdd, Nat.reduceSub, Nat.reduceMul, Nat.reduceLT, Nat.reduceMod, Nat.reduceDiv, Nat.reduceEqDiff, Nat.reduceBEq, Nat.reduceLeDiff, ↓reduceIte, reduceCtorEq, Int.reduceAdd, Int.reduceSub, Int.reduceLT, Int.reduceLE, Int.reduceBEq, Int.reduceEq, Int.reduceToNat, ir45_l1, t0, u1, t6, undefV]
    refine GLoop.inv hm (fun k2 f g => f.mks = [] ∧ f.tm.n = 50 ∧ f.tm.get 0 = some (.ptr (some (rd, 0))) ∧ f.tm.get 1 = some (.int .i64 fr) ∧ f.tm.get 6 = some (.int .i64 s) ∧ h.n ≤ g.n ∧ (∀ b, b < h.n → g.get b = h.get b) ∧ ∃ (p : Nat) (lv : V), p + k2 = 32 ∧ f.tm.get 7 = some (.int .i64 p) ∧ f.tm.get 5 = some lv ∧ OwnS 2 h.n g lv (spots T fr (s * 32 + p)).length (spV (spots T fr (s * 32 + p))) 50) 32 ?_ ?_
    · exact ⟨rfl, rfl, by simp -implicitDefEqProofs (disch := (first | omega | (simp -implicitDefEqProofs only [szs, ne_eq] <;> omega) | fail)) only [go_sem, Nat.reduceAdd, Nat.reduceSub, Nat.reduceMul, Nat.reduceLT, Nat.reduceMod, Nat.reduceDiv, Nat.reduceEqDiff, Nat.reduceBEq, Nat.reduceLeDiff, ↓reduceIte, reduceCtorEq, Int.reduceAdd, Int.reduceSub, Int.reduceLT, Int.reduceLE, Int.reduceBEq, Int.reduceEq, Int.reduceToNat, t0], by simp -implicitDefEqProofs (disch := (first | omega | (simp -implicitDefEqProofs only [szs, ne_eq] <;> omega) | fail)) only [go_sem, Nat.reduceAdd, Nat.reduceSub, Nat.reduceMul, Nat.reduceLT, Nat.reduceMod, Nat.reduceDiv, Nat.reduceEqDiff, Nat.reduceBEq, Nat.reduceLeDiff, ↓reduceIte, reduceCtorEq, Int.reduceAdd, Int.reduceSub, Int.reduceLT, Int.reduceLE, Int.reduceBEq, Int.reduceEq, Int.reduceToNat, u1], by simp -implicitDefEqProofs (disch := (first | omega | (simp -implicitDefEqProofs only [szs, ne_eq] <;> omega) | fail)) only [go_sem, Nat.reduceAdd, Nat.reduceSub, Nat.reduceMul, Nat.reduceLT, Nat.reduceMod, Nat.reduceDiv, Nat.reduceEqDiff, Nat.reduceBEq, Nat.reduceLeDiff, ↓reduceIte, reduceCtorEq, Int.reduceAdd, Int.reduceSub, Int.reduceLT, Int.reduceLE, Int.reduceBEq, Int.reduceEq, Int.reduceToNat, t6], hgn, hgo, 0, lv, by omega, by simp -implicitDefEqProofs (disch := (first | omega | (simp -implicitDefEqProofs only [szs, ne_eq] <;> omega) | fail)) only [go_sem, Nat.reduceAdd, Nat.reduceSub, Nat.reduceMul, Nat.reduceLT, Nat.reduceMod, Nat.reduceDiv, Nat.reduceEqDiff, Nat.reduceBEq, Nat.reduceLeDiff, ↓reduceIte, reduceCtorEq, Int.reduceAdd, Int.reduceSub, Int.reduceLT, Int.reduceLE, Int.reduceBEq, Int.reduceEq, Int.reduceToNat]; rfl, by simp -implicitDefEqProofs (disch := (first | omega | (simp -implicitDefEqProofs only [szs, ne_eq] <;> omega) | fail)) only [go_sem, Nat.reduceAdd, Nat.reduceSub, Nat.reduceMul, Nat.reduceLT, Nat.reduceMod, Nat.reduceDiv, Nat.reduceEqDiff, Nat.reduceBEq, Nat.reduceLeDiff, ↓reduceIte, reduceCtorEq, Int.reduceAdd, Int.reduceSub, Int.reduceLT, Int.reduceLE, Int.reduceBEq, Int.reduceEq, Int.reduceToNat, t5], by rw [Nat.add_zero]; exact ho⟩
    clear t0 u1 t6 t5 hgn hgo ho
    clear tr lv g
    rintro k2 ⟨⟨n', tr⟩, mks⟩ g ⟨hmk, hn', t0, u1, t6, hgn, hgo, p, lv, hpk, t7, t5, ho⟩
    simp only [Tm.get_mk] at hmk hn' t0 u1 t6 t7 t5
    subst hmk hn'
    have c1' := (hgo rd hlt).trans c1
    by_cases hp : p < 32
    · have l1 : (s : Int) < ((16 : Nat) : Int) := by omega
      have l2 : (p : Int) < ((32 : Nat) : Int) := by omega
      have l3 : (0 : Int) ≤ (s : Int) := by omega
      have l4 : (0 : Int) ≤ (p : Int) := by omega
      obtain ⟨d0, d1, d2, d3, d4⟩ := c4 s p hs hp
      have hb : s * 160 + p * 5 + 5 ≤ 2560 := by omega
      have hdiv : (s * 32 + p) / 32 = s := by omega
      have hmod : (s * 32 + p) % 32 = p := by omega
      have hss := spots_succ T fr (s * 32 + p)
      rw [hdiv, hmod] at hss
      have hsl := spots_len T fr (s * 32 + p)
      cases hT : T s p with
      | none =>
        rw [hT] at d0 hss
        simp only [Option.isSome_none] at d0
        rw [if_neg (by simp)] at hss
        simp -implicitDefEqProofs (disch := (first | omega | (simp -implicitDefEqProofs only [szs, ne_eq] <;> omega) | fail)) only [go_sem, Nat.reduceAdd, Nat.reduceSub, Nat.reduceMul, Nat.reduceLT, Nat.reduceMod, Nat.reduceDiv, Nat.reduceEqDiff, Nat.reduceBEq, Nat.reduceLeDiff, ↓reduceIte, reduceCtorEq, Int.reduceAdd, Int.reduceSub, Int.reduceLT, Int.reduceLE, Int.reduceBEq, Int.reduceEq, Int.reduceToNat, ir45_l0, t0, u1, t5, t6, t7, undefV, l1, l2, l3, l4, c1', c2, d0, hRr]
        exact ⟨k2 - 1, by omega, hgn, hgo, p + 1, lv, by omega, by simp, rfl, by rw [← Nat.add_assoc, hss]; exact ho⟩
      | some e =>
        rw [hT] at d0 d1 hss
        simp only [Option.isSome_some] at d0
        have hff : Ce.f (some e) = e.f := rfl
        by_cases hef : e.f = fr
        · rw [if_pos (by simp [hef])] at hss
          have hfe : (e.f == fr) = true := by simp [hef]
          obtain ⟨v2, g6, r2, w2, hap, o2, m2, k2', hw2, kk, ht, _⟩ := app_ownS (n0 := h.n) (h := g.push (.cells (Blk.of [.int .i64 s, .int .i64 p]) 50)) (v := lv) (x := .slice (some (g.n, 0)) 1 1 true) (n := (spots T fr (s * 32 + p)).length) (m := 1) (l := spV (spots T fr (s * 32 + p))) (news := [.int .i64 s, .int .i64 p]) (rs := [g.n]) (e := 50) (sz := 2) (bytes := 16) (ho.old fun b hb => by rw [w_push_ne (by omega)]) (by simp; omega) rfl (firstS (e := 50) (w_push_eq rfl _) (by simp [w_of_size]) (gets_all _ rfl)) rfl rfl (by omega) (by omega) (by omega)
          have hcv := o2.lr.cells
          have hon := o2.lr.one
          have hr2 : allB (fun b => h.n ≤ b ∨ R b) r2 := allB_of fun b _ => .inr (hR b)
          have hw2' : allB (fun b => h.n ≤ b ∨ W b) w2 := allB_of fun b hb => .inl (hw2 b hb)
          have m2' : g.n + 1 ≤ g6.n := by simpa using m2
          simp -implicitDefEqProofs (disch := (first | omega | (simp -implicitDefEqProofs only [szs, ne_eq] <;> omega) | fail)) only [go_sem, Nat.reduceAdd, Nat.reduceSub, Nat.reduceMul, Nat.reduceLT, Nat.reduceMod, Nat.reduceDiv, Nat.reduceEqDiff, Nat.reduceBEq, Nat.reduceLeDiff, ↓reduceIte, reduceCtorEq, Int.reduceAdd, Int.reduceSub, Int.reduceLT, Int.reduceLE, Int.reduceBEq, Int.reduceEq, Int.reduceToNat, ir45_l0, t0, u1, t5, t6, t7, undefV, l1, l2, l3, l4, c1', c2, d0, d1, hRr, hff, hfe, appendV_of ap_46, hap, hr2, hw2', ↓hcv, ↓hon]
          exact ⟨k2 - 1, by omega, by omega, fun b hb => by rw [k2' b (by omega), w_push_ne (by omega)]; exact hgo b hb, p + 1, v2, by omega, by simp, rfl, by rw [← Nat.add_assoc, hss, List.length_append, spV_snoc, hdiv, hmod]; exact o2⟩
        · rw [if_neg (by simpa using hef)] at hss
          have hfe : (e.f == fr) = false := by simpa using hef
          simp -implicitDefEqProofs (disch := (first | omega | (simp -implicitDefEqProofs only [szs, ne_eq] <;> omega) | fail)) only [go_sem, Nat.reduceAdd, Nat.reduceSub, Nat.reduceMul, Nat.reduceLT, Nat.reduceMod, Nat.reduceDiv, Nat.reduceEqDiff, Nat.reduceBEq, Nat.reduceLeDiff, ↓reduceIte, reduceCtorEq, Int.reduceAdd, Int.reduceSub, Int.reduceLT, Int.reduceLE, Int.reduceBEq, Int.reduceEq, Int.reduceToNat, ir45_l0, t0, u1, t5, t6, t7, undefV, l1, l2, l3, l4, c1', c2, d0, d1, hRr, hff, hfe]
          exact ⟨k2 - 1, by omega, hgn, hgo, p + 1, lv, by omega, by simp, rfl, by rw [← Nat.add_assoc, hss]; exact ho⟩
    · obtain rfl : p = 32 := by omega
      simp -implicitDefEqProofs (disch := (first | omega | (simp -implicitDefEqProofs only [szs, ne_eq] <;> omega) | fail)) only [go_sem, Nat.reduceAdd, Nat.reduceSub, Nat.reduceMul, Nat.reduceLT, Nat.reduceMod, Nat.reduceDiv, Nat.reduceEqDiff, Nat.reduceBEq, Nat.reduceLeDiff, ↓reduceIte, reduceCtorEq, Int.reduceAdd, Int.reduceSub, Int.reduceLT, Int.reduceLE, Int.reduceBEq, Int.reduceEq, Int.reduceToNat, ir45_l0, t0, u1, t5, t6, t7]
      exact ⟨k - 1, by omega, hgn, hgo, s + 1, lv, by omega, by simp, rfl, by rw [show (s + 1) * 32 = s * 32 + 32 by omega]; exact ho⟩
  · obtain rfl : s = 16 := by omega
    simp -implicitDefEqProofs (disch := (first | omega | (simp -implicitDefEqProofs only [szs, ne_eq] <;> omega) | fail)) only [go_sem, Nat.reduceAdd, Nat.reduceSub, Nat.reduceMul, Nat.reduceLT, Nat.reduceMod, Nat.reduceDiv, Nat.reduceEqDiff, Nat.reduceBEq, Nat.reduceLeDiff, ↓reduceIte, reduceCtorEq, Int.reduceAdd, Int.reduceSub, Int.reduceLT, Int.reduceLE, Int.reduceBEq, Int.reduceEq, Int.reduceToNat, ir45_l1, t0, u1, t6, t5, undefV]
    exact ⟨ho, hgn, hgo⟩
/-- The spaces in which something stands, rising. -/
def spcs (T : Tb) (n : Nat) : List Nat := (List.range n).filter fun s => decide (cntU T s 32 ≠ 0)
theorem spcs_succ (T : Tb) (n : Nat) : spcs T (n + 1) = if cntU T n 32 = 0 then spcs T n else spcs T n ++ [n] := by
  unfold spcs
  rw [List.range_succ, List.filter_append]
  by_cases h : cntU T n 32 = 0
  · rw [if_pos h]; simp [List.filter_cons, h]
  · rw [if_neg h]; simp [List.filter_cons, h]
theorem spcs_len (T : Tb) (n : Nat) : (spcs T n).length ≤ n := by
  have := List.length_filter_le (fun s => decide (cntU T s 32 ≠ 0)) (List.range n)
  rw [List.length_range] at this
  exact this
set_option maxHeartbeats 2000000 in
theorem rspaces_ok {h : Heap} {R W : Set'} {rd : Nat} {T : Tb} (hr : RefP h rd T) (hR : ∀ b, R b) :
    SF Try.prog 47 [.ptr (some (rd, 0))] h R W fun v h' => Own h.n h' v (natV (spcs T 16)) 3 ∧ h.n ≤ h'.n ∧ ∀ b, b < h.n → h'.get b = h.get b := by
  have hlt := hr.lt
  refine SF.go hm Try.func47 ir47_eq ?_
  simp -implicitDefEqProofs (disch := (first | omega | (simp -implicitDefEqProofs only [szs, ne_eq] <;> omega) | fail)) only [go_sem, Nat.reduceAdd, Nat.reduceSub, Nat.reduceMul, Nat.reduceLT, Nat.reduceMod, Nat.reduceDiv, Nat.reduceEqDiff, Nat.reduceBEq, Nat.reduceLeDiff, ↓reduceIte, reduceCtorEq, Int.reduceAdd, Int.reduceSub, Int.reduceLT, Int.reduceLE, Int.reduceBEq, Int.reduceEq, Int.reduceToNat, ir47]
  refine GLoop.inv hm (fun k f g => f.mks = [] ∧ f.tm.n = 19 ∧ f.tm.get 0 = some (.ptr (some (rd, 0))) ∧ h.n ≤ g.n ∧ (∀ b, b < h.n → g.get b = h.get b) ∧ ∃ (s : Nat) (lv : V), s + k = 16 ∧ f.tm.get 4 = some (.int .i64 s) ∧ f.tm.get 3 = some lv ∧ Own h.n g lv (natV (spcs T s)) 3) 16 ?_ ?_
  · exact ⟨rfl, rfl, by simp -implicitDefEqProofs (disch := (first | omega | (simp -implicitDefEqProofs only [szs, ne_eq] <;> omega) | fail)) only [go_sem, Nat.reduceAdd, Nat.reduceSub, Nat.reduceMul, Nat.reduceLT, Nat.reduceMod, Nat.reduceDiv, Nat.reduceEqDiff, Nat.reduceBEq, Nat.reduceLeDiff, ↓reduceIte, reduceCtorEq, Int.reduceAdd, Int.reduceSub, Int.reduceLT, Int.reduceLE, Int.reduceBEq, Int.reduceEq, Int.reduceToNat], Nat.le_refl _, fun _ _ => rfl, 0, _, by omega, by simp -implicitDefEqProofs (disch := (first | omega | (simp -implicitDefEqProofs only [szs, ne_eq] <;> omega) | fail)) only [go_sem, Nat.reduceAdd, Nat.reduceSub, Nat.reduceMul, Nat.reduceLT, Nat.reduceMod, Nat.reduceDiv, Nat.reduceEqDiff, Nat.reduceBEq, Nat.reduceLeDiff, ↓reduceIte, reduceCtorEq, Int.reduceAdd, Int.reduceSub, Int.reduceLT, Int.reduceLE, Int.reduceBEq, Int.reduceEq, Int.reduceToNat]; rfl, by simp -implicitDefEqProofs (disch := (first | omega | (simp -implicitDefEqProofs only [szs, ne_eq] <;> omega) | fail)) only [go_sem, Nat.reduceAdd, Nat.reduceSub, Nat.reduceMul, Nat.reduceLT, Nat.reduceMod, Nat.reduceDiv, Nat.reduceEqDiff, Nat.reduceBEq, Nat.reduceLeDiff, ↓reduceIte, reduceCtorEq, Int.reduceAdd, Int.reduceSub, Int.reduceLT, Int.reduceLE, Int.reduceBEq, Int.reduceEq, Int.reduceToNat], Own.nil _ _ _⟩
  rintro k ⟨⟨n', tr⟩, mks⟩ g ⟨hmk, hn', t0, hgn, hgo, s, lv, hsk, t4, t3, ho⟩
  simp only [Tm.get_mk] at hmk hn' t0 t4 t3
  subst hmk hn'
  by_cases hs : s < 16
  · have hg := hr.old hgo
    simp -implicitDefEqProofs (disch := (first | omega | (simp -implicitDefEqProofs only [szs, ne_eq] <;> omega) | fail)) only [go_sem, Nat.reduceAdd, Nat.reduceSub, Nat.reduceMul, Nat.reduceLT, Nat.reduceMod, Nat.reduceDiv, Nat.reduceEqDiff, Nat.reduceBEq, Nat.reduceLeDiff, ↓reduceIte, reduceCtorEq, Int.reduceAdd, Int.reduceSub, Int.reduceLT, Int.reduceLE, Int.reduceBEq, Int.reduceEq, Int.reduceToNat, ir47_l0, t0, t4, undefV]
    refine GCall.of (rpages_ok hg (fun b => .inr (hR b)) (s : Int)) ?_
    rintro v g2 ⟨ho2, n2, k2⟩
    have hok : okS (s : Int) := ⟨by omega, by omega⟩
    rw [pgs, if_pos hok, Int.toNat_natCast] at ho2
    have hl2 := ho2.lr.lenV Try.underlying76
    rw [natV_len, pgsL_len] at hl2
    have ho' := ho.old k2
    have hss := spcs_succ T s
    have hsl := spcs_len T s
    by_cases h0 : cntU T s 32 = 0
    · rw [if_pos h0] at hss
      simp -implicitDefEqProofs (disch := (first | omega | (simp -implicitDefEqProofs only [szs, ne_eq] <;> omega) | fail)) only [go_sem, Nat.reduceAdd, Nat.reduceSub, Nat.reduceMul, Nat.reduceLT, Nat.reduceMod, Nat.reduceDiv, Nat.reduceEqDiff, Nat.reduceBEq, Nat.reduceLeDiff, ↓reduceIte, reduceCtorEq, Int.reduceAdd, Int.reduceSub, Int.reduceLT, Int.reduceLE, Int.reduceBEq, Int.reduceEq, Int.reduceToNat, t0, t3, t4, ↓hl2, h0]
      exact ⟨k - 1, by omega, by omega, fun b hb => by rw [k2 b (by omega)]; exact hgo b hb, s + 1, lv, by omega, by simp, rfl, by rw [hss]; exact ho'⟩
    · rw [if_neg h0] at hss
      have hp : (0 : Int) < (cntU T s 32 : Nat) := by omega
      obtain ⟨v2, g6, r2, w2, hap, o2, m2, kk2, hw2, kk, ht⟩ := app_own (n0 := h.n) (h := g2.push (.cells (Blk.of [.int .i64 s]) 3)) (v := lv) (x := .slice (some (g2.n, 0)) 1 1 true) (l := natV (spcs T s)) (news := [.int .i64 s]) (rs := [g2.n]) (e := 3) (bytes := 8) (ho'.old fun b hb => by rw [w_push_ne (by omega)]) (by simp; omega) rfl (first_one (e := 3) (w_push_eq rfl _)) rfl (by simp only [List.length_cons, List.length_nil, natV_len]; omega) (by simp only [List.length_cons, List.length_nil, natV_len]; omega)
      have hcv := o2.lr.cells
      have hon := o2.lr.one
      have hr2 : allB (fun b => h.n ≤ b ∨ R b) r2 := allB_of fun b _ => .inr (hR b)
      have hw2' : allB (fun b => h.n ≤ b ∨ W b) w2 := allB_of fun b hb => .inl (hw2 b hb)
      have m2' : g2.n + 1 ≤ g6.n := by simpa using m2
      simp -implicitDefEqProofs (disch := (first | omega | (simp -implicitDefEqProofs only [szs, ne_eq] <;> omega) | fail)) only [go_sem, Nat.reduceAdd, Nat.reduceSub, Nat.reduceMul, Nat.reduceLT, Nat.reduceMod, Nat.reduceDiv, Nat.reduceEqDiff, Nat.reduceBEq, Nat.reduceLeDiff, ↓reduceIte, reduceCtorEq, Int.reduceAdd, Int.reduceSub, Int.reduceLT, Int.reduceLE, Int.reduceBEq, Int.reduceEq, Int.reduceToNat, t0, t3, t4, ↓hl2, hp, appendV_of ap_76, hap, hr2, hw2', ↓hcv, ↓hon]
      exact ⟨k - 1, by omega, by omega, fun b hb => by rw [kk2 b (by omega), w_push_ne (by omega), k2 b (by omega)]; exact hgo b hb, s + 1, v2, by omega, by simp, rfl, by rw [hss, natV_snoc]; exact o2⟩
  · obtain rfl : s = 16 := by omega
    simp -implicitDefEqProofs (disch := (first | omega | (simp -implicitDefEqProofs only [szs, ne_eq] <;> omega) | fail)) only [go_sem, Nat.reduceAdd, Nat.reduceSub, Nat.reduceMul, Nat.reduceLT, Nat.reduceMod, Nat.reduceDiv, Nat.reduceEqDiff, Nat.reduceBEq, Nat.reduceLeDiff, ↓reduceIte, reduceCtorEq, Int.reduceAdd, Int.reduceSub, Int.reduceLT, Int.reduceLE, Int.reduceBEq, Int.reduceEq, Int.reduceToNat, ir47_l0, t0, t4, t3]
    exact ⟨ho, hgn, hgo⟩
end Go.Proofs.Ytkfhdaimememiaa
