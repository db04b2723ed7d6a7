/- The document's tables: in, ask, Set, Clear, Rights, Get, Clean, Ask. -/
import Derived.Test.YtkfhdaimememiaaB
set_option linter.unusedVariables false
set_option linter.unusedSimpArgs false
set_option linter.unusedSimpArgs false
set_option maxRecDepth 100000
set_option linter.unusedVariables false
set_option linter.unusedSimpArgs false
namespace Go.Proofs.Ytkfhdaimememiaa
open Go Go.Vm
theorem in_ok {h : Heap} {R W : Set'} (s p : Int) : SF Try.prog 50 [.int .i64 s, .int .i64 p] h R W fun v h' => v = .bool (decide (okSP s p)) ∧ h' = h := by
  refine SF.go hm Try.func50 ir50_eq ?_
  by_cases h0 : 0 ≤ s
  · by_cases h1 : s < 16
    · by_cases h2 : 0 ≤ p
      · simp -implicitDefEqProofs (disch := (first | omega | (simp -implicitDefEqProofs only [szs, ne_eq] <;> omega) | fail)) only [go_sem, Nat.reduceAdd, Nat.reduceSub, Nat.reduceMul, Nat.reduceLT, Nat.reduceMod, Nat.reduceDiv, Nat.reduceEqDiff, Nat.reduceBEq, Nat.reduceLeDiff, ↓reduceIte, reduceCtorEq, Int.reduceAdd, Int.reduceSub, Int.reduceLT, Int.reduceLE, Int.reduceBEq, Int.reduceEq, Int.reduceToNat, ir50, undefV]
        congr 1
        exact decide_eq_decide.2 (by unfold okSP; omega)
      · simp -implicitDefEqProofs (disch := (first | omega | (simp -implicitDefEqProofs only [szs, ne_eq] <;> omega) | fail)) only [go_sem, Nat.reduceAdd, Nat.reduceSub, Nat.reduceMul, Nat.reduceLT, Nat.reduceMod, Nat.reduceDiv, Nat.reduceEqDiff, Nat.reduceBEq, Nat.reduceLeDiff, ↓reduceIte, reduceCtorEq, Int.reduceAdd, Int.reduceSub, Int.reduceLT, Int.reduceLE, Int.reduceBEq, Int.reduceEq, Int.reduceToNat, ir50, undefV]
        congr 1
        exact (decide_eq_false (by unfold okSP; omega)).symm
    · simp -implicitDefEqProofs (disch := (first | omega | (simp -implicitDefEqProofs only [szs, ne_eq] <;> omega) | fail)) only [go_sem, Nat.reduceAdd, Nat.reduceSub, Nat.reduceMul, Nat.reduceLT, Nat.reduceMod, Nat.reduceDiv, Nat.reduceEqDiff, Nat.reduceBEq, Nat.reduceLeDiff, ↓reduceIte, reduceCtorEq, Int.reduceAdd, Int.reduceSub, Int.reduceLT, Int.reduceLE, Int.reduceBEq, Int.reduceEq, Int.reduceToNat, ir50, undefV]
      congr 1
      exact (decide_eq_false (by unfold okSP; omega)).symm
  · simp -implicitDefEqProofs (disch := (first | omega | (simp -implicitDefEqProofs only [szs, ne_eq] <;> omega) | fail)) only [go_sem, Nat.reduceAdd, Nat.reduceSub, Nat.reduceMul, Nat.reduceLT, Nat.reduceMod, Nat.reduceDiv, Nat.reduceEqDiff, Nat.reduceBEq, Nat.reduceLeDiff, ↓reduceIte, reduceCtorEq, Int.reduceAdd, Int.reduceSub, Int.reduceLT, Int.reduceLE, Int.reduceBEq, Int.reduceEq, Int.reduceToNat, ir50, undefV]
    congr 1
    exact (decide_eq_false (by unfold okSP; omega)).symm
theorem nat_of {s p : Int} (h : okSP s p) : ∃ a q : Nat, s = a ∧ p = q ∧ a < 16 ∧ q < 32 := by
  unfold okSP at h
  exact ⟨s.toNat, p.toNat, by omega, by omega, by omega, by omega⟩
set_option maxHeartbeats 1000000 in
theorem rask_ok {h : Heap} {R W : Set'} {rd : Nat} {T : Tb} (hr : RefP h rd T) (hR : R rd) (s p rt : Int) :
    SF Try.prog 51 [.ptr (some (rd, 0)), .int .i64 s, .int .i64 p, .int .i64 rt] h R W fun v h' => v = .int .i64 (setE T s p rt) ∧ h' = h := by
  obtain ⟨c, t1, t2, t3, t4⟩ := hr.t
  refine SF.go hm Try.func51 ir51_eq ?_
  simp -implicitDefEqProofs (disch := (first | omega | (simp -implicitDefEqProofs only [szs, ne_eq] <;> omega) | fail)) only [go_sem, Nat.reduceAdd, Nat.reduceSub, Nat.reduceMul, Nat.reduceLT, Nat.reduceMod, Nat.reduceDiv, Nat.reduceEqDiff, Nat.reduceBEq, Nat.reduceLeDiff, ↓reduceIte, reduceCtorEq, Int.reduceAdd, Int.reduceSub, Int.reduceLT, Int.reduceLE, Int.reduceBEq, Int.reduceEq, Int.reduceToNat, ir51]
  refine GCall.of (in_ok s p) ?_
  rintro v h1 ⟨rfl, rfl⟩
  by_cases hs : okSP s p
  · rw [decide_eq_true hs]
    by_cases hr0 : rt < 0
    · rw [setE, if_neg (fun h => by have := h.2.1; omega)]
      simp -implicitDefEqProofs (disch := (first | omega | (simp -implicitDefEqProofs only [szs, ne_eq] <;> omega) | fail)) only [go_sem, Nat.reduceAdd, Nat.reduceSub, Nat.reduceMul, Nat.reduceLT, Nat.reduceMod, Nat.reduceDiv, Nat.reduceEqDiff, Nat.reduceBEq, Nat.reduceLeDiff, ↓reduceIte, reduceCtorEq, Int.reduceAdd, Int.reduceSub, Int.reduceLT, Int.reduceLE, Int.reduceBEq, Int.reduceEq, Int.reduceToNat, undefV]
    by_cases hr1 : 7 < rt
    · rw [setE, if_neg (fun h => by have := h.2.2; omega)]
      simp -implicitDefEqProofs (disch := (first | omega | (simp -implicitDefEqProofs only [szs, ne_eq] <;> omega) | fail)) only [go_sem, Nat.reduceAdd, Nat.reduceSub, Nat.reduceMul, Nat.reduceLT, Nat.reduceMod, Nat.reduceDiv, Nat.reduceEqDiff, Nat.reduceBEq, Nat.reduceLeDiff, ↓reduceIte, reduceCtorEq, Int.reduceAdd, Int.reduceSub, Int.reduceLT, Int.reduceLE, Int.reduceBEq, Int.reduceEq, Int.reduceToNat, undefV]
    have hok : okAt s p rt := ⟨hs, by omega, by omega⟩
    have hc := t4.at hok
    obtain ⟨a, q, rfl, rfl, ha, hq⟩ := nat_of hs
    rw [Int.toNat_natCast, Int.toNat_natCast] at hc
    obtain ⟨c0, c1, c2, c3, c4⟩ := hc
    have l1 : (a : Int) < ((16 : Nat) : Int) := by omega
    have l2 : (q : Int) < ((32 : Nat) : Int) := by omega
    have l3 : (0 : Int) ≤ (a : Int) := by omega
    have l4 : (0 : Int) ≤ (q : Int) := by omega
    rw [setE, if_pos hok, Int.toNat_natCast, Int.toNat_natCast]
    cases hT : T a q with
    | none =>
      rw [hT] at c0
      simp only [Option.isSome_none] at c0 ⊢
      simp -implicitDefEqProofs (disch := (first | omega | (simp -implicitDefEqProofs only [szs, ne_eq] <;> omega) | fail)) only [go_sem, Nat.reduceAdd, Nat.reduceSub, Nat.reduceMul, Nat.reduceLT, Nat.reduceMod, Nat.reduceDiv, Nat.reduceEqDiff, Nat.reduceBEq, Nat.reduceLeDiff, ↓reduceIte, reduceCtorEq, Int.reduceAdd, Int.reduceSub, Int.reduceLT, Int.reduceLE, Int.reduceBEq, Int.reduceEq, Int.reduceToNat, undefV, l1, l2, l3, l4, t1, t2, c0, hR]
    | some e =>
      rw [hT] at c0
      simp only [Option.isSome_some] at c0 ⊢
      simp -implicitDefEqProofs (disch := (first | omega | (simp -implicitDefEqProofs only [szs, ne_eq] <;> omega) | fail)) only [go_sem, Nat.reduceAdd, Nat.reduceSub, Nat.reduceMul, Nat.reduceLT, Nat.reduceMod, Nat.reduceDiv, Nat.reduceEqDiff, Nat.reduceBEq, Nat.reduceLeDiff, ↓reduceIte, reduceCtorEq, Int.reduceAdd, Int.reduceSub, Int.reduceLT, Int.reduceLE, Int.reduceBEq, Int.reduceEq, Int.reduceToNat, undefV, l1, l2, l3, l4, t1, t2, c0, hR]
  · rw [decide_eq_false hs, setE, if_neg (fun h => hs h.1)]
    simp -implicitDefEqProofs (disch := (first | omega | (simp -implicitDefEqProofs only [szs, ne_eq] <;> omega) | fail)) only [go_sem, Nat.reduceAdd, Nat.reduceSub, Nat.reduceMul, Nat.reduceLT, Nat.reduceMod, Nat.reduceDiv, Nat.reduceEqDiff, Nat.reduceBEq, Nat.reduceLeDiff, ↓reduceIte, reduceCtorEq, Int.reduceAdd, Int.reduceSub, Int.reduceLT, Int.reduceLE, Int.reduceBEq, Int.reduceEq, Int.reduceToNat, undefV]
set_option maxHeartbeats 2000000 in
theorem rput_ok {h : Heap} {R W : Set'} {rd : Nat} {T : Tb} (hr : RefP h rd T) (hR : R rd) (hW : W rd) (s p f rt : Int) :
    SF Try.prog 27 [.ptr (some (rd, 0)), .int .i64 s, .int .i64 p, .int .i64 f, .int .i64 rt] h R W fun v h' => v = .int .i64 (putE T s p f rt) ∧ RefP h' rd (putT T s p f rt) := by
  obtain ⟨c, t1, t2, t3, t4⟩ := hr.t
  refine SF.go hm Try.func27 ir27_eq ?_
  simp -implicitDefEqProofs (disch := (first | omega | (simp -implicitDefEqProofs only [szs, ne_eq] <;> omega) | fail)) only [go_sem, Nat.reduceAdd, Nat.reduceSub, Nat.reduceMul, Nat.reduceLT, Nat.reduceMod, Nat.reduceDiv, Nat.reduceEqDiff, Nat.reduceBEq, Nat.reduceLeDiff, ↓reduceIte, reduceCtorEq, Int.reduceAdd, Int.reduceSub, Int.reduceLT, Int.reduceLE, Int.reduceBEq, Int.reduceEq, Int.reduceToNat, ir27]
  refine GCall.of (in_ok s p) ?_
  rintro v h1 ⟨rfl, rfl⟩
  have bad : (¬ okAt s p rt ∨ ¬ okF f) → putE T s p f rt = 2 := fun h => by
    unfold putE
    split
    · rfl
    · rename_i h1
      rw [if_pos]
      exact h.resolve_left (fun h' => h1 h')
  by_cases hs : okSP s p
  · rw [decide_eq_true hs]
    by_cases hf0 : f < 0
    · have e := bad (.inr (fun h => by unfold okF at h; omega))
      rw [putT, e]
      simp -implicitDefEqProofs (disch := (first | omega | (simp -implicitDefEqProofs only [szs, ne_eq] <;> omega) | fail)) only [go_sem, Nat.reduceAdd, Nat.reduceSub, Nat.reduceMul, Nat.reduceLT, Nat.reduceMod, Nat.reduceDiv, Nat.reduceEqDiff, Nat.reduceBEq, Nat.reduceLeDiff, ↓reduceIte, reduceCtorEq, Int.reduceAdd, Int.reduceSub, Int.reduceLT, Int.reduceLE, Int.reduceBEq, Int.reduceEq, Int.reduceToNat, undefV]
      exact hr
    by_cases hf1 : 256 ≤ f
    · have e := bad (.inr (fun h => by unfold okF at h; omega))
      rw [putT, e]
      simp -implicitDefEqProofs (disch := (first | omega | (simp -implicitDefEqProofs only [szs, ne_eq] <;> omega) | fail)) only [go_sem, Nat.reduceAdd, Nat.reduceSub, Nat.reduceMul, Nat.reduceLT, Nat.reduceMod, Nat.reduceDiv, Nat.reduceEqDiff, Nat.reduceBEq, Nat.reduceLeDiff, ↓reduceIte, reduceCtorEq, Int.reduceAdd, Int.reduceSub, Int.reduceLT, Int.reduceLE, Int.reduceBEq, Int.reduceEq, Int.reduceToNat, undefV]
      exact hr
    by_cases hr0 : rt < 0
    · have e := bad (.inl (fun h => by have := h.2.1; omega))
      rw [putT, e]
      simp -implicitDefEqProofs (disch := (first | omega | (simp -implicitDefEqProofs only [szs, ne_eq] <;> omega) | fail)) only [go_sem, Nat.reduceAdd, Nat.reduceSub, Nat.reduceMul, Nat.reduceLT, Nat.reduceMod, Nat.reduceDiv, Nat.reduceEqDiff, Nat.reduceBEq, Nat.reduceLeDiff, ↓reduceIte, reduceCtorEq, Int.reduceAdd, Int.reduceSub, Int.reduceLT, Int.reduceLE, Int.reduceBEq, Int.reduceEq, Int.reduceToNat, undefV]
      exact hr
    by_cases hr1 : 7 < rt
    · have e := bad (.inl (fun h => by have := h.2.2; omega))
      rw [putT, e]
      simp -implicitDefEqProofs (disch := (first | omega | (simp -implicitDefEqProofs only [szs, ne_eq] <;> omega) | fail)) only [go_sem, Nat.reduceAdd, Nat.reduceSub, Nat.reduceMul, Nat.reduceLT, Nat.reduceMod, Nat.reduceDiv, Nat.reduceEqDiff, Nat.reduceBEq, Nat.reduceLeDiff, ↓reduceIte, reduceCtorEq, Int.reduceAdd, Int.reduceSub, Int.reduceLT, Int.reduceLE, Int.reduceBEq, Int.reduceEq, Int.reduceToNat, undefV]
      exact hr
    have hok : okAt s p rt := ⟨hs, by omega, by omega⟩
    have hF : okF f := ⟨by omega, by omega⟩
    have hc := t4.at hok
    have fitR := fun {c'} {x} => RefP.fit (c' := c') (x := x) hr t1 hs
    have hpe : putE T s p f rt = if (T s.toNat p.toNat).isSome then 7 else 0 := by rw [putE, if_neg (fun h => h hok), if_neg (fun h => h hF)]
    rw [putT, hpe]
    obtain ⟨a, q, rfl, rfl, ha, hq⟩ := nat_of hs
    rw [Int.toNat_natCast, Int.toNat_natCast] at *
    obtain ⟨c0, c1, c2, c3, c4⟩ := hc
    have l1 : (a : Int) < ((16 : Nat) : Int) := by omega
    have l2 : (q : Int) < ((32 : Nat) : Int) := by omega
    have l3 : (0 : Int) ≤ (a : Int) := by omega
    have l4 : (0 : Int) ≤ (q : Int) := by omega
    have hb : a * 160 + q * 5 + 5 ≤ 2560 := by omega
    cases hT : T a q with
    | some e =>
      rw [hT] at c0
      simp only [Option.isSome_some] at c0
      simp -implicitDefEqProofs (disch := (first | omega | (simp -implicitDefEqProofs only [szs, ne_eq] <;> omega) | fail)) only [go_sem, Nat.reduceAdd, Nat.reduceSub, Nat.reduceMul, Nat.reduceLT, Nat.reduceMod, Nat.reduceDiv, Nat.reduceEqDiff, Nat.reduceBEq, Nat.reduceLeDiff, ↓reduceIte, reduceCtorEq, Int.reduceAdd, Int.reduceSub, Int.reduceLT, Int.reduceLE, Int.reduceBEq, Int.reduceEq, Int.reduceToNat, undefV, l1, l2, l3, l4, t1, t2, c0, hR]
      exact ⟨rfl, hr⟩
    | none =>
      rw [hT] at c0
      simp only [Option.isSome_none] at c0
      generalize ho : a * 160 + q * 5 = o at *
      have fit : Fit c (((((c.set o (V.bool true)).set (o + 1) (V.int IntKind.i64 f)).set (o + 1 + 1) (V.int IntKind.i64 rt)).set (o + 1 + 1 + 1) (V.bool false)).set (o + 1 + 1 + 1 + 1) (V.bool false)) o (some ⟨f, rt, false, false⟩) := by
        refine ⟨by simp -implicitDefEqProofs (disch := (first | omega | (simp -implicitDefEqProofs only [szs, ne_eq] <;> omega) | fail)) only [go_sem, Nat.reduceAdd, Nat.reduceSub, Nat.reduceMul, Nat.reduceLT, Nat.reduceMod, Nat.reduceDiv, Nat.reduceEqDiff, Nat.reduceBEq, Nat.reduceLeDiff, ↓reduceIte, reduceCtorEq, Int.reduceAdd, Int.reduceSub, Int.reduceLT, Int.reduceLE, Int.reduceBEq, Int.reduceEq, Int.reduceToNat], by simp -implicitDefEqProofs (disch := (first | omega | (simp -implicitDefEqProofs only [szs, ne_eq] <;> omega) | fail)) only [go_sem, Nat.reduceAdd, Nat.reduceSub, Nat.reduceMul, Nat.reduceLT, Nat.reduceMod, Nat.reduceDiv, Nat.reduceEqDiff, Nat.reduceBEq, Nat.reduceLeDiff, ↓reduceIte, reduceCtorEq, Int.reduceAdd, Int.reduceSub, Int.reduceLT, Int.reduceLE, Int.reduceBEq, Int.reduceEq, Int.reduceToNat, Blk.ro_set], fun i hi => by simp -implicitDefEqProofs (disch := (first | omega | (simp -implicitDefEqProofs only [szs, ne_eq] <;> omega) | fail)) only [go_sem, Nat.reduceAdd, Nat.reduceSub, Nat.reduceMul, Nat.reduceLT, Nat.reduceMod, Nat.reduceDiv, Nat.reduceEqDiff, Nat.reduceBEq, Nat.reduceLeDiff, ↓reduceIte, reduceCtorEq, Int.reduceAdd, Int.reduceSub, Int.reduceLT, Int.reduceLE, Int.reduceBEq, Int.reduceEq, Int.reduceToNat], ⟨by simp -implicitDefEqProofs (disch := (first | omega | (simp -implicitDefEqProofs only [szs, ne_eq] <;> omega) | fail)) only [go_sem, Nat.reduceAdd, Nat.reduceSub, Nat.reduceMul, Nat.reduceLT, Nat.reduceMod, Nat.reduceDiv, Nat.reduceEqDiff, Nat.reduceBEq, Nat.reduceLeDiff, ↓reduceIte, reduceCtorEq, Int.reduceAdd, Int.reduceSub, Int.reduceLT, Int.reduceLE, Int.reduceBEq, Int.reduceEq, Int.reduceToNat]; rfl, by simp -implicitDefEqProofs (disch := (first | omega | (simp -implicitDefEqProofs only [szs, ne_eq] <;> omega) | fail)) only [go_sem, Nat.reduceAdd, Nat.reduceSub, Nat.reduceMul, Nat.reduceLT, Nat.reduceMod, Nat.reduceDiv, Nat.reduceEqDiff, Nat.reduceBEq, Nat.reduceLeDiff, ↓reduceIte, reduceCtorEq, Int.reduceAdd, Int.reduceSub, Int.reduceLT, Int.reduceLE, Int.reduceBEq, Int.reduceEq, Int.reduceToNat]; rfl, ?_, ?_, ?_⟩⟩
        · show Blk.get _ (o + 1 + 1) = _
          simp -implicitDefEqProofs (disch := (first | omega | (simp -implicitDefEqProofs only [szs, ne_eq] <;> omega) | fail)) only [go_sem, Nat.reduceAdd, Nat.reduceSub, Nat.reduceMul, Nat.reduceLT, Nat.reduceMod, Nat.reduceDiv, Nat.reduceEqDiff, Nat.reduceBEq, Nat.reduceLeDiff, ↓reduceIte, reduceCtorEq, Int.reduceAdd, Int.reduceSub, Int.reduceLT, Int.reduceLE, Int.reduceBEq, Int.reduceEq, Int.reduceToNat]; rfl
        · show Blk.get _ (o + 1 + 1 + 1) = _
          simp -implicitDefEqProofs (disch := (first | omega | (simp -implicitDefEqProofs only [szs, ne_eq] <;> omega) | fail)) only [go_sem, Nat.reduceAdd, Nat.reduceSub, Nat.reduceMul, Nat.reduceLT, Nat.reduceMod, Nat.reduceDiv, Nat.reduceEqDiff, Nat.reduceBEq, Nat.reduceLeDiff, ↓reduceIte, reduceCtorEq, Int.reduceAdd, Int.reduceSub, Int.reduceLT, Int.reduceLE, Int.reduceBEq, Int.reduceEq, Int.reduceToNat]; rfl
        · show Blk.get _ (o + 1 + 1 + 1 + 1) = _
          simp -implicitDefEqProofs (disch := (first | omega | (simp -implicitDefEqProofs only [szs, ne_eq] <;> omega) | fail)) only [go_sem, Nat.reduceAdd, Nat.reduceSub, Nat.reduceMul, Nat.reduceLT, Nat.reduceMod, Nat.reduceDiv, Nat.reduceEqDiff, Nat.reduceBEq, Nat.reduceLeDiff, ↓reduceIte, reduceCtorEq, Int.reduceAdd, Int.reduceSub, Int.reduceLT, Int.reduceLE, Int.reduceBEq, Int.reduceEq, Int.reduceToNat]; rfl
      simp -implicitDefEqProofs (disch := (first | omega | (simp -implicitDefEqProofs only [szs, ne_eq] <;> omega) | fail)) only [go_sem, Nat.reduceAdd, Nat.reduceSub, Nat.reduceMul, Nat.reduceLT, Nat.reduceMod, Nat.reduceDiv, Nat.reduceEqDiff, Nat.reduceBEq, Nat.reduceLeDiff, ↓reduceIte, reduceCtorEq, Int.reduceAdd, Int.reduceSub, Int.reduceLT, Int.reduceLE, Int.reduceBEq, Int.reduceEq, Int.reduceToNat, undefV, l1, l2, l3, l4, t1, t2, t3, c0, hR, hW, ho]
      exact ⟨rfl, fitR fit⟩
  · have e := bad (.inl (fun h => hs h.1))
    rw [decide_eq_false hs, putT, e]
    simp -implicitDefEqProofs (disch := (first | omega | (simp -implicitDefEqProofs only [szs, ne_eq] <;> omega) | fail)) only [go_sem, Nat.reduceAdd, Nat.reduceSub, Nat.reduceMul, Nat.reduceLT, Nat.reduceMod, Nat.reduceDiv, Nat.reduceEqDiff, Nat.reduceBEq, Nat.reduceLeDiff, ↓reduceIte, reduceCtorEq, Int.reduceAdd, Int.reduceSub, Int.reduceLT, Int.reduceLE, Int.reduceBEq, Int.reduceEq, Int.reduceToNat, undefV]
    exact hr
set_option maxHeartbeats 1000000 in
theorem rget_ok {h : Heap} {R W : Set'} {rd : Nat} {T : Tb} (hr : RefP h rd T) (hR : R rd) (s p : Int) :
    SF Try.prog 43 [.ptr (some (rd, 0)), .int .i64 s, .int .i64 p] h R W fun v h' => v = .tuple [(getC T s p).v, .bool (getC T s p).isSome] ∧ h.n ≤ h'.n ∧ ∀ b, b < h.n → h'.get b = h.get b := by
  have hlt := hr.lt
  refine SF.go hm Try.func43 ir43_eq ?_
  obtain ⟨h1, e1, n1, b1, k1⟩ : ∃ h1, h.push (O.cells (Blk.of [V.int IntKind.i64 0, V.int IntKind.i64 0, V.bool false, V.bool false]) 34) = h1 ∧ h1.n = h.n + 1 ∧ h1.get h.n = some (O.cells (Blk.of [V.int IntKind.i64 0, V.int IntKind.i64 0, V.bool false, V.bool false]) 34) ∧ ∀ b, b < h.n → h1.get b = h.get b := ⟨_, rfl, by simp, w_push_eq rfl _, fun b hb => w_push_ne (by omega) _⟩
  simp -implicitDefEqProofs (disch := (first | omega | (simp -implicitDefEqProofs only [szs, ne_eq] <;> omega) | fail)) only [go_sem, Nat.reduceAdd, Nat.reduceSub, Nat.reduceMul, Nat.reduceLT, Nat.reduceMod, Nat.reduceDiv, Nat.reduceEqDiff, Nat.reduceBEq, Nat.reduceLeDiff, ↓reduceIte, reduceCtorEq, Int.reduceAdd, Int.reduceSub, Int.reduceLT, Int.reduceLE, Int.reduceBEq, Int.reduceEq, Int.reduceToNat, ir43, e1]
  clear e1
  have hr1 := hr.old k1
  refine GCall.of (rask_ok hr1 (.inr hR) s p 0) ?_
  rintro v h1 ⟨rfl, rfl⟩
  obtain ⟨c, t1, t2, t3, t4⟩ := hr1.t
  rcases set_get (T := T) (s := s) (p := p) with ⟨he, e, hg, hT, hok⟩ | ⟨he, hg⟩
  · have hcell := t4.at (okAt0.2 hok)
    rw [he, hg]
    obtain ⟨a, q, rfl, rfl, ha, hq⟩ := nat_of hok
    rw [Int.toNat_natCast, Int.toNat_natCast] at *
    have l1 : (a : Int) < ((16 : Nat) : Int) := by omega
    have l2 : (q : Int) < ((32 : Nat) : Int) := by omega
    have l3 : (0 : Int) ≤ (a : Int) := by omega
    have l4 : (0 : Int) ≤ (q : Int) := by omega
    have hb : a * 160 + q * 5 + 5 ≤ 2560 := by omega
    rw [hT] at hcell
    obtain ⟨c0, c1, c2, c3, c4⟩ := hcell
    generalize ho : a * 160 + q * 5 = o at *
    have d2 : c.get (o + 1 + 1) = _ := c2
    have d3 : c.get (o + 1 + 2) = _ := c3
    have d4 : c.get (o + 1 + 3) = _ := c4
    simp -implicitDefEqProofs (disch := (first | omega | (simp -implicitDefEqProofs only [szs, ne_eq] <;> omega) | fail)) only [go_sem, Nat.reduceAdd, Nat.reduceSub, Nat.reduceMul, Nat.reduceLT, Nat.reduceMod, Nat.reduceDiv, Nat.reduceEqDiff, Nat.reduceBEq, Nat.reduceLeDiff, ↓reduceIte, reduceCtorEq, Int.reduceAdd, Int.reduceSub, Int.reduceLT, Int.reduceLE, Int.reduceBEq, Int.reduceEq, Int.reduceToNat, undefV, l1, l2, l3, l4, t1, t2, c1, c2, c3, c4, d2, d3, d4, hR, b1, Ce.v, Option.isSome_some, ho]
    exact ⟨by omega, fun b hb => by rw [w_set_ne (by omega) (by omega), k1 b hb]⟩
  · have he' : (setE T s p 0 != 0) = true := by simpa using he
    rw [hg]
    simp -implicitDefEqProofs (disch := (first | omega | (simp -implicitDefEqProofs only [szs, ne_eq] <;> omega) | fail)) only [go_sem, Nat.reduceAdd, Nat.reduceSub, Nat.reduceMul, Nat.reduceLT, Nat.reduceMod, Nat.reduceDiv, Nat.reduceEqDiff, Nat.reduceBEq, Nat.reduceLeDiff, ↓reduceIte, reduceCtorEq, Int.reduceAdd, Int.reduceSub, Int.reduceLT, Int.reduceLE, Int.reduceBEq, Int.reduceEq, Int.reduceToNat, undefV, he', b1, Ce.v, Option.isSome_none]
    exact ⟨rfl, by omega, fun b hb => by rw [w_set_ne (by omega) (by omega), k1 b hb]⟩
theorem RefP.fit' {h h' : Heap} {rd : Nat} {T : Tb} (hr : RefP h rd T) {c c' : Blk} (hc : h.get rd = some (.cells c 87)) {s p : Int} (hs : okSP s p) {x : Ce} (hf : Fit c c' (s.toNat * 160 + p.toNat * 5) x) (hb : h'.get rd = some (.cells c' 87)) : RefP h' rd (T.upd s.toNat p.toNat x) := by
  obtain ⟨c0, t1, t2, t3, t4⟩ := hr
  rw [t1] at hc; cases hc
  exact ⟨c', hb, by rw [hf.size]; exact t2, by rw [hf.ro]; exact t3, t4.upd (by unfold okSP at hs; omega) (fun i _ hi => hf.old i hi) hf.cell⟩
set_option maxHeartbeats 1000000 in
theorem rrights_ok {h : Heap} {R W : Set'} {rd : Nat} {T : Tb} (hr : RefP h rd T) (hR : R rd) (hW : W rd) (s p rt : Int) :
    SF Try.prog 31 [.ptr (some (rd, 0)), .int .i64 s, .int .i64 p, .int .i64 rt] h R W fun v h' => v = .int .i64 (setE T s p rt) ∧ RefP h' rd (rgtT T s p rt) := by
  have hlt := hr.lt
  refine SF.go hm Try.func31 ir31_eq ?_
  simp -implicitDefEqProofs (disch := (first | omega | (simp -implicitDefEqProofs only [szs, ne_eq] <;> omega) | fail)) only [go_sem, Nat.reduceAdd, Nat.reduceSub, Nat.reduceMul, Nat.reduceLT, Nat.reduceMod, Nat.reduceDiv, Nat.reduceEqDiff, Nat.reduceBEq, Nat.reduceLeDiff, ↓reduceIte, reduceCtorEq, Int.reduceAdd, Int.reduceSub, Int.reduceLT, Int.reduceLE, Int.reduceBEq, Int.reduceEq, Int.reduceToNat, ir31]
  refine GCall.of (rask_ok hr (.inr hR) s p rt) ?_
  rintro v h1 ⟨rfl, rfl⟩
  obtain ⟨c, t1, t2, t3, t4⟩ := hr.t
  by_cases he : setE T s p rt = 0
  · obtain ⟨hok', ⟨e, hT⟩, hp⟩ := set_some (tb := 0) he
    have hok := hok'.1
    have hcell := t4.at hok'
    have fitR := fun {c'} {x} => RefP.fit (c' := c') (x := x) hr t1 hok
    rw [rgtT, if_pos he, he]
    obtain ⟨a, q, rfl, rfl, ha, hq⟩ := nat_of hok
    rw [Int.toNat_natCast, Int.toNat_natCast] at *
    have l1 : (a : Int) < ((16 : Nat) : Int) := by omega
    have l2 : (q : Int) < ((32 : Nat) : Int) := by omega
    have l3 : (0 : Int) ≤ (a : Int) := by omega
    have l4 : (0 : Int) ≤ (q : Int) := by omega
    have hb : a * 160 + q * 5 + 5 ≤ 2560 := by omega
    rw [hT] at hcell
    rw [hT]
    obtain ⟨c0, c1, c2, c3, c4⟩ := hcell
    generalize ho : a * 160 + q * 5 = o at *
    have fit : Fit c (c.set (o + 1 + 1) (.int .i64 rt)) o (some { e with r := rt }) := by
      refine ⟨by simp -implicitDefEqProofs (disch := (first | omega | (simp -implicitDefEqProofs only [szs, ne_eq] <;> omega) | fail)) only [go_sem, Nat.reduceAdd, Nat.reduceSub, Nat.reduceMul, Nat.reduceLT, Nat.reduceMod, Nat.reduceDiv, Nat.reduceEqDiff, Nat.reduceBEq, Nat.reduceLeDiff, ↓reduceIte, reduceCtorEq, Int.reduceAdd, Int.reduceSub, Int.reduceLT, Int.reduceLE, Int.reduceBEq, Int.reduceEq, Int.reduceToNat], by simp -implicitDefEqProofs (disch := (first | omega | (simp -implicitDefEqProofs only [szs, ne_eq] <;> omega) | fail)) only [go_sem, Nat.reduceAdd, Nat.reduceSub, Nat.reduceMul, Nat.reduceLT, Nat.reduceMod, Nat.reduceDiv, Nat.reduceEqDiff, Nat.reduceBEq, Nat.reduceLeDiff, ↓reduceIte, reduceCtorEq, Int.reduceAdd, Int.reduceSub, Int.reduceLT, Int.reduceLE, Int.reduceBEq, Int.reduceEq, Int.reduceToNat, Blk.ro_set], fun i hi => by simp -implicitDefEqProofs (disch := (first | omega | (simp -implicitDefEqProofs only [szs, ne_eq] <;> omega) | fail)) only [go_sem, Nat.reduceAdd, Nat.reduceSub, Nat.reduceMul, Nat.reduceLT, Nat.reduceMod, Nat.reduceDiv, Nat.reduceEqDiff, Nat.reduceBEq, Nat.reduceLeDiff, ↓reduceIte, reduceCtorEq, Int.reduceAdd, Int.reduceSub, Int.reduceLT, Int.reduceLE, Int.reduceBEq, Int.reduceEq, Int.reduceToNat], ⟨by simp -implicitDefEqProofs (disch := (first | omega | (simp -implicitDefEqProofs only [szs, ne_eq] <;> omega) | fail)) only [go_sem, Nat.reduceAdd, Nat.reduceSub, Nat.reduceMul, Nat.reduceLT, Nat.reduceMod, Nat.reduceDiv, Nat.reduceEqDiff, Nat.reduceBEq, Nat.reduceLeDiff, ↓reduceIte, reduceCtorEq, Int.reduceAdd, Int.reduceSub, Int.reduceLT, Int.reduceLE, Int.reduceBEq, Int.reduceEq, Int.reduceToNat]; exact c0, by simp -implicitDefEqProofs (disch := (first | omega | (simp -implicitDefEqProofs only [szs, ne_eq] <;> omega) | fail)) only [go_sem, Nat.reduceAdd, Nat.reduceSub, Nat.reduceMul, Nat.reduceLT, Nat.reduceMod, Nat.reduceDiv, Nat.reduceEqDiff, Nat.reduceBEq, Nat.reduceLeDiff, ↓reduceIte, reduceCtorEq, Int.reduceAdd, Int.reduceSub, Int.reduceLT, Int.reduceLE, Int.reduceBEq, Int.reduceEq, Int.reduceToNat]; exact c1, ?_, by simp -implicitDefEqProofs (disch := (first | omega | (simp -implicitDefEqProofs only [szs, ne_eq] <;> omega) | fail)) only [go_sem, Nat.reduceAdd, Nat.reduceSub, Nat.reduceMul, Nat.reduceLT, Nat.reduceMod, Nat.reduceDiv, Nat.reduceEqDiff, Nat.reduceBEq, Nat.reduceLeDiff, ↓reduceIte, reduceCtorEq, Int.reduceAdd, Int.reduceSub, Int.reduceLT, Int.reduceLE, Int.reduceBEq, Int.reduceEq, Int.reduceToNat]; exact c3, by simp -implicitDefEqProofs (disch := (first | omega | (simp -implicitDefEqProofs only [szs, ne_eq] <;> omega) | fail)) only [go_sem, Nat.reduceAdd, Nat.reduceSub, Nat.reduceMul, Nat.reduceLT, Nat.reduceMod, Nat.reduceDiv, Nat.reduceEqDiff, Nat.reduceBEq, Nat.reduceLeDiff, ↓reduceIte, reduceCtorEq, Int.reduceAdd, Int.reduceSub, Int.reduceLT, Int.reduceLE, Int.reduceBEq, Int.reduceEq, Int.reduceToNat]; exact c4⟩⟩
      show Blk.get _ (o + 1 + 1) = _
      simp -implicitDefEqProofs (disch := (first | omega | (simp -implicitDefEqProofs only [szs, ne_eq] <;> omega) | fail)) only [go_sem, Nat.reduceAdd, Nat.reduceSub, Nat.reduceMul, Nat.reduceLT, Nat.reduceMod, Nat.reduceDiv, Nat.reduceEqDiff, Nat.reduceBEq, Nat.reduceLeDiff, ↓reduceIte, reduceCtorEq, Int.reduceAdd, Int.reduceSub, Int.reduceLT, Int.reduceLE, Int.reduceBEq, Int.reduceEq, Int.reduceToNat]; rfl
    simp -implicitDefEqProofs (disch := (first | omega | (simp -implicitDefEqProofs only [szs, ne_eq] <;> omega) | fail)) only [go_sem, Nat.reduceAdd, Nat.reduceSub, Nat.reduceMul, Nat.reduceLT, Nat.reduceMod, Nat.reduceDiv, Nat.reduceEqDiff, Nat.reduceBEq, Nat.reduceLeDiff, ↓reduceIte, reduceCtorEq, Int.reduceAdd, Int.reduceSub, Int.reduceLT, Int.reduceLE, Int.reduceBEq, Int.reduceEq, Int.reduceToNat, undefV, l1, l2, l3, l4, t1, t2, t3, hR, hW, ho]
    exact fitR fit
  · have he' : (setE T s p rt != 0) = true := by simpa using he
    rw [rgtT, if_neg he]
    simp -implicitDefEqProofs (disch := (first | omega | (simp -implicitDefEqProofs only [szs, ne_eq] <;> omega) | fail)) only [go_sem, Nat.reduceAdd, Nat.reduceSub, Nat.reduceMul, Nat.reduceLT, Nat.reduceMod, Nat.reduceDiv, Nat.reduceEqDiff, Nat.reduceBEq, Nat.reduceLeDiff, ↓reduceIte, reduceCtorEq, Int.reduceAdd, Int.reduceSub, Int.reduceLT, Int.reduceLE, Int.reduceBEq, Int.reduceEq, Int.reduceToNat, undefV, he']
    exact hr
set_option maxHeartbeats 2000000 in
theorem rclear_ok {h : Heap} {R W : Set'} {rd : Nat} {T : Tb} (hr : RefP h rd T) (hR : R rd) (hW : W rd) (s p : Int) :
    SF Try.prog 29 [.ptr (some (rd, 0)), .int .i64 s, .int .i64 p] h R W fun v h' => v = .tuple [(getC T s p).v, .int .i64 (setE T s p 0)] ∧ RefP h' rd (clrT T s p) := by
  have hlt := hr.lt
  refine SF.go hm Try.func29 ir29_eq ?_
  obtain ⟨h1, e1, n1, b1, k1⟩ : ∃ h1, h.push (O.cells (Blk.of [V.int IntKind.i64 0, V.int IntKind.i64 0, V.bool false, V.bool false]) 34) = h1 ∧ h1.n = h.n + 1 ∧ h1.get h.n = some (O.cells (Blk.of [V.int IntKind.i64 0, V.int IntKind.i64 0, V.bool false, V.bool false]) 34) ∧ ∀ b, b < h.n → h1.get b = h.get b := ⟨_, rfl, by simp, w_push_eq rfl _, fun b hb => w_push_ne (by omega) _⟩
  simp -implicitDefEqProofs (disch := (first | omega | (simp -implicitDefEqProofs only [szs, ne_eq] <;> omega) | fail)) only [go_sem, Nat.reduceAdd, Nat.reduceSub, Nat.reduceMul, Nat.reduceLT, Nat.reduceMod, Nat.reduceDiv, Nat.reduceEqDiff, Nat.reduceBEq, Nat.reduceLeDiff, ↓reduceIte, reduceCtorEq, Int.reduceAdd, Int.reduceSub, Int.reduceLT, Int.reduceLE, Int.reduceBEq, Int.reduceEq, Int.reduceToNat, ir29, e1]
  clear e1
  have hr1 := hr.old k1
  refine GCall.of (rask_ok hr1 (.inr hR) s p 0) ?_
  rintro v h1 ⟨rfl, rfl⟩
  obtain ⟨c, t1, t2, t3, t4⟩ := hr1.t
  rcases set_get (T := T) (s := s) (p := p) with ⟨he, e, hg, hT, hok⟩ | ⟨he, hg⟩
  · have hcell := t4.at (okAt0.2 hok)
    have fitR := fun {h'} {c'} {x} => RefP.fit' (h' := h') (c' := c') (x := x) hr1 t1 hok
    rw [clrT, if_pos he, he, hg]
    obtain ⟨a, q, rfl, rfl, ha, hq⟩ := nat_of hok
    rw [Int.toNat_natCast, Int.toNat_natCast] at *
    have l1 : (a : Int) < ((16 : Nat) : Int) := by omega
    have l2 : (q : Int) < ((32 : Nat) : Int) := by omega
    have l3 : (0 : Int) ≤ (a : Int) := by omega
    have l4 : (0 : Int) ≤ (q : Int) := by omega
    have hb : a * 160 + q * 5 + 5 ≤ 2560 := by omega
    rw [hT] at hcell
    obtain ⟨c0, c1, c2, c3, c4⟩ := hcell
    generalize ho : a * 160 + q * 5 = o at *
    have d2 : c.get (o + 1 + 1) = _ := c2
    have d3 : c.get (o + 1 + 2) = _ := c3
    have d4 : c.get (o + 1 + 3) = _ := c4
    have fit : Fit c (((((c.set o (V.bool false)).set (o + 1) (V.int IntKind.i64 0)).set (o + 1 + 1) (V.int IntKind.i64 0)).set (o + 1 + 1 + 1) (V.bool false)).set (o + 1 + 1 + 1 + 1) (V.bool false)) o none := by
      refine ⟨by simp -implicitDefEqProofs (disch := (first | omega | (simp -implicitDefEqProofs only [szs, ne_eq] <;> omega) | fail)) only [go_sem, Nat.reduceAdd, Nat.reduceSub, Nat.reduceMul, Nat.reduceLT, Nat.reduceMod, Nat.reduceDiv, Nat.reduceEqDiff, Nat.reduceBEq, Nat.reduceLeDiff, ↓reduceIte, reduceCtorEq, Int.reduceAdd, Int.reduceSub, Int.reduceLT, Int.reduceLE, Int.reduceBEq, Int.reduceEq, Int.reduceToNat], by simp -implicitDefEqProofs (disch := (first | omega | (simp -implicitDefEqProofs only [szs, ne_eq] <;> omega) | fail)) only [go_sem, Nat.reduceAdd, Nat.reduceSub, Nat.reduceMul, Nat.reduceLT, Nat.reduceMod, Nat.reduceDiv, Nat.reduceEqDiff, Nat.reduceBEq, Nat.reduceLeDiff, ↓reduceIte, reduceCtorEq, Int.reduceAdd, Int.reduceSub, Int.reduceLT, Int.reduceLE, Int.reduceBEq, Int.reduceEq, Int.reduceToNat, Blk.ro_set], fun i hi => by simp -implicitDefEqProofs (disch := (first | omega | (simp -implicitDefEqProofs only [szs, ne_eq] <;> omega) | fail)) only [go_sem, Nat.reduceAdd, Nat.reduceSub, Nat.reduceMul, Nat.reduceLT, Nat.reduceMod, Nat.reduceDiv, Nat.reduceEqDiff, Nat.reduceBEq, Nat.reduceLeDiff, ↓reduceIte, reduceCtorEq, Int.reduceAdd, Int.reduceSub, Int.reduceLT, Int.reduceLE, Int.reduceBEq, Int.reduceEq, Int.reduceToNat], ⟨by simp -implicitDefEqProofs (disch := (first | omega | (simp -implicitDefEqProofs only [szs, ne_eq] <;> omega) | fail)) only [go_sem, Nat.reduceAdd, Nat.reduceSub, Nat.reduceMul, Nat.reduceLT, Nat.reduceMod, Nat.reduceDiv, Nat.reduceEqDiff, Nat.reduceBEq, Nat.reduceLeDiff, ↓reduceIte, reduceCtorEq, Int.reduceAdd, Int.reduceSub, Int.reduceLT, Int.reduceLE, Int.reduceBEq, Int.reduceEq, Int.reduceToNat]; rfl, by simp -implicitDefEqProofs (disch := (first | omega | (simp -implicitDefEqProofs only [szs, ne_eq] <;> omega) | fail)) only [go_sem, Nat.reduceAdd, Nat.reduceSub, Nat.reduceMul, Nat.reduceLT, Nat.reduceMod, Nat.reduceDiv, Nat.reduceEqDiff, Nat.reduceBEq, Nat.reduceLeDiff, ↓reduceIte, reduceCtorEq, Int.reduceAdd, Int.reduceSub, Int.reduceLT, Int.reduceLE, Int.reduceBEq, Int.reduceEq, Int.reduceToNat]; rfl, ?_, ?_, ?_⟩⟩
      · show Blk.get _ (o + 1 + 1) = _
        simp -implicitDefEqProofs (disch := (first | omega | (simp -implicitDefEqProofs only [szs, ne_eq] <;> omega) | fail)) only [go_sem, Nat.reduceAdd, Nat.reduceSub, Nat.reduceMul, Nat.reduceLT, Nat.reduceMod, Nat.reduceDiv, Nat.reduceEqDiff, Nat.reduceBEq, Nat.reduceLeDiff, ↓reduceIte, reduceCtorEq, Int.reduceAdd, Int.reduceSub, Int.reduceLT, Int.reduceLE, Int.reduceBEq, Int.reduceEq, Int.reduceToNat]; rfl
      · show Blk.get _ (o + 1 + 1 + 1) = _
        simp -implicitDefEqProofs (disch := (first | omega | (simp -implicitDefEqProofs only [szs, ne_eq] <;> omega) | fail)) only [go_sem, Nat.reduceAdd, Nat.reduceSub, Nat.reduceMul, Nat.reduceLT, Nat.reduceMod, Nat.reduceDiv, Nat.reduceEqDiff, Nat.reduceBEq, Nat.reduceLeDiff, ↓reduceIte, reduceCtorEq, Int.reduceAdd, Int.reduceSub, Int.reduceLT, Int.reduceLE, Int.reduceBEq, Int.reduceEq, Int.reduceToNat]; rfl
      · show Blk.get _ (o + 1 + 1 + 1 + 1) = _
        simp -implicitDefEqProofs (disch := (first | omega | (simp -implicitDefEqProofs only [szs, ne_eq] <;> omega) | fail)) only [go_sem, Nat.reduceAdd, Nat.reduceSub, Nat.reduceMul, Nat.reduceLT, Nat.reduceMod, Nat.reduceDiv, Nat.reduceEqDiff, Nat.reduceBEq, Nat.reduceLeDiff, ↓reduceIte, reduceCtorEq, Int.reduceAdd, Int.reduceSub, Int.reduceLT, Int.reduceLE, Int.reduceBEq, Int.reduceEq, Int.reduceToNat]; rfl
    obtain ⟨h3, e3, n3, b3, k3⟩ : ∃ h3, (h1.push (O.cells (Blk.of [V.int IntKind.i64 0, V.int IntKind.i64 0, V.bool false, V.bool false]) 34)).set h1.n (O.cells (((((Blk.of [V.int IntKind.i64 0, V.int IntKind.i64 0, V.bool false, V.bool false]).set 0 (V.int IntKind.i64 (Ce.f (some e)))).set 1 (V.int IntKind.i64 (Ce.r (some e)))).set 2 (V.bool (Ce.t (some e)))).set 3 (V.bool (Ce.w (some e)))) 34) = h3 ∧ h3.n = h1.n + 1 ∧
        (∃ d, h3.get h1.n = some (.cells d 34) ∧ d.size = 4 ∧ d.get 0 = .int .i64 (Ce.f (some e)) ∧ d.get 1 = .int .i64 (Ce.r (some e)) ∧ d.get 2 = .bool (Ce.t (some e)) ∧ d.get 3 = .bool (Ce.w (some e))) ∧ ∀ b, b < h1.n → h3.get b = h1.get b := ⟨_, rfl, by simp, ⟨_, w_set_eq (by simp) rfl _, rfl, by simp -implicitDefEqProofs (disch := (first | omega | (simp -implicitDefEqProofs only [szs, ne_eq] <;> omega) | fail)) only [go_sem, Nat.reduceAdd, Nat.reduceSub, Nat.reduceMul, Nat.reduceLT, Nat.reduceMod, Nat.reduceDiv, Nat.reduceEqDiff, Nat.reduceBEq, Nat.reduceLeDiff, ↓reduceIte, reduceCtorEq, Int.reduceAdd, Int.reduceSub, Int.reduceLT, Int.reduceLE, Int.reduceBEq, Int.reduceEq, Int.reduceToNat], by simp -implicitDefEqProofs (disch := (first | omega | (simp -implicitDefEqProofs only [szs, ne_eq] <;> omega) | fail)) only [go_sem, Nat.reduceAdd, Nat.reduceSub, Nat.reduceMul, Nat.reduceLT, Nat.reduceMod, Nat.reduceDiv, Nat.reduceEqDiff, Nat.reduceBEq, Nat.reduceLeDiff, ↓reduceIte, reduceCtorEq, Int.reduceAdd, Int.reduceSub, Int.reduceLT, Int.reduceLE, Int.reduceBEq, Int.reduceEq, Int.reduceToNat], by simp -implicitDefEqProofs (disch := (first | omega | (simp -implicitDefEqProofs only [szs, ne_eq] <;> omega) | fail)) only [go_sem, Nat.reduceAdd, Nat.reduceSub, Nat.reduceMul, Nat.reduceLT, Nat.reduceMod, Nat.reduceDiv, Nat.reduceEqDiff, Nat.reduceBEq, Nat.reduceLeDiff, ↓reduceIte, reduceCtorEq, Int.reduceAdd, Int.reduceSub, Int.reduceLT, Int.reduceLE, Int.reduceBEq, Int.reduceEq, Int.reduceToNat], by simp -implicitDefEqProofs (disch := (first | omega | (simp -implicitDefEqProofs only [szs, ne_eq] <;> omega) | fail)) only [go_sem, Nat.reduceAdd, Nat.reduceSub, Nat.reduceMul, Nat.reduceLT, Nat.reduceMod, Nat.reduceDiv, Nat.reduceEqDiff, Nat.reduceBEq, Nat.reduceLeDiff, ↓reduceIte, reduceCtorEq, Int.reduceAdd, Int.reduceSub, Int.reduceLT, Int.reduceLE, Int.reduceBEq, Int.reduceEq, Int.reduceToNat]⟩, fun b hb => by simp -implicitDefEqProofs (disch := (first | omega | (simp -implicitDefEqProofs only [szs, ne_eq] <;> omega) | fail)) only [go_sem, Nat.reduceAdd, Nat.reduceSub, Nat.reduceMul, Nat.reduceLT, Nat.reduceMod, Nat.reduceDiv, Nat.reduceEqDiff, Nat.reduceBEq, Nat.reduceLeDiff, ↓reduceIte, reduceCtorEq, Int.reduceAdd, Int.reduceSub, Int.reduceLT, Int.reduceLE, Int.reduceBEq, Int.reduceEq, Int.reduceToNat]⟩
    obtain ⟨d, b3, f1, f2, f3, f4, f5⟩ := b3
    have t1' := (k3 rd (by omega)).trans t1
    have b1' := (k3 h.n (by omega)).trans b1
    simp -implicitDefEqProofs (disch := (first | omega | (simp -implicitDefEqProofs only [szs, ne_eq] <;> omega) | fail)) only [go_sem, Nat.reduceAdd, Nat.reduceSub, Nat.reduceMul, Nat.reduceLT, Nat.reduceMod, Nat.reduceDiv, Nat.reduceEqDiff, Nat.reduceBEq, Nat.reduceLeDiff, ↓reduceIte, reduceCtorEq, Int.reduceAdd, Int.reduceSub, Int.reduceLT, Int.reduceLE, Int.reduceBEq, Int.reduceEq, Int.reduceToNat, undefV, l1, l2, l3, l4, t1, t1', t2, t3, c1, c2, c3, c4, d2, d3, d4, hR, hW, e3, b3, b1', f1, f2, f3, f4, f5, Ce.v, ho]
    exact ⟨.inl (by omega), .inl (by omega), fitR fit (by simp -implicitDefEqProofs (disch := (first | omega | (simp -implicitDefEqProofs only [szs, ne_eq] <;> omega) | fail)) only [go_sem, Nat.reduceAdd, Nat.reduceSub, Nat.reduceMul, Nat.reduceLT, Nat.reduceMod, Nat.reduceDiv, Nat.reduceEqDiff, Nat.reduceBEq, Nat.reduceLeDiff, ↓reduceIte, reduceCtorEq, Int.reduceAdd, Int.reduceSub, Int.reduceLT, Int.reduceLE, Int.reduceBEq, Int.reduceEq, Int.reduceToNat])⟩
  · have he' : (setE T s p 0 != 0) = true := by simpa using he
    rw [clrT, if_neg he, hg]
    simp -implicitDefEqProofs (disch := (first | omega | (simp -implicitDefEqProofs only [szs, ne_eq] <;> omega) | fail)) only [go_sem, Nat.reduceAdd, Nat.reduceSub, Nat.reduceMul, Nat.reduceLT, Nat.reduceMod, Nat.reduceDiv, Nat.reduceEqDiff, Nat.reduceBEq, Nat.reduceLeDiff, ↓reduceIte, reduceCtorEq, Int.reduceAdd, Int.reduceSub, Int.reduceLT, Int.reduceLE, Int.reduceBEq, Int.reduceEq, Int.reduceToNat, undefV, he', b1, Ce.v]
    exact ⟨rfl, hr1.same (w_set_ne (by omega) (by omega) _)⟩
set_option maxHeartbeats 2000000 in
theorem rclean_ok {h : Heap} {R W : Set'} {rd : Nat} {T : Tb} (hr : RefP h rd T) (hR : R rd) (hW : W rd) (s p : Int) :
    SF Try.prog 34 [.ptr (some (rd, 0)), .int .i64 s, .int .i64 p] h R W fun v h' => v = .tuple [(getC T s p).v, .int .i64 (setE T s p 0)] ∧ RefP h' rd (clnT T s p) := by
  have hlt := hr.lt
  refine SF.go hm Try.func34 ir34_eq ?_
  obtain ⟨h1, e1, n1, b1, k1⟩ : ∃ h1, h.push (O.cells (Blk.of [V.int IntKind.i64 0, V.int IntKind.i64 0, V.bool false, V.bool false]) 34) = h1 ∧ h1.n = h.n + 1 ∧ h1.get h.n = some (O.cells (Blk.of [V.int IntKind.i64 0, V.int IntKind.i64 0, V.bool false, V.bool false]) 34) ∧ ∀ b, b < h.n → h1.get b = h.get b := ⟨_, rfl, by simp, w_push_eq rfl _, fun b hb => w_push_ne (by omega) _⟩
  simp -implicitDefEqProofs (disch := (first | omega | (simp -implicitDefEqProofs only [szs, ne_eq] <;> omega) | fail)) only [go_sem, Nat.reduceAdd, Nat.reduceSub, Nat.reduceMul, Nat.reduceLT, Nat.reduceMod, Nat.reduceDiv, Nat.reduceEqDiff, Nat.reduceBEq, Nat.reduceLeDiff, ↓reduceIte, reduceCtorEq, Int.reduceAdd, Int.reduceSub, Int.reduceLT, Int.reduceLE, Int.reduceBEq, Int.reduceEq, Int.reduceToNat, ir34, e1]
  clear e1
  have hr1 := hr.old k1
  refine GCall.of (rask_ok hr1 (.inr hR) s p 0) ?_
  rintro v h1 ⟨rfl, rfl⟩
  obtain ⟨c, t1, t2, t3, t4⟩ := hr1.t
  rcases set_get (T := T) (s := s) (p := p) with ⟨he, e, hg, hT, hok⟩ | ⟨he, hg⟩
  · have hcell := t4.at (okAt0.2 hok)
    have fitR := fun {h'} {c'} {x} => RefP.fit' (h' := h') (c' := c') (x := x) hr1 t1 hok
    rw [clnT, if_pos he, he, hg, hT]
    obtain ⟨a, q, rfl, rfl, ha, hq⟩ := nat_of hok
    rw [Int.toNat_natCast, Int.toNat_natCast] at *
    have l1 : (a : Int) < ((16 : Nat) : Int) := by omega
    have l2 : (q : Int) < ((32 : Nat) : Int) := by omega
    have l3 : (0 : Int) ≤ (a : Int) := by omega
    have l4 : (0 : Int) ≤ (q : Int) := by omega
    have hb : a * 160 + q * 5 + 5 ≤ 2560 := by omega
    rw [hT] at hcell
    obtain ⟨c0, c1, c2, c3, c4⟩ := hcell
    generalize ho : a * 160 + q * 5 = o at *
    have d2 : c.get (o + 1 + 1) = _ := c2
    have d3 : c.get (o + 1 + 2) = _ := c3
    have d4 : c.get (o + 1 + 3) = _ := c4
    have fit : Fit c ((c.set (o + 1 + 2) (.bool false)).set (o + 1 + 3) (.bool false)) o (some { e with t := false, w := false }) := by
      refine ⟨by simp -implicitDefEqProofs (disch := (first | omega | (simp -implicitDefEqProofs only [szs, ne_eq] <;> omega) | fail)) only [go_sem, Nat.reduceAdd, Nat.reduceSub, Nat.reduceMul, Nat.reduceLT, Nat.reduceMod, Nat.reduceDiv, Nat.reduceEqDiff, Nat.reduceBEq, Nat.reduceLeDiff, ↓reduceIte, reduceCtorEq, Int.reduceAdd, Int.reduceSub, Int.reduceLT, Int.reduceLE, Int.reduceBEq, Int.reduceEq, Int.reduceToNat], by simp -implicitDefEqProofs (disch := (first | omega | (simp -implicitDefEqProofs only [szs, ne_eq] <;> omega) | fail)) only [go_sem, Nat.reduceAdd, Nat.reduceSub, Nat.reduceMul, Nat.reduceLT, Nat.reduceMod, Nat.reduceDiv, Nat.reduceEqDiff, Nat.reduceBEq, Nat.reduceLeDiff, ↓reduceIte, reduceCtorEq, Int.reduceAdd, Int.reduceSub, Int.reduceLT, Int.reduceLE, Int.reduceBEq, Int.reduceEq, Int.reduceToNat, Blk.ro_set], fun i hi => by simp -implicitDefEqProofs (disch := (first | omega | (simp -implicitDefEqProofs only [szs, ne_eq] <;> omega) | fail)) only [go_sem, Nat.reduceAdd, Nat.reduceSub, Nat.reduceMul, Nat.reduceLT, Nat.reduceMod, Nat.reduceDiv, Nat.reduceEqDiff, Nat.reduceBEq, Nat.reduceLeDiff, ↓reduceIte, reduceCtorEq, Int.reduceAdd, Int.reduceSub, Int.reduceLT, Int.reduceLE, Int.reduceBEq, Int.reduceEq, Int.reduceToNat], ⟨by simp -implicitDefEqProofs (disch := (first | omega | (simp -implicitDefEqProofs only [szs, ne_eq] <;> omega) | fail)) only [go_sem, Nat.reduceAdd, Nat.reduceSub, Nat.reduceMul, Nat.reduceLT, Nat.reduceMod, Nat.reduceDiv, Nat.reduceEqDiff, Nat.reduceBEq, Nat.reduceLeDiff, ↓reduceIte, reduceCtorEq, Int.reduceAdd, Int.reduceSub, Int.reduceLT, Int.reduceLE, Int.reduceBEq, Int.reduceEq, Int.reduceToNat]; exact c0, by simp -implicitDefEqProofs (disch := (first | omega | (simp -implicitDefEqProofs only [szs, ne_eq] <;> omega) | fail)) only [go_sem, Nat.reduceAdd, Nat.reduceSub, Nat.reduceMul, Nat.reduceLT, Nat.reduceMod, Nat.reduceDiv, Nat.reduceEqDiff, Nat.reduceBEq, Nat.reduceLeDiff, ↓reduceIte, reduceCtorEq, Int.reduceAdd, Int.reduceSub, Int.reduceLT, Int.reduceLE, Int.reduceBEq, Int.reduceEq, Int.reduceToNat]; exact c1, by simp -implicitDefEqProofs (disch := (first | omega | (simp -implicitDefEqProofs only [szs, ne_eq] <;> omega) | fail)) only [go_sem, Nat.reduceAdd, Nat.reduceSub, Nat.reduceMul, Nat.reduceLT, Nat.reduceMod, Nat.reduceDiv, Nat.reduceEqDiff, Nat.reduceBEq, Nat.reduceLeDiff, ↓reduceIte, reduceCtorEq, Int.reduceAdd, Int.reduceSub, Int.reduceLT, Int.reduceLE, Int.reduceBEq, Int.reduceEq, Int.reduceToNat]; exact c2, ?_, ?_⟩⟩
      · show Blk.get _ (o + 1 + 2) = _
        simp -implicitDefEqProofs (disch := (first | omega | (simp -implicitDefEqProofs only [szs, ne_eq] <;> omega) | fail)) only [go_sem, Nat.reduceAdd, Nat.reduceSub, Nat.reduceMul, Nat.reduceLT, Nat.reduceMod, Nat.reduceDiv, Nat.reduceEqDiff, Nat.reduceBEq, Nat.reduceLeDiff, ↓reduceIte, reduceCtorEq, Int.reduceAdd, Int.reduceSub, Int.reduceLT, Int.reduceLE, Int.reduceBEq, Int.reduceEq, Int.reduceToNat]; rfl
      · show Blk.get _ (o + 1 + 3) = _
        simp -implicitDefEqProofs (disch := (first | omega | (simp -implicitDefEqProofs only [szs, ne_eq] <;> omega) | fail)) only [go_sem, Nat.reduceAdd, Nat.reduceSub, Nat.reduceMul, Nat.reduceLT, Nat.reduceMod, Nat.reduceDiv, Nat.reduceEqDiff, Nat.reduceBEq, Nat.reduceLeDiff, ↓reduceIte, reduceCtorEq, Int.reduceAdd, Int.reduceSub, Int.reduceLT, Int.reduceLE, Int.reduceBEq, Int.reduceEq, Int.reduceToNat]; rfl
    obtain ⟨h3, e3, n3, b3, k3⟩ : ∃ h3, (h1.push (O.cells (Blk.of [V.int IntKind.i64 0, V.int IntKind.i64 0, V.bool false, V.bool false]) 34)).set h1.n (O.cells (((((Blk.of [V.int IntKind.i64 0, V.int IntKind.i64 0, V.bool false, V.bool false]).set 0 (V.int IntKind.i64 (Ce.f (some e)))).set 1 (V.int IntKind.i64 (Ce.r (some e)))).set 2 (V.bool (Ce.t (some e)))).set 3 (V.bool (Ce.w (some e)))) 34) = h3 ∧ h3.n = h1.n + 1 ∧
        (∃ d, h3.get h1.n = some (.cells d 34) ∧ d.size = 4 ∧ d.get 0 = .int .i64 (Ce.f (some e)) ∧ d.get 1 = .int .i64 (Ce.r (some e)) ∧ d.get 2 = .bool (Ce.t (some e)) ∧ d.get 3 = .bool (Ce.w (some e))) ∧ ∀ b, b < h1.n → h3.get b = h1.get b := ⟨_, rfl, by simp, ⟨_, w_set_eq (by simp) rfl _, rfl, by simp -implicitDefEqProofs (disch := (first | omega | (simp -implicitDefEqProofs only [szs, ne_eq] <;> omega) | fail)) only [go_sem, Nat.reduceAdd, Nat.reduceSub, Nat.reduceMul, Nat.reduceLT, Nat.reduceMod, Nat.reduceDiv, Nat.reduceEqDiff, Nat.reduceBEq, Nat.reduceLeDiff, ↓reduceIte, reduceCtorEq, Int.reduceAdd, Int.reduceSub, Int.reduceLT, Int.reduceLE, Int.reduceBEq, Int.reduceEq, Int.reduceToNat], by simp -implicitDefEqProofs (disch := (first | omega | (simp -implicitDefEqProofs only [szs, ne_eq] <;> omega) | fail)) only [go_sem, Nat.reduceAdd, Nat.reduceSub, Nat.reduceMul, Nat.reduceLT, Nat.reduceMod, Nat.reduceDiv, Nat.reduceEqDiff, Nat.reduceBEq, Nat.reduceLeDiff, ↓reduceIte, reduceCtorEq, Int.reduceAdd, Int.reduceSub, Int.reduceLT, Int.reduceLE, Int.reduceBEq, Int.reduceEq, Int.reduceToNat], by simp -implicitDefEqProofs (disch := (first | omega | (simp -implicitDefEqProofs only [szs, ne_eq] <;> omega) | fail)) only [go_sem, Nat.reduceAdd, Nat.reduceSub, Nat.reduceMul, Nat.reduceLT, Nat.reduceMod, Nat.reduceDiv, Nat.reduceEqDiff, Nat.reduceBEq, Nat.reduceLeDiff, ↓reduceIte, reduceCtorEq, Int.reduceAdd, Int.reduceSub, Int.reduceLT, Int.reduceLE, Int.reduceBEq, Int.reduceEq, Int.reduceToNat], by simp -implicitDefEqProofs (disch := (first | omega | (simp -implicitDefEqProofs only [szs, ne_eq] <;> omega) | fail)) only [go_sem, Nat.reduceAdd, Nat.reduceSub, Nat.reduceMul, Nat.reduceLT, Nat.reduceMod, Nat.reduceDiv, Nat.reduceEqDiff, Nat.reduceBEq, Nat.reduceLeDiff, ↓reduceIte, reduceCtorEq, Int.reduceAdd, Int.reduceSub, Int.reduceLT, Int.reduceLE, Int.reduceBEq, Int.reduceEq, Int.reduceToNat]⟩, fun b hb => by simp -implicitDefEqProofs (disch := (first | omega | (simp -implicitDefEqProofs only [szs, ne_eq] <;> omega) | fail)) only [go_sem, Nat.reduceAdd, Nat.reduceSub, Nat.reduceMul, Nat.reduceLT, Nat.reduceMod, Nat.reduceDiv, Nat.reduceEqDiff, Nat.reduceBEq, Nat.reduceLeDiff, ↓reduceIte, reduceCtorEq, Int.reduceAdd, Int.reduceSub, Int.reduceLT, Int.reduceLE, Int.reduceBEq, Int.reduceEq, Int.reduceToNat]⟩
    obtain ⟨d, b3, f1, f2, f3, f4, f5⟩ := b3
    have t1' := (k3 rd (by omega)).trans t1
    have b1' := (k3 h.n (by omega)).trans b1
    simp -implicitDefEqProofs (disch := (first | omega | (simp -implicitDefEqProofs only [szs, ne_eq] <;> omega) | fail)) only [go_sem, Nat.reduceAdd, Nat.reduceSub, Nat.reduceMul, Nat.reduceLT, Nat.reduceMod, Nat.reduceDiv, Nat.reduceEqDiff, Nat.reduceBEq, Nat.reduceLeDiff, ↓reduceIte, reduceCtorEq, Int.reduceAdd, Int.reduceSub, Int.reduceLT, Int.reduceLE, Int.reduceBEq, Int.reduceEq, Int.reduceToNat, undefV, l1, l2, l3, l4, t1, t1', t2, t3, c1, c2, c3, c4, d2, d3, d4, hR, hW, e3, b3, b1', f1, f2, f3, f4, f5, Ce.v, ho]
    refine ⟨.inl (by omega), ?_, .inl (by omega), fitR fit (by simp -implicitDefEqProofs (disch := (first | omega | (simp -implicitDefEqProofs only [szs, ne_eq] <;> omega) | fail)) only [go_sem, Nat.reduceAdd, Nat.reduceSub, Nat.reduceMul, Nat.reduceLT, Nat.reduceMod, Nat.reduceDiv, Nat.reduceEqDiff, Nat.reduceBEq, Nat.reduceLeDiff, ↓reduceIte, reduceCtorEq, Int.reduceAdd, Int.reduceSub, Int.reduceLT, Int.reduceLE, Int.reduceBEq, Int.reduceEq, Int.reduceToNat])⟩
    simp only [List.not_mem_nil, or_false, false_or, and_false, false_and, false_implies, implies_true, not_false_eq_true, List.mem_singleton, List.mem_cons, and_true, true_and]
    all_goals (try and_intros)
    all_goals (intros; omega)
  · have he' : (setE T s p 0 != 0) = true := by simpa using he
    rw [clnT, if_neg he, hg]
    simp -implicitDefEqProofs (disch := (first | omega | (simp -implicitDefEqProofs only [szs, ne_eq] <;> omega) | fail)) only [go_sem, Nat.reduceAdd, Nat.reduceSub, Nat.reduceMul, Nat.reduceLT, Nat.reduceMod, Nat.reduceDiv, Nat.reduceEqDiff, Nat.reduceBEq, Nat.reduceLeDiff, ↓reduceIte, reduceCtorEq, Int.reduceAdd, Int.reduceSub, Int.reduceLT, Int.reduceLE, Int.reduceBEq, Int.reduceEq, Int.reduceToNat, undefV, he', b1, Ce.v]
    exact ⟨rfl, hr1.same (w_set_ne (by omega) (by omega) _)⟩
theorem quo256 {a : Int} (ha : 0 ≤ a ∧ a ≤ 4294967295) : intBin .quo .u32 a 256 = some (.int .u32 (a / 256)) := by
  have h : a.tdiv 256 = a / 256 := Int.tdiv_eq_ediv_of_nonneg ha.1
  have w : IntKind.u32.wrap (a / 256) = a / 256 := by
    simp [IntKind.wrap, IntKind.bits, IntKind.signed]; omega
  show (if (256 : Int) = 0 then none else some (V.int .u32 (IntKind.u32.wrap (a.tdiv 256)))) = _
  rw [if_neg (by omega), h, w]
theorem rem256 {a : Int} (ha : 0 ≤ a) : intBin .rem .u32 a 256 = some (.int .u32 (a % 256)) := by
  have h : a.tmod 256 = a % 256 := Int.tmod_eq_emod_of_nonneg ha
  show (if (256 : Int) = 0 then none else some (V.int .u32 (a.tmod 256))) = _
  rw [if_neg (by omega), h]
set_option maxHeartbeats 4000000 in
theorem raskat_ok {h : Heap} {R W : Set'} {rd : Nat} {T : Tb} (hr : RefP h rd T) (hR : R rd) (hW : W rd) (s a rt : Int) (ha : 0 ≤ a ∧ a ≤ 4294967295) :
    SF Try.prog 32 [.ptr (some (rd, 0)), .int .i64 s, .int .u32 a, .int .i64 rt] h R W fun v h' => v = .tuple [.int .i64 (askF T s a rt), .int .i64 (askO T s a rt), .int .i64 (askE T s a rt)] ∧ RefP h' rd (askT T s a rt) := by
  have hlt := hr.lt
  obtain ⟨c, t1, t2, t3, t4⟩ := hr.t
  refine SF.go hm Try.func32 ir32_eq ?_
  have bad : ¬ (okS s ∧ okR rt) → askE T s a rt = 2 := fun h => if_pos h
  by_cases hs0 : s < 0
  · have e := bad (fun h => by have := h.1.1; omega)
    rw [askF, askO, askT, e]
    simp -implicitDefEqProofs (disch := (first | omega | (simp -implicitDefEqProofs only [szs, ne_eq] <;> omega) | fail)) only [go_sem, Nat.reduceAdd, Nat.reduceSub, Nat.reduceMul, Nat.reduceLT, Nat.reduceMod, Nat.reduceDiv, Nat.reduceEqDiff, Nat.reduceBEq, Nat.reduceLeDiff, ↓reduceIte, reduceCtorEq, Int.reduceAdd, Int.reduceSub, Int.reduceLT, Int.reduceLE, Int.reduceBEq, Int.reduceEq, Int.reduceToNat, ir32, undefV]
    exact hr
  by_cases hs1 : 16 ≤ s
  · have e := bad (fun h => by have := h.1.2; omega)
    rw [askF, askO, askT, e]
    simp -implicitDefEqProofs (disch := (first | omega | (simp -implicitDefEqProofs only [szs, ne_eq] <;> omega) | fail)) only [go_sem, Nat.reduceAdd, Nat.reduceSub, Nat.reduceMul, Nat.reduceLT, Nat.reduceMod, Nat.reduceDiv, Nat.reduceEqDiff, Nat.reduceBEq, Nat.reduceLeDiff, ↓reduceIte, reduceCtorEq, Int.reduceAdd, Int.reduceSub, Int.reduceLT, Int.reduceLE, Int.reduceBEq, Int.reduceEq, Int.reduceToNat, ir32, undefV]
    exact hr
  have hs : okS s := ⟨by omega, by omega⟩
  by_cases hrt : okR rt
  · have ha1 : 0 ≤ a / 256 ∧ a / 256 ≤ 16777215 := by omega
    have key : ∃ x1 x2 x4 : Bool, (rt != 1) = x1 ∧ (rt != 2) = x2 ∧ (rt != 4) = x4 ∧ (x1 = false ∨ x1 = true ∧ x2 = false ∨ x1 = true ∧ x2 = true ∧ x4 = false) := by
      refine ⟨_, _, _, rfl, rfl, rfl, ?_⟩
      rcases hrt with rfl | rfl | rfl
      · exact .inl rfl
      · exact .inr (.inl ⟨rfl, rfl⟩)
      · exact .inr (.inr ⟨rfl, rfl, rfl⟩)
    obtain ⟨x1, x2, x4, q1, q2, q4, hx⟩ := key
    by_cases hp : 32 ≤ a / 256
    · have ee : askE T s a rt = 10 := by
        have hg : getC T s (a / 256) = none := if_neg (fun h => by have := h.2.2; omega)
        rw [askE, if_neg (fun h => h ⟨hs, hrt⟩), hg]; rfl
      rw [askF, askO, askT, ee]
      rcases hx with rfl | ⟨rfl, rfl⟩ | ⟨rfl, rfl, rfl⟩
      all_goals
        simp -implicitDefEqProofs (disch := (first | omega | (simp -implicitDefEqProofs only [szs, ne_eq] <;> omega) | fail)) only [go_sem, Nat.reduceAdd, Nat.reduceSub, Nat.reduceMul, Nat.reduceLT, Nat.reduceMod, Nat.reduceDiv, Nat.reduceEqDiff, Nat.reduceBEq, Nat.reduceLeDiff, ↓reduceIte, reduceCtorEq, Int.reduceAdd, Int.reduceSub, Int.reduceLT, Int.reduceLE, Int.reduceBEq, Int.reduceEq, Int.reduceToNat, ir32, undefV, q1, q2, q4, ↓quo256 ha, ↓cv28, ↓c28]
        exact hr
    have hok : okSP s (a / 256) := ⟨hs, by omega, by omega⟩
    have hgt : getC T s (a / 256) = T s.toNat (a / 256).toNat := if_pos hok
    have hcell := t4.at (okAt0.2 hok)
    have fitR := fun {h'} {c'} {x} => RefP.fit' (h' := h') (c' := c') (x := x) hr t1 hok
    have hE : askE T s a rt = askM (T s.toNat (a / 256).toNat) rt := by rw [askE, if_neg (fun h => h ⟨hs, hrt⟩), hgt]
    rw [askF, askO, askT, hE, hgt]
    obtain ⟨b, q, hsb, hpq, hb1, hq1⟩ := nat_of hok
    have hcv : (IntKind.i64.wrap (a / 256)) = a / 256 := IntWalk.i64_in _ (by omega)
    subst hsb
    generalize hgp : a / 256 = pg at *
    subst hpq
    rw [Int.toNat_natCast, Int.toNat_natCast] at *
    have l1 : (b : Int) < ((16 : Nat) : Int) := by omega
    have l2 : (q : Int) < ((32 : Nat) : Int) := by omega
    have l3 : (0 : Int) ≤ (b : Int) := by omega
    have l4 : (0 : Int) ≤ (q : Int) := by omega
    have hb : b * 160 + q * 5 + 5 ≤ 2560 := by omega
    have hqa : intBin .quo .u32 a 256 = some (.int .u32 (q : Int)) := by rw [quo256 ha, hgp]
    cases hT : T b q with
    | none =>
      rw [hT] at hcell
      obtain ⟨c0, c1, c2, c3, c4⟩ := hcell
      simp only [Option.isSome_none] at c0
      rw [show askM none rt = 10 from rfl]
      rcases hx with rfl | ⟨rfl, rfl⟩ | ⟨rfl, rfl, rfl⟩
      all_goals
        simp -implicitDefEqProofs (disch := (first | omega | (simp -implicitDefEqProofs only [szs, ne_eq] <;> omega) | fail)) only [go_sem, Nat.reduceAdd, Nat.reduceSub, Nat.reduceMul, Nat.reduceLT, Nat.reduceMod, Nat.reduceDiv, Nat.reduceEqDiff, Nat.reduceBEq, Nat.reduceLeDiff, ↓reduceIte, reduceCtorEq, Int.reduceAdd, Int.reduceSub, Int.reduceLT, Int.reduceLE, Int.reduceBEq, Int.reduceEq, Int.reduceToNat, ir32, undefV, q1, q2, q4, ↓hqa, ↓cv28, ↓c28, l1, l2, l3, l4, t1, t2, c0, hR]
        exact hr
    | some e =>
      rw [hT] at hcell
      obtain ⟨c0, c1, c2, c3, c4⟩ := hcell
      simp only [Option.isSome_some] at c0
      generalize ho : b * 160 + q * 5 = o at *
      have d2 : c.get (o + 1 + 1) = _ := c2
      have d3 : c.get (o + 1 + 2) = _ := c3
      have d4 : c.get (o + 1 + 3) = _ := c4
      obtain ⟨h3, e3, n3, b3, k3⟩ : ∃ h3, (h.push (O.cells (Blk.of [V.int IntKind.i64 0, V.int IntKind.i64 0, V.bool false, V.bool false]) 34)).set h.n (O.cells (((((Blk.of [V.int IntKind.i64 0, V.int IntKind.i64 0, V.bool false, V.bool false]).set 0 (V.int IntKind.i64 (Ce.f (some e)))).set 1 (V.int IntKind.i64 (Ce.r (some e)))).set 2 (V.bool (Ce.t (some e)))).set 3 (V.bool (Ce.w (some e)))) 34) = h3 ∧ h3.n = h.n + 1 ∧
        (∃ d, h3.get h.n = some (.cells d 34) ∧ d.size = 4 ∧ d.get 0 = .int .i64 (Ce.f (some e)) ∧ d.get 1 = .int .i64 (Ce.r (some e)) ∧ d.get 2 = .bool (Ce.t (some e)) ∧ d.get 3 = .bool (Ce.w (some e))) ∧ ∀ b, b < h.n → h3.get b = h.get b := ⟨_, rfl, by simp, ⟨_, w_set_eq (by simp) rfl _, rfl, by simp -implicitDefEqProofs (disch := (first | omega | (simp -implicitDefEqProofs only [szs, ne_eq] <;> omega) | fail)) only [go_sem, Nat.reduceAdd, Nat.reduceSub, Nat.reduceMul, Nat.reduceLT, Nat.reduceMod, Nat.reduceDiv, Nat.reduceEqDiff, Nat.reduceBEq, Nat.reduceLeDiff, ↓reduceIte, reduceCtorEq, Int.reduceAdd, Int.reduceSub, Int.reduceLT, Int.reduceLE, Int.reduceBEq, Int.reduceEq, Int.reduceToNat], by simp -implicitDefEqProofs (disch := (first | omega | (simp -implicitDefEqProofs only [szs, ne_eq] <;> omega) | fail)) only [go_sem, Nat.reduceAdd, Nat.reduceSub, Nat.reduceMul, Nat.reduceLT, Nat.reduceMod, Nat.reduceDiv, Nat.reduceEqDiff, Nat.reduceBEq, Nat.reduceLeDiff, ↓reduceIte, reduceCtorEq, Int.reduceAdd, Int.reduceSub, Int.reduceLT, Int.reduceLE, Int.reduceBEq, Int.reduceEq, Int.reduceToNat], by simp -implicitDefEqProofs (disch := (first | omega | (simp -implicitDefEqProofs only [szs, ne_eq] <;> omega) | fail)) only [go_sem, Nat.reduceAdd, Nat.reduceSub, Nat.reduceMul, Nat.reduceLT, Nat.reduceMod, Nat.reduceDiv, Nat.reduceEqDiff, Nat.reduceBEq, Nat.reduceLeDiff, ↓reduceIte, reduceCtorEq, Int.reduceAdd, Int.reduceSub, Int.reduceLT, Int.reduceLE, Int.reduceBEq, Int.reduceEq, Int.reduceToNat], by simp -implicitDefEqProofs (disch := (first | omega | (simp -implicitDefEqProofs only [szs, ne_eq] <;> omega) | fail)) only [go_sem, Nat.reduceAdd, Nat.reduceSub, Nat.reduceMul, Nat.reduceLT, Nat.reduceMod, Nat.reduceDiv, Nat.reduceEqDiff, Nat.reduceBEq, Nat.reduceLeDiff, ↓reduceIte, reduceCtorEq, Int.reduceAdd, Int.reduceSub, Int.reduceLT, Int.reduceLE, Int.reduceBEq, Int.reduceEq, Int.reduceToNat]⟩, fun b hb => by simp -implicitDefEqProofs (disch := (first | omega | (simp -implicitDefEqProofs only [szs, ne_eq] <;> omega) | fail)) only [go_sem, Nat.reduceAdd, Nat.reduceSub, Nat.reduceMul, Nat.reduceLT, Nat.reduceMod, Nat.reduceDiv, Nat.reduceEqDiff, Nat.reduceBEq, Nat.reduceLeDiff, ↓reduceIte, reduceCtorEq, Int.reduceAdd, Int.reduceSub, Int.reduceLT, Int.reduceLE, Int.reduceBEq, Int.reduceEq, Int.reduceToNat]⟩
      obtain ⟨d, b3, f1, f2, f3, f4, f5⟩ := b3
      have t1' := (k3 rd (by omega)).trans t1
      have hRn : h.n ≤ h.n ∨ R h.n := .inl (Nat.le_refl _)
      by_cases hz : andN e.r rt = 0
      · have hz' : andN (Ce.r (some e)) rt = 0 := hz
        rw [show askM (some e) rt = 8 from if_pos hz]
        rcases hx with rfl | ⟨rfl, rfl⟩ | ⟨rfl, rfl, rfl⟩
        all_goals
          simp -implicitDefEqProofs (disch := (first | omega | (simp -implicitDefEqProofs only [szs, ne_eq] <;> omega) | fail)) only [go_sem, Nat.reduceAdd, Nat.reduceSub, Nat.reduceMul, Nat.reduceLT, Nat.reduceMod, Nat.reduceDiv, Nat.reduceEqDiff, Nat.reduceBEq, Nat.reduceLeDiff, ↓reduceIte, reduceCtorEq, Int.reduceAdd, Int.reduceSub, Int.reduceLT, Int.reduceLE, Int.reduceBEq, Int.reduceEq, Int.reduceToNat, ir32, undefV, q1, q2, q4, ↓hqa, ↓cv28, ↓c28, l1, l2, l3, l4, t1, t2, c0, c1, d2, d3, d4, hR, ho, e3, b3, f1, f3, ↓andN_op, hz', hRn]
          exact hr.old k3
      · have hz2 : ¬ andN (Ce.r (some e)) rt = 0 := hz
        have hz' : (andN (Ce.r (some e)) rt == 0) = false := by simpa using hz2
        rw [show askM (some e) rt = 0 from if_neg hz]
        simp only [if_true, Option.map_some]
        have hff : Ce.f (some e) = e.f := rfl
        by_cases hr2 : rt = 2
        · have hb2 : (rt == 2) = true := by simp [hr2]
          have fit : Fit c ((c.set (o + 1 + 2) (.bool true)).set (o + 1 + 3) (.bool true)) o (some { e with t := true, w := e.w || decide (rt = 2) }) := by
            refine ⟨by simp -implicitDefEqProofs (disch := (first | omega | (simp -implicitDefEqProofs only [szs, ne_eq] <;> omega) | fail)) only [go_sem, Nat.reduceAdd, Nat.reduceSub, Nat.reduceMul, Nat.reduceLT, Nat.reduceMod, Nat.reduceDiv, Nat.reduceEqDiff, Nat.reduceBEq, Nat.reduceLeDiff, ↓reduceIte, reduceCtorEq, Int.reduceAdd, Int.reduceSub, Int.reduceLT, Int.reduceLE, Int.reduceBEq, Int.reduceEq, Int.reduceToNat], by simp -implicitDefEqProofs (disch := (first | omega | (simp -implicitDefEqProofs only [szs, ne_eq] <;> omega) | fail)) only [go_sem, Nat.reduceAdd, Nat.reduceSub, Nat.reduceMul, Nat.reduceLT, Nat.reduceMod, Nat.reduceDiv, Nat.reduceEqDiff, Nat.reduceBEq, Nat.reduceLeDiff, ↓reduceIte, reduceCtorEq, Int.reduceAdd, Int.reduceSub, Int.reduceLT, Int.reduceLE, Int.reduceBEq, Int.reduceEq, Int.reduceToNat, Blk.ro_set], fun i hi => by simp -implicitDefEqProofs (disch := (first | omega | (simp -implicitDefEqProofs only [szs, ne_eq] <;> omega) | fail)) only [go_sem, Nat.reduceAdd, Nat.reduceSub, Nat.reduceMul, Nat.reduceLT, Nat.reduceMod, Nat.reduceDiv, Nat.reduceEqDiff, Nat.reduceBEq, Nat.reduceLeDiff, ↓reduceIte, reduceCtorEq, Int.reduceAdd, Int.reduceSub, Int.reduceLT, Int.reduceLE, Int.reduceBEq, Int.reduceEq, Int.reduceToNat], ⟨by simp -implicitDefEqProofs (disch := (first | omega | (simp -implicitDefEqProofs only [szs, ne_eq] <;> omega) | fail)) only [go_sem, Nat.reduceAdd, Nat.reduceSub, Nat.reduceMul, Nat.reduceLT, Nat.reduceMod, Nat.reduceDiv, Nat.reduceEqDiff, Nat.reduceBEq, Nat.reduceLeDiff, ↓reduceIte, reduceCtorEq, Int.reduceAdd, Int.reduceSub, Int.reduceLT, Int.reduceLE, Int.reduceBEq, Int.reduceEq, Int.reduceToNat]; exact c0, by simp -implicitDefEqProofs (disch := (first | omega | (simp -implicitDefEqProofs only [szs, ne_eq] <;> omega) | fail)) only [go_sem, Nat.reduceAdd, Nat.reduceSub, Nat.reduceMul, Nat.reduceLT, Nat.reduceMod, Nat.reduceDiv, Nat.reduceEqDiff, Nat.reduceBEq, Nat.reduceLeDiff, ↓reduceIte, reduceCtorEq, Int.reduceAdd, Int.reduceSub, Int.reduceLT, Int.reduceLE, Int.reduceBEq, Int.reduceEq, Int.reduceToNat]; exact c1, by simp -implicitDefEqProofs (disch := (first | omega | (simp -implicitDefEqProofs only [szs, ne_eq] <;> omega) | fail)) only [go_sem, Nat.reduceAdd, Nat.reduceSub, Nat.reduceMul, Nat.reduceLT, Nat.reduceMod, Nat.reduceDiv, Nat.reduceEqDiff, Nat.reduceBEq, Nat.reduceLeDiff, ↓reduceIte, reduceCtorEq, Int.reduceAdd, Int.reduceSub, Int.reduceLT, Int.reduceLE, Int.reduceBEq, Int.reduceEq, Int.reduceToNat]; exact c2, ?_, ?_⟩⟩
            · show Blk.get _ (o + 1 + 2) = _
              simp -implicitDefEqProofs (disch := (first | omega | (simp -implicitDefEqProofs only [szs, ne_eq] <;> omega) | fail)) only [go_sem, Nat.reduceAdd, Nat.reduceSub, Nat.reduceMul, Nat.reduceLT, Nat.reduceMod, Nat.reduceDiv, Nat.reduceEqDiff, Nat.reduceBEq, Nat.reduceLeDiff, ↓reduceIte, reduceCtorEq, Int.reduceAdd, Int.reduceSub, Int.reduceLT, Int.reduceLE, Int.reduceBEq, Int.reduceEq, Int.reduceToNat]; rfl
            · show Blk.get _ (o + 1 + 3) = _
              simp -implicitDefEqProofs (disch := (first | omega | (simp -implicitDefEqProofs only [szs, ne_eq] <;> omega) | fail)) only [go_sem, Nat.reduceAdd, Nat.reduceSub, Nat.reduceMul, Nat.reduceLT, Nat.reduceMod, Nat.reduceDiv, Nat.reduceEqDiff, Nat.reduceBEq, Nat.reduceLeDiff, ↓reduceIte, reduceCtorEq, Int.reduceAdd, Int.reduceSub, Int.reduceLT, Int.reduceLE, Int.reduceBEq, Int.reduceEq, Int.reduceToNat]; simp [Ce.w, hr2]
          rcases hx with rfl | ⟨rfl, rfl⟩ | ⟨rfl, rfl, rfl⟩
          all_goals
            simp -implicitDefEqProofs (disch := (first | omega | (simp -implicitDefEqProofs only [szs, ne_eq] <;> omega) | fail)) only [go_sem, Nat.reduceAdd, Nat.reduceSub, Nat.reduceMul, Nat.reduceLT, Nat.reduceMod, Nat.reduceDiv, Nat.reduceEqDiff, Nat.reduceBEq, Nat.reduceLeDiff, ↓reduceIte, reduceCtorEq, Int.reduceAdd, Int.reduceSub, Int.reduceLT, Int.reduceLE, Int.reduceBEq, Int.reduceEq, Int.reduceToNat, ir32, undefV, q1, q2, q4, ↓hqa, ↓rem256 ha.1, ↓cv28, ↓c28, l1, l2, l3, l4, t1, t1', t2, t3, c0, c1, d2, d3, d4, hR, hW, ho, e3, b3, f1, f2, f3, ↓andN_op, hz', hRn, hb2, hff]
            exact fitR fit (by simp -implicitDefEqProofs (disch := (first | omega | (simp -implicitDefEqProofs only [szs, ne_eq] <;> omega) | fail)) only [go_sem, Nat.reduceAdd, Nat.reduceSub, Nat.reduceMul, Nat.reduceLT, Nat.reduceMod, Nat.reduceDiv, Nat.reduceEqDiff, Nat.reduceBEq, Nat.reduceLeDiff, ↓reduceIte, reduceCtorEq, Int.reduceAdd, Int.reduceSub, Int.reduceLT, Int.reduceLE, Int.reduceBEq, Int.reduceEq, Int.reduceToNat])
        · have hb2 : (rt == 2) = false := by simpa using hr2
          have fit : Fit c (c.set (o + 1 + 2) (.bool true)) o (some { e with t := true, w := e.w || decide (rt = 2) }) := by
            refine ⟨by simp -implicitDefEqProofs (disch := (first | omega | (simp -implicitDefEqProofs only [szs, ne_eq] <;> omega) | fail)) only [go_sem, Nat.reduceAdd, Nat.reduceSub, Nat.reduceMul, Nat.reduceLT, Nat.reduceMod, Nat.reduceDiv, Nat.reduceEqDiff, Nat.reduceBEq, Nat.reduceLeDiff, ↓reduceIte, reduceCtorEq, Int.reduceAdd, Int.reduceSub, Int.reduceLT, Int.reduceLE, Int.reduceBEq, Int.reduceEq, Int.reduceToNat], by simp -implicitDefEqProofs (disch := (first | omega | (simp -implicitDefEqProofs only [szs, ne_eq] <;> omega) | fail)) only [go_sem, Nat.reduceAdd, Nat.reduceSub, Nat.reduceMul, Nat.reduceLT, Nat.reduceMod, Nat.reduceDiv, Nat.reduceEqDiff, Nat.reduceBEq, Nat.reduceLeDiff, ↓reduceIte, reduceCtorEq, Int.reduceAdd, Int.reduceSub, Int.reduceLT, Int.reduceLE, Int.reduceBEq, Int.reduceEq, Int.reduceToNat, Blk.ro_set], fun i hi => by simp -implicitDefEqProofs (disch := (first | omega | (simp -implicitDefEqProofs only [szs, ne_eq] <;> omega) | fail)) only [go_sem, Nat.reduceAdd, Nat.reduceSub, Nat.reduceMul, Nat.reduceLT, Nat.reduceMod, Nat.reduceDiv, Nat.reduceEqDiff, Nat.reduceBEq, Nat.reduceLeDiff, ↓reduceIte, reduceCtorEq, Int.reduceAdd, Int.reduceSub, Int.reduceLT, Int.reduceLE, Int.reduceBEq, Int.reduceEq, Int.reduceToNat], ⟨by simp -implicitDefEqProofs (disch := (first | omega | (simp -implicitDefEqProofs only [szs, ne_eq] <;> omega) | fail)) only [go_sem, Nat.reduceAdd, Nat.reduceSub, Nat.reduceMul, Nat.reduceLT, Nat.reduceMod, Nat.reduceDiv, Nat.reduceEqDiff, Nat.reduceBEq, Nat.reduceLeDiff, ↓reduceIte, reduceCtorEq, Int.reduceAdd, Int.reduceSub, Int.reduceLT, Int.reduceLE, Int.reduceBEq, Int.reduceEq, Int.reduceToNat]; exact c0, by simp -implicitDefEqProofs (disch := (first | omega | (simp -implicitDefEqProofs only [szs, ne_eq] <;> omega) | fail)) only [go_sem, Nat.reduceAdd, Nat.reduceSub, Nat.reduceMul, Nat.reduceLT, Nat.reduceMod, Nat.reduceDiv, Nat.reduceEqDiff, Nat.reduceBEq, Nat.reduceLeDiff, ↓reduceIte, reduceCtorEq, Int.reduceAdd, Int.reduceSub, Int.reduceLT, Int.reduceLE, Int.reduceBEq, Int.reduceEq, Int.reduceToNat]; exact c1, by simp -implicitDefEqProofs (disch := (first | omega | (simp -implicitDefEqProofs only [szs, ne_eq] <;> omega) | fail)) only [go_sem, Nat.reduceAdd, Nat.reduceSub, Nat.reduceMul, Nat.reduceLT, Nat.reduceMod, Nat.reduceDiv, Nat.reduceEqDiff, Nat.reduceBEq, Nat.reduceLeDiff, ↓reduceIte, reduceCtorEq, Int.reduceAdd, Int.reduceSub, Int.reduceLT, Int.reduceLE, Int.reduceBEq, Int.reduceEq, Int.reduceToNat]; exact c2, ?_, ?_⟩⟩
            · show Blk.get _ (o + 1 + 2) = _
              simp -implicitDefEqProofs (disch := (first | omega | (simp -implicitDefEqProofs only [szs, ne_eq] <;> omega) | fail)) only [go_sem, Nat.reduceAdd, Nat.reduceSub, Nat.reduceMul, Nat.reduceLT, Nat.reduceMod, Nat.reduceDiv, Nat.reduceEqDiff, Nat.reduceBEq, Nat.reduceLeDiff, ↓reduceIte, reduceCtorEq, Int.reduceAdd, Int.reduceSub, Int.reduceLT, Int.reduceLE, Int.reduceBEq, Int.reduceEq, Int.reduceToNat]; rfl
            · show Blk.get _ (o + 1 + 3) = _
              simp -implicitDefEqProofs (disch := (first | omega | (simp -implicitDefEqProofs only [szs, ne_eq] <;> omega) | fail)) only [go_sem, Nat.reduceAdd, Nat.reduceSub, Nat.reduceMul, Nat.reduceLT, Nat.reduceMod, Nat.reduceDiv, Nat.reduceEqDiff, Nat.reduceBEq, Nat.reduceLeDiff, ↓reduceIte, reduceCtorEq, Int.reduceAdd, Int.reduceSub, Int.reduceLT, Int.reduceLE, Int.reduceBEq, Int.reduceEq, Int.reduceToNat, d4]; simp [Ce.w, hr2]
          rcases hx with rfl | ⟨rfl, rfl⟩ | ⟨rfl, rfl, rfl⟩
          all_goals
            simp -implicitDefEqProofs (disch := (first | omega | (simp -implicitDefEqProofs only [szs, ne_eq] <;> omega) | fail)) only [go_sem, Nat.reduceAdd, Nat.reduceSub, Nat.reduceMul, Nat.reduceLT, Nat.reduceMod, Nat.reduceDiv, Nat.reduceEqDiff, Nat.reduceBEq, Nat.reduceLeDiff, ↓reduceIte, reduceCtorEq, Int.reduceAdd, Int.reduceSub, Int.reduceLT, Int.reduceLE, Int.reduceBEq, Int.reduceEq, Int.reduceToNat, ir32, undefV, q1, q2, q4, ↓hqa, ↓rem256 ha.1, ↓cv28, ↓c28, l1, l2, l3, l4, t1, t1', t2, t3, c0, c1, d2, d3, d4, hR, hW, ho, e3, b3, f1, f2, f3, ↓andN_op, hz', hRn, hb2, hff]
            exact fitR fit (by simp -implicitDefEqProofs (disch := (first | omega | (simp -implicitDefEqProofs only [szs, ne_eq] <;> omega) | fail)) only [go_sem, Nat.reduceAdd, Nat.reduceSub, Nat.reduceMul, Nat.reduceLT, Nat.reduceMod, Nat.reduceDiv, Nat.reduceEqDiff, Nat.reduceBEq, Nat.reduceLeDiff, ↓reduceIte, reduceCtorEq, Int.reduceAdd, Int.reduceSub, Int.reduceLT, Int.reduceLE, Int.reduceBEq, Int.reduceEq, Int.reduceToNat])
  · have e := bad (fun h => hrt h.2)
    have hn1 : (rt != 1) = true := by simpa using fun e => hrt (.inl e)
    have hn2 : (rt != 2) = true := by simpa using fun e => hrt (.inr (.inl e))
    have hn4 : (rt != 4) = true := by simpa using fun e => hrt (.inr (.inr e))
    rw [askF, askO, askT, e]
    simp -implicitDefEqProofs (disch := (first | omega | (simp -implicitDefEqProofs only [szs, ne_eq] <;> omega) | fail)) only [go_sem, Nat.reduceAdd, Nat.reduceSub, Nat.reduceMul, Nat.reduceLT, Nat.reduceMod, Nat.reduceDiv, Nat.reduceEqDiff, Nat.reduceBEq, Nat.reduceLeDiff, ↓reduceIte, reduceCtorEq, Int.reduceAdd, Int.reduceSub, Int.reduceLT, Int.reduceLE, Int.reduceBEq, Int.reduceEq, Int.reduceToNat, ir32, undefV, hn1, hn2, hn4]
    exact hr
end Go.Proofs.Ytkfhdaimememiaa
