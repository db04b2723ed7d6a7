/- Tables of pages: the chapter's rows (printed by genQ.py). -/
import Derived.Test.YtkfhdaimememiaaP
import Derived.Test.YtkfhdaimememiaaIr2
set_option linter.unusedVariables false
set_option linter.unusedSimpArgs false
set_option linter.unusedSimpArgs false
set_option maxRecDepth 100000
set_option linter.unusedVariables false
set_option linter.unusedSimpArgs false
namespace Go.Proofs.Ytkfhdaimememiaa
open Go Go.Vm
def kt1 : Tb := putT T0 (0) (2) (9) (3)
def kt2 : Tb := putT kt1 (0) (2) (8) (1)
def kt3 : Tb := putT kt2 (0) (32) (1) (1)
def kt4 : Tb := askT kt3 (0) (517) (2)
def kt5 : Tb := askT kt4 (0) (517) (4)
def kt6 : Tb := askT kt5 (0) (0) (1)
def kt7 : Tb := askT kt6 (0) (9000) (1)
def kt8 : Tb := askT kt7 (0) (517) (1)
def kt9 : Tb := clnT kt8 (0) (2)
def kt10 : Tb := askT kt9 (0) (517) (1)
def kt11 : Tb := shrT kt10 0 1
def kt12 : Tb := drT kt11 0
theorem kf1 : putE T0 (0) (2) (9) (3) = 0 := by kernel_rfl
theorem kf2 : putE kt1 (0) (2) (8) (1) = 7 := by kernel_rfl
theorem kf3 : putE kt2 (0) (32) (1) (1) = 2 := by kernel_rfl
theorem kf4 : askF kt3 (0) (517) (2) = 9 := by kernel_rfl
theorem kf5 : askO kt3 (0) (517) (2) = 5 := by kernel_rfl
theorem kf6 : askE kt3 (0) (517) (2) = 0 := by kernel_rfl
theorem kf7 : askF kt4 (0) (517) (4) = 0 := by kernel_rfl
theorem kf8 : askO kt4 (0) (517) (4) = 0 := by kernel_rfl
theorem kf9 : askE kt4 (0) (517) (4) = 8 := by kernel_rfl
theorem kf10 : askF kt5 (0) (0) (1) = 0 := by kernel_rfl
theorem kf11 : askO kt5 (0) (0) (1) = 0 := by kernel_rfl
theorem kf12 : askE kt5 (0) (0) (1) = 10 := by kernel_rfl
theorem kf13 : askF kt6 (0) (9000) (1) = 0 := by kernel_rfl
theorem kf14 : askO kt6 (0) (9000) (1) = 0 := by kernel_rfl
theorem kf15 : askE kt6 (0) (9000) (1) = 10 := by kernel_rfl
theorem kf16 : askF kt7 (0) (517) (1) = 9 := by kernel_rfl
theorem kf17 : askO kt7 (0) (517) (1) = 5 := by kernel_rfl
theorem kf18 : askE kt7 (0) (517) (1) = 0 := by kernel_rfl
theorem kf19 : (getC kt8 (0) (2)).isSome = true := by kernel_rfl
theorem kf20 : (getC kt8 (0) (2)).f = 9 := by kernel_rfl
theorem kf21 : (getC kt8 (0) (2)).r = 3 := by kernel_rfl
theorem kf22 : (getC kt8 (0) (2)).t = true := by kernel_rfl
theorem kf23 : (getC kt8 (0) (2)).w = true := by kernel_rfl
theorem kf24 : setE kt8 (0) (2) 0 = 0 := by kernel_rfl
theorem kf25 : (getC kt8 (0) (2)).f = 9 := by kernel_rfl
theorem kf26 : (getC kt8 (0) (2)).r = 3 := by kernel_rfl
theorem kf27 : (getC kt8 (0) (2)).t = true := by kernel_rfl
theorem kf28 : (getC kt8 (0) (2)).w = true := by kernel_rfl
theorem kf29 : (getC kt9 (0) (2)).isSome = true := by kernel_rfl
theorem kf30 : (getC kt9 (0) (2)).f = 9 := by kernel_rfl
theorem kf31 : (getC kt9 (0) (2)).r = 3 := by kernel_rfl
theorem kf32 : (getC kt9 (0) (2)).t = false := by kernel_rfl
theorem kf33 : (getC kt9 (0) (2)).w = false := by kernel_rfl
theorem kf34 : askF kt9 (0) (517) (1) = 9 := by kernel_rfl
theorem kf35 : askO kt9 (0) (517) (1) = 5 := by kernel_rfl
theorem kf36 : askE kt9 (0) (517) (1) = 0 := by kernel_rfl
theorem kf37 : shrN kt10 0 1 = 1 := by kernel_rfl
theorem kf38 : shrE kt10 0 1 = 0 := by kernel_rfl
theorem kf39 : spots kt11 9 512 = [2, 34] := by kernel_rfl
theorem kf40 : (getC kt11 (1) (2)).isSome = true := by kernel_rfl
theorem kf41 : (getC kt11 (1) (2)).f = 9 := by kernel_rfl
theorem kf42 : (getC kt11 (1) (2)).r = 3 := by kernel_rfl
theorem kf43 : (getC kt11 (1) (2)).t = false := by kernel_rfl
theorem kf44 : (getC kt11 (1) (2)).w = false := by kernel_rfl
theorem kf45 : drL kt11 0 = [9] := by kernel_rfl
theorem kf46 : drE 0 = 0 := by kernel_rfl
theorem kf47 : (spots kt12 9 512).length = 1 := by kernel_rfl
theorem st_put (T : Tb) (a b c d : Int) : putT T a b c d = stT T ⟨1, a, b, c, d, 0⟩ := by simp [stT]
theorem st_ask (T : Tb) (a ad d : Int) : askT T a ad d = stT T ⟨4, a, 0, 0, d, ad⟩ := by simp [stT]
theorem st_cln (T : Tb) (a b : Int) : clnT T a b = stT T ⟨5, a, b, 0, 0, 0⟩ := by simp [stT]
theorem wk0 : WT T0 := fun s p e h => by cases h
theorem wk1 : WT kt1 := by unfold kt1; rw [st_put]; exact wk0.st _
theorem wk2 : WT kt2 := by unfold kt2; rw [st_put]; exact wk1.st _
theorem wk3 : WT kt3 := by unfold kt3; rw [st_put]; exact wk2.st _
theorem wk4 : WT kt4 := by unfold kt4; rw [st_ask]; exact wk3.st _
theorem wk5 : WT kt5 := by unfold kt5; rw [st_ask]; exact wk4.st _
theorem wk6 : WT kt6 := by unfold kt6; rw [st_ask]; exact wk5.st _
theorem wk7 : WT kt7 := by unfold kt7; rw [st_ask]; exact wk6.st _
theorem wk8 : WT kt8 := by unfold kt8; rw [st_ask]; exact wk7.st _
theorem wk9 : WT kt9 := by unfold kt9; rw [st_cln]; exact wk8.st _
theorem wk10 : WT kt10 := by unfold kt10; rw [st_ask]; exact wk9.st _
set_option maxHeartbeats 8000000 in
theorem known_dem {h : Heap} {R W : Set'} (hR : ∀ b, R b) : SF ⟨Try.prog, true⟩ 14 [] h R W fun v _ => v = .bool true := by
  have e10 : ∀ (f f' r r' : Int) (t t' w w' : Bool), eqD Try.prog 10 34 (.agg [.int .i64 f, .int .i64 r, .bool t, .bool w]) (.agg [.int .i64 f', .int .i64 r', .bool t', .bool w']) = some (decide (f = f' ∧ r = r' ∧ t = t' ∧ w = w')) := eq_34 8
  refine SF.go hm Try.func14 ir14_eq ?_
  simp -implicitDefEqProofs (disch := (first | omega | (simp -implicitDefEqProofs only [szs, ne_eq] <;> omega) | fail)) only [go_sem, Nat.reduceAdd, Nat.reduceSub, Nat.reduceMul, Nat.reduceLT, Nat.reduceMod, Nat.reduceDiv, Nat.reduceEqDiff, Nat.reduceBEq, Nat.reduceLeDiff, ↓reduceIte, reduceCtorEq, Int.reduceAdd, Int.reduceSub, Int.reduceLT, Int.reduceLE, Int.reduceBEq, Int.reduceEq, Int.reduceToNat, ir14]
  refine GCall.of new_ok.any ?_
  rintro v h1 ⟨rfl, ht, n1, _⟩
  simp -implicitDefEqProofs (disch := (first | omega | (simp -implicitDefEqProofs only [szs, ne_eq] <;> omega) | fail)) only [go_sem, Nat.reduceAdd, Nat.reduceSub, Nat.reduceMul, Nat.reduceLT, Nat.reduceMod, Nat.reduceDiv, Nat.reduceEqDiff, Nat.reduceBEq, Nat.reduceLeDiff, ↓reduceIte, reduceCtorEq, Int.reduceAdd, Int.reduceSub, Int.reduceLT, Int.reduceLE, Int.reduceBEq, Int.reduceEq, Int.reduceToNat, undefV]
  refine GCall.of ((put_ok (R := fun b => b = h.n + 1 ∨ b = h.n) (W := fun b => b = h.n + 1 ∨ b = h.n) ht (fun _ h => h) (fun _ h => h) (0) (2) (9) (3)).kept.any.foot (fun b _ => .inr (hR b)) (fun b hb => .inl (by omega))) ?_
  rintro v g1 ⟨⟨rfl, ht⟩, vf⟩
  have ng1 := vf.n
  have ht : TabAt g1 (h.n + 1) h.n kt1 := ht
  simp -implicitDefEqProofs (disch := (first | omega | (simp -implicitDefEqProofs only [szs, ne_eq] <;> omega) | fail)) only [go_sem, Nat.reduceAdd, Nat.reduceSub, Nat.reduceMul, Nat.reduceLT, Nat.reduceMod, Nat.reduceDiv, Nat.reduceEqDiff, Nat.reduceBEq, Nat.reduceLeDiff, ↓reduceIte, reduceCtorEq, Int.reduceAdd, Int.reduceSub, Int.reduceLT, Int.reduceLE, Int.reduceBEq, Int.reduceEq, Int.reduceToNat, kf1, undefV]
  refine GCall.of ((put_ok (R := fun b => b = h.n + 1 ∨ b = h.n) (W := fun b => b = h.n + 1 ∨ b = h.n) ht (fun _ h => h) (fun _ h => h) (0) (2) (8) (1)).kept.any.foot (fun b _ => .inr (hR b)) (fun b hb => .inl (by omega))) ?_
  rintro v g2 ⟨⟨rfl, ht⟩, vf⟩
  have ng2 := vf.n
  have ht : TabAt g2 (h.n + 1) h.n kt2 := ht
  simp -implicitDefEqProofs (disch := (first | omega | (simp -implicitDefEqProofs only [szs, ne_eq] <;> omega) | fail)) only [go_sem, Nat.reduceAdd, Nat.reduceSub, Nat.reduceMul, Nat.reduceLT, Nat.reduceMod, Nat.reduceDiv, Nat.reduceEqDiff, Nat.reduceBEq, Nat.reduceLeDiff, ↓reduceIte, reduceCtorEq, Int.reduceAdd, Int.reduceSub, Int.reduceLT, Int.reduceLE, Int.reduceBEq, Int.reduceEq, Int.reduceToNat, kf2, undefV]
  refine GCall.of ((put_ok (R := fun b => b = h.n + 1 ∨ b = h.n) (W := fun b => b = h.n + 1 ∨ b = h.n) ht (fun _ h => h) (fun _ h => h) (0) (32) (1) (1)).kept.any.foot (fun b _ => .inr (hR b)) (fun b hb => .inl (by omega))) ?_
  rintro v g3 ⟨⟨rfl, ht⟩, vf⟩
  have ng3 := vf.n
  have ht : TabAt g3 (h.n + 1) h.n kt3 := ht
  simp -implicitDefEqProofs (disch := (first | omega | (simp -implicitDefEqProofs only [szs, ne_eq] <;> omega) | fail)) only [go_sem, Nat.reduceAdd, Nat.reduceSub, Nat.reduceMul, Nat.reduceLT, Nat.reduceMod, Nat.reduceDiv, Nat.reduceEqDiff, Nat.reduceBEq, Nat.reduceLeDiff, ↓reduceIte, reduceCtorEq, Int.reduceAdd, Int.reduceSub, Int.reduceLT, Int.reduceLE, Int.reduceBEq, Int.reduceEq, Int.reduceToNat, kf3, undefV]
  refine GCall.of ((ask_ok (R := fun b => b = h.n + 1 ∨ b = h.n) (W := fun b => b = h.n + 1 ∨ b = h.n) ht (.inl rfl) (.inl rfl) (0) (517) (2) (by omega)).kept.any.foot (fun b _ => .inr (hR b)) (fun b hb => .inl (by omega))) ?_
  rintro v g4 ⟨⟨rfl, ht⟩, vf⟩
  have ng4 := vf.n
  have ht : TabAt g4 (h.n + 1) h.n kt4 := ht
  simp -implicitDefEqProofs (disch := (first | omega | (simp -implicitDefEqProofs only [szs, ne_eq] <;> omega) | fail)) only [go_sem, Nat.reduceAdd, Nat.reduceSub, Nat.reduceMul, Nat.reduceLT, Nat.reduceMod, Nat.reduceDiv, Nat.reduceEqDiff, Nat.reduceBEq, Nat.reduceLeDiff, ↓reduceIte, reduceCtorEq, Int.reduceAdd, Int.reduceSub, Int.reduceLT, Int.reduceLE, Int.reduceBEq, Int.reduceEq, Int.reduceToNat, kf4, kf5, kf6, undefV]
  refine GCall.of ((ask_ok (R := fun b => b = h.n + 1 ∨ b = h.n) (W := fun b => b = h.n + 1 ∨ b = h.n) ht (.inl rfl) (.inl rfl) (0) (517) (4) (by omega)).kept.any.foot (fun b _ => .inr (hR b)) (fun b hb => .inl (by omega))) ?_
  rintro v g5 ⟨⟨rfl, ht⟩, vf⟩
  have ng5 := vf.n
  have ht : TabAt g5 (h.n + 1) h.n kt5 := ht
  simp -implicitDefEqProofs (disch := (first | omega | (simp -implicitDefEqProofs only [szs, ne_eq] <;> omega) | fail)) only [go_sem, Nat.reduceAdd, Nat.reduceSub, Nat.reduceMul, Nat.reduceLT, Nat.reduceMod, Nat.reduceDiv, Nat.reduceEqDiff, Nat.reduceBEq, Nat.reduceLeDiff, ↓reduceIte, reduceCtorEq, Int.reduceAdd, Int.reduceSub, Int.reduceLT, Int.reduceLE, Int.reduceBEq, Int.reduceEq, Int.reduceToNat, kf7, kf8, kf9, undefV]
  refine GCall.of ((ask_ok (R := fun b => b = h.n + 1 ∨ b = h.n) (W := fun b => b = h.n + 1 ∨ b = h.n) ht (.inl rfl) (.inl rfl) (0) (0) (1) (by omega)).kept.any.foot (fun b _ => .inr (hR b)) (fun b hb => .inl (by omega))) ?_
  rintro v g6 ⟨⟨rfl, ht⟩, vf⟩
  have ng6 := vf.n
  have ht : TabAt g6 (h.n + 1) h.n kt6 := ht
  simp -implicitDefEqProofs (disch := (first | omega | (simp -implicitDefEqProofs only [szs, ne_eq] <;> omega) | fail)) only [go_sem, Nat.reduceAdd, Nat.reduceSub, Nat.reduceMul, Nat.reduceLT, Nat.reduceMod, Nat.reduceDiv, Nat.reduceEqDiff, Nat.reduceBEq, Nat.reduceLeDiff, ↓reduceIte, reduceCtorEq, Int.reduceAdd, Int.reduceSub, Int.reduceLT, Int.reduceLE, Int.reduceBEq, Int.reduceEq, Int.reduceToNat, kf10, kf11, kf12, undefV]
  refine GCall.of ((ask_ok (R := fun b => b = h.n + 1 ∨ b = h.n) (W := fun b => b = h.n + 1 ∨ b = h.n) ht (.inl rfl) (.inl rfl) (0) (9000) (1) (by omega)).kept.any.foot (fun b _ => .inr (hR b)) (fun b hb => .inl (by omega))) ?_
  rintro v g7 ⟨⟨rfl, ht⟩, vf⟩
  have ng7 := vf.n
  have ht : TabAt g7 (h.n + 1) h.n kt7 := ht
  simp -implicitDefEqProofs (disch := (first | omega | (simp -implicitDefEqProofs only [szs, ne_eq] <;> omega) | fail)) only [go_sem, Nat.reduceAdd, Nat.reduceSub, Nat.reduceMul, Nat.reduceLT, Nat.reduceMod, Nat.reduceDiv, Nat.reduceEqDiff, Nat.reduceBEq, Nat.reduceLeDiff, ↓reduceIte, reduceCtorEq, Int.reduceAdd, Int.reduceSub, Int.reduceLT, Int.reduceLE, Int.reduceBEq, Int.reduceEq, Int.reduceToNat, kf13, kf14, kf15, undefV]
  refine GCall.of ((ask_ok (R := fun b => b = h.n + 1 ∨ b = h.n) (W := fun b => b = h.n + 1 ∨ b = h.n) ht (.inl rfl) (.inl rfl) (0) (517) (1) (by omega)).kept.any.foot (fun b _ => .inr (hR b)) (fun b hb => .inl (by omega))) ?_
  rintro v g8 ⟨⟨rfl, ht⟩, vf⟩
  have ng8 := vf.n
  have ht : TabAt g8 (h.n + 1) h.n kt8 := ht
  simp -implicitDefEqProofs (disch := (first | omega | (simp -implicitDefEqProofs only [szs, ne_eq] <;> omega) | fail)) only [go_sem, Nat.reduceAdd, Nat.reduceSub, Nat.reduceMul, Nat.reduceLT, Nat.reduceMod, Nat.reduceDiv, Nat.reduceEqDiff, Nat.reduceBEq, Nat.reduceLeDiff, ↓reduceIte, reduceCtorEq, Int.reduceAdd, Int.reduceSub, Int.reduceLT, Int.reduceLE, Int.reduceBEq, Int.reduceEq, Int.reduceToNat, kf16, kf17, kf18, undefV]
  refine GCall.of ((get_ok ht (.inr (hR _)) (0) (2)).any) ?_
  rintro v g9 ⟨rfl, nn, kk⟩
  have ht := ht.old kk
  obtain ⟨hex, eex, nex, ⟨dex, bex, sex, pex0, pex1, pex2, pex3⟩, kex⟩ := ent_heap g9 (getC kt8 (0) (2))
  rw [kf20] at pex0
  rw [kf21] at pex1
  rw [kf22] at pex2
  rw [kf23] at pex3
  have ht : TabAt hex (h.n + 1) h.n kt8 := ht.old kex
  simp -implicitDefEqProofs (disch := (first | omega | (simp -implicitDefEqProofs only [szs, ne_eq] <;> omega) | fail)) only [go_sem, Nat.reduceAdd, Nat.reduceSub, Nat.reduceMul, Nat.reduceLT, Nat.reduceMod, Nat.reduceDiv, Nat.reduceEqDiff, Nat.reduceBEq, Nat.reduceLeDiff, ↓reduceIte, reduceCtorEq, Int.reduceAdd, Int.reduceSub, Int.reduceLT, Int.reduceLE, Int.reduceBEq, Int.reduceEq, Int.reduceToNat, Ce.v, eex, kf19, undefV]
  refine ⟨.inl (by omega), ?_⟩
  refine GCall.of ((clean_ok (R := fun b => b = h.n + 1 ∨ b = h.n) (W := fun b => b = h.n + 1 ∨ b = h.n) ht (.inl rfl) (.inl rfl) (0) (2)).kept.any.foot (fun b _ => .inr (hR b)) (fun b hb => .inl (by omega))) ?_
  rintro v g10 ⟨⟨rfl, ht⟩, vf⟩
  have ng10 := vf.n
  have bex := (vf.get _ (by omega) (by omega)).trans bex
  have ht : TabAt g10 (h.n + 1) h.n kt9 := ht
  obtain ⟨hey, eey, ney, ⟨dey, bey, sey, pey0, pey1, pey2, pey3⟩, key⟩ := ent_heap g10 (getC kt8 (0) (2))
  rw [kf25] at pey0
  rw [kf26] at pey1
  rw [kf27] at pey2
  rw [kf28] at pey3
  have bex := (key _ (by omega)).trans bex
  have ht : TabAt hey (h.n + 1) h.n kt9 := ht.old key
  simp -implicitDefEqProofs (disch := (first | omega | (simp -implicitDefEqProofs only [szs, ne_eq] <;> omega) | fail)) only [go_sem, Nat.reduceAdd, Nat.reduceSub, Nat.reduceMul, Nat.reduceLT, Nat.reduceMod, Nat.reduceDiv, Nat.reduceEqDiff, Nat.reduceBEq, Nat.reduceLeDiff, ↓reduceIte, reduceCtorEq, Int.reduceAdd, Int.reduceSub, Int.reduceLT, Int.reduceLE, Int.reduceBEq, Int.reduceEq, Int.reduceToNat, Ce.v, eey, kf24, undefV]
  refine ⟨.inl (by omega), ?_⟩
  refine GCall.of ((get_ok ht (.inr (hR _)) (0) (2)).any) ?_
  rintro v g11 ⟨rfl, nn, kk⟩
  have ht := ht.old kk
  have bex := (kk _ (by omega)).trans bex
  have bey := (kk _ (by omega)).trans bey
  obtain ⟨hez, eez, nez, ⟨dez, bez, sez, pez0, pez1, pez2, pez3⟩, kez⟩ := ent_heap g11 (getC kt9 (0) (2))
  rw [kf30] at pez0
  rw [kf31] at pez1
  rw [kf32] at pez2
  rw [kf33] at pez3
  have bex := (kez _ (by omega)).trans bex
  have bey := (kez _ (by omega)).trans bey
  have ht : TabAt hez (h.n + 1) h.n kt9 := ht.old kez
  simp -implicitDefEqProofs (disch := (first | omega | (simp -implicitDefEqProofs only [szs, ne_eq] <;> omega) | fail)) only [go_sem, Nat.reduceAdd, Nat.reduceSub, Nat.reduceMul, Nat.reduceLT, Nat.reduceMod, Nat.reduceDiv, Nat.reduceEqDiff, Nat.reduceBEq, Nat.reduceLeDiff, ↓reduceIte, reduceCtorEq, Int.reduceAdd, Int.reduceSub, Int.reduceLT, Int.reduceLE, Int.reduceBEq, Int.reduceEq, Int.reduceToNat, Ce.v, eez, kf29, undefV]
  refine ⟨.inl (by omega), ?_⟩
  refine GCall.of ((ask_ok (R := fun b => b = h.n + 1 ∨ b = h.n) (W := fun b => b = h.n + 1 ∨ b = h.n) ht (.inl rfl) (.inl rfl) (0) (517) (1) (by omega)).kept.any.foot (fun b _ => .inr (hR b)) (fun b hb => .inl (by omega))) ?_
  rintro v g12 ⟨⟨rfl, ht⟩, vf⟩
  have ng12 := vf.n
  have bex := (vf.get _ (by omega) (by omega)).trans bex
  have bey := (vf.get _ (by omega) (by omega)).trans bey
  have bez := (vf.get _ (by omega) (by omega)).trans bez
  have ht : TabAt g12 (h.n + 1) h.n kt10 := ht
  simp -implicitDefEqProofs (disch := (first | omega | (simp -implicitDefEqProofs only [szs, ne_eq] <;> omega) | fail)) only [go_sem, Nat.reduceAdd, Nat.reduceSub, Nat.reduceMul, Nat.reduceLT, Nat.reduceMod, Nat.reduceDiv, Nat.reduceEqDiff, Nat.reduceBEq, Nat.reduceLeDiff, ↓reduceIte, reduceCtorEq, Int.reduceAdd, Int.reduceSub, Int.reduceLT, Int.reduceLE, Int.reduceBEq, Int.reduceEq, Int.reduceToNat, kf34, kf35, kf36, undefV]
  refine GCall.of ((share_ok (R := fun b => b = h.n + 1 ∨ b = h.n) (W := fun b => b = h.n + 1 ∨ b = h.n) ht wk10 (fun _ h => h) (fun _ h => h) 0 1).kept.foot (fun b _ => .inr (hR b)) (fun b hb => .inl (by omega))) ?_
  rintro v g13 ⟨⟨rfl, ht⟩, vf⟩
  have ng13 := vf.n
  have bex := (vf.get _ (by omega) (by omega)).trans bex
  have bey := (vf.get _ (by omega) (by omega)).trans bey
  have bez := (vf.get _ (by omega) (by omega)).trans bez
  have ht : TabAt g13 (h.n + 1) h.n kt11 := ht
  simp -implicitDefEqProofs (disch := (first | omega | (simp -implicitDefEqProofs only [szs, ne_eq] <;> omega) | fail)) only [go_sem, Nat.reduceAdd, Nat.reduceSub, Nat.reduceMul, Nat.reduceLT, Nat.reduceMod, Nat.reduceDiv, Nat.reduceEqDiff, Nat.reduceBEq, Nat.reduceLeDiff, ↓reduceIte, reduceCtorEq, Int.reduceAdd, Int.reduceSub, Int.reduceLT, Int.reduceLE, Int.reduceBEq, Int.reduceEq, Int.reduceToNat, kf37, kf38, undefV]
  refine GCall.of (where_dem ht (fun b => .inr (hR b)) 9) ?_
  rintro lw g14 ⟨ow, nn, kk⟩
  have ht := ht.old kk
  have bex := (kk _ (by omega)).trans bex
  have bey := (kk _ (by omega)).trans bey
  have bez := (kk _ (by omega)).trans bez
  rw [kf39] at ow
  have hcv := ow.lr.cells
  have hon := ow.lr.one
  have hlw := ow.lr.lenV Try.underlying46
  obtain ⟨_, ⟨hz, _⟩ | ⟨bw, xw, cw, _, rfl, hbw0, bbw, sw, _, gw⟩⟩ := ow
  · cases hz
  have cw2 : cw.get 2 = .int .i64 1 := by have := Blk.gets_get cw 4 0 2 (by omega); rw [show cw.gets 0 4 = _ from gw] at this; exact (Option.some.inj this).symm
  have cw3 : cw.get 3 = .int .i64 2 := by have := Blk.gets_get cw 4 0 3 (by omega); rw [show cw.gets 0 4 = _ from gw] at this; exact (Option.some.inj this).symm
  have lbw := Heap.lt_of_get bbw
  simp -implicitDefEqProofs (disch := (first | omega | (simp -implicitDefEqProofs only [szs, ne_eq] <;> omega) | fail)) only [go_sem, Nat.reduceAdd, Nat.reduceSub, Nat.reduceMul, Nat.reduceLT, Nat.reduceMod, Nat.reduceDiv, Nat.reduceEqDiff, Nat.reduceBEq, Nat.reduceLeDiff, ↓reduceIte, reduceCtorEq, Int.reduceAdd, Int.reduceSub, Int.reduceLT, Int.reduceLE, Int.reduceBEq, Int.reduceEq, Int.reduceToNat, undefV]
  refine GCall.of ((get_ok ht (.inr (hR _)) (1) (2)).any) ?_
  rintro v g15 ⟨rfl, nn, kk⟩
  have ht := ht.old kk
  have bex := (kk _ (by omega)).trans bex
  have bey := (kk _ (by omega)).trans bey
  have bez := (kk _ (by omega)).trans bez
  have bbw := (kk _ (by omega)).trans bbw
  obtain ⟨heu, eeu, neu, ⟨deu, beu, seu, peu0, peu1, peu2, peu3⟩, keu⟩ := ent_heap g15 (getC kt11 (1) (2))
  rw [kf41] at peu0
  rw [kf42] at peu1
  rw [kf43] at peu2
  rw [kf44] at peu3
  have bex := (keu _ (by omega)).trans bex
  have bey := (keu _ (by omega)).trans bey
  have bez := (keu _ (by omega)).trans bez
  have bbw := (keu _ (by omega)).trans bbw
  have ht : TabAt heu (h.n + 1) h.n kt11 := ht.old keu
  simp -implicitDefEqProofs (disch := (first | omega | (simp -implicitDefEqProofs only [szs, ne_eq] <;> omega) | fail)) only [go_sem, Nat.reduceAdd, Nat.reduceSub, Nat.reduceMul, Nat.reduceLT, Nat.reduceMod, Nat.reduceDiv, Nat.reduceEqDiff, Nat.reduceBEq, Nat.reduceLeDiff, ↓reduceIte, reduceCtorEq, Int.reduceAdd, Int.reduceSub, Int.reduceLT, Int.reduceLE, Int.reduceBEq, Int.reduceEq, Int.reduceToNat, Ce.v, eeu, kf40, undefV]
  refine ⟨.inl (by omega), ?_⟩
  refine GCall.of ((drop_ok (R := fun _ => True) (W := fun b => b = h.n + 1 ∨ b = h.n) ht (fun _ => trivial) (fun _ h => h) 0).kept.any.foot (fun b _ => .inr (hR b)) (fun b hb => .inl (by omega))) ?_
  rintro v g16 ⟨⟨⟨lv, rfl, ol⟩, ht⟩, vf⟩
  have ng16 := vf.n
  have bex := (vf.get _ (by omega) (by omega)).trans bex
  have bey := (vf.get _ (by omega) (by omega)).trans bey
  have bez := (vf.get _ (by omega) (by omega)).trans bez
  have bbw := (vf.get _ (by omega) (by omega)).trans bbw
  have beu := (vf.get _ (by omega) (by omega)).trans beu
  have ht : TabAt g16 (h.n + 1) h.n kt12 := ht
  rw [kf45] at ol
  simp -implicitDefEqProofs (disch := (first | omega | (simp -implicitDefEqProofs only [szs, ne_eq] <;> omega) | fail)) only [go_sem, Nat.reduceAdd, Nat.reduceSub, Nat.reduceMul, Nat.reduceLT, Nat.reduceMod, Nat.reduceDiv, Nat.reduceEqDiff, Nat.reduceBEq, Nat.reduceLeDiff, ↓reduceIte, reduceCtorEq, Int.reduceAdd, Int.reduceSub, Int.reduceLT, Int.reduceLE, Int.reduceBEq, Int.reduceEq, Int.reduceToNat, kf46, undefV]
  refine GCall.of (num_ok _).any ?_
  rintro v gq ⟨rfl, rfl⟩
  simp -implicitDefEqProofs (disch := (first | omega | (simp -implicitDefEqProofs only [szs, ne_eq] <;> omega) | fail)) only [go_sem, Nat.reduceAdd, Nat.reduceSub, Nat.reduceMul, Nat.reduceLT, Nat.reduceMod, Nat.reduceDiv, Nat.reduceEqDiff, Nat.reduceBEq, Nat.reduceLeDiff, ↓reduceIte, reduceCtorEq, Int.reduceAdd, Int.reduceSub, Int.reduceLT, Int.reduceLE, Int.reduceBEq, Int.reduceEq, Int.reduceToNat, undefV]
  refine GCall.of (num_ok _).any ?_
  rintro v gq ⟨rfl, rfl⟩
  simp -implicitDefEqProofs (disch := (first | omega | (simp -implicitDefEqProofs only [szs, ne_eq] <;> omega) | fail)) only [go_sem, Nat.reduceAdd, Nat.reduceSub, Nat.reduceMul, Nat.reduceLT, Nat.reduceMod, Nat.reduceDiv, Nat.reduceEqDiff, Nat.reduceBEq, Nat.reduceLeDiff, ↓reduceIte, reduceCtorEq, Int.reduceAdd, Int.reduceSub, Int.reduceLT, Int.reduceLE, Int.reduceBEq, Int.reduceEq, Int.reduceToNat, undefV]
  refine GCall.of (num_ok _).any ?_
  rintro v gq ⟨rfl, rfl⟩
  simp -implicitDefEqProofs (disch := (first | omega | (simp -implicitDefEqProofs only [szs, ne_eq] <;> omega) | fail)) only [go_sem, Nat.reduceAdd, Nat.reduceSub, Nat.reduceMul, Nat.reduceLT, Nat.reduceMod, Nat.reduceDiv, Nat.reduceEqDiff, Nat.reduceBEq, Nat.reduceLeDiff, ↓reduceIte, reduceCtorEq, Int.reduceAdd, Int.reduceSub, Int.reduceLT, Int.reduceLE, Int.reduceBEq, Int.reduceEq, Int.reduceToNat, undefV]
  refine GCall.of (num_ok _).any ?_
  rintro v gq ⟨rfl, rfl⟩
  simp -implicitDefEqProofs (disch := (first | omega | (simp -implicitDefEqProofs only [szs, ne_eq] <;> omega) | fail)) only [go_sem, Nat.reduceAdd, Nat.reduceSub, Nat.reduceMul, Nat.reduceLT, Nat.reduceMod, Nat.reduceDiv, Nat.reduceEqDiff, Nat.reduceBEq, Nat.reduceLeDiff, ↓reduceIte, reduceCtorEq, Int.reduceAdd, Int.reduceSub, Int.reduceLT, Int.reduceLE, Int.reduceBEq, Int.reduceEq, Int.reduceToNat, undefV]
  refine GCall.of (num_ok _).any ?_
  rintro v gq ⟨rfl, rfl⟩
  simp -implicitDefEqProofs (disch := (first | omega | (simp -implicitDefEqProofs only [szs, ne_eq] <;> omega) | fail)) only [go_sem, Nat.reduceAdd, Nat.reduceSub, Nat.reduceMul, Nat.reduceLT, Nat.reduceMod, Nat.reduceDiv, Nat.reduceEqDiff, Nat.reduceBEq, Nat.reduceLeDiff, ↓reduceIte, reduceCtorEq, Int.reduceAdd, Int.reduceSub, Int.reduceLT, Int.reduceLE, Int.reduceBEq, Int.reduceEq, Int.reduceToNat, undefV]
  refine GCall.of (num_ok _).any ?_
  rintro v gq ⟨rfl, rfl⟩
  simp -implicitDefEqProofs (disch := (first | omega | (simp -implicitDefEqProofs only [szs, ne_eq] <;> omega) | fail)) only [go_sem, Nat.reduceAdd, Nat.reduceSub, Nat.reduceMul, Nat.reduceLT, Nat.reduceMod, Nat.reduceDiv, Nat.reduceEqDiff, Nat.reduceBEq, Nat.reduceLeDiff, ↓reduceIte, reduceCtorEq, Int.reduceAdd, Int.reduceSub, Int.reduceLT, Int.reduceLE, Int.reduceBEq, Int.reduceEq, Int.reduceToNat, undefV]
  refine GCall.of (num_ok _).any ?_
  rintro v gq ⟨rfl, rfl⟩
  simp -implicitDefEqProofs (disch := (first | omega | (simp -implicitDefEqProofs only [szs, ne_eq] <;> omega) | fail)) only [go_sem, Nat.reduceAdd, Nat.reduceSub, Nat.reduceMul, Nat.reduceLT, Nat.reduceMod, Nat.reduceDiv, Nat.reduceEqDiff, Nat.reduceBEq, Nat.reduceLeDiff, ↓reduceIte, reduceCtorEq, Int.reduceAdd, Int.reduceSub, Int.reduceLT, Int.reduceLE, Int.reduceBEq, Int.reduceEq, Int.reduceToNat, undefV]
  refine GCall.of (num_ok _).any ?_
  rintro v gq ⟨rfl, rfl⟩
  simp -implicitDefEqProofs (disch := (first | omega | (simp -implicitDefEqProofs only [szs, ne_eq] <;> omega) | fail)) only [go_sem, Nat.reduceAdd, Nat.reduceSub, Nat.reduceMul, Nat.reduceLT, Nat.reduceMod, Nat.reduceDiv, Nat.reduceEqDiff, Nat.reduceBEq, Nat.reduceLeDiff, ↓reduceIte, reduceCtorEq, Int.reduceAdd, Int.reduceSub, Int.reduceLT, Int.reduceLE, Int.reduceBEq, Int.reduceEq, Int.reduceToNat, undefV]
  refine GCall.of (num_ok _).any ?_
  rintro v gq ⟨rfl, rfl⟩
  simp -implicitDefEqProofs (disch := (first | omega | (simp -implicitDefEqProofs only [szs, ne_eq] <;> omega) | fail)) only [go_sem, Nat.reduceAdd, Nat.reduceSub, Nat.reduceMul, Nat.reduceLT, Nat.reduceMod, Nat.reduceDiv, Nat.reduceEqDiff, Nat.reduceBEq, Nat.reduceLeDiff, ↓reduceIte, reduceCtorEq, Int.reduceAdd, Int.reduceSub, Int.reduceLT, Int.reduceLE, Int.reduceBEq, Int.reduceEq, Int.reduceToNat, undefV]
  have sw' : cw.size = 4 := sw
  have hspe := sp_eq 1 2
  refine GCall.of (num_ok _).any ?_
  rintro v gq ⟨rfl, rfl⟩
  have h12 : (1 : Int) < ((2 : Nat) : Int) := by omega
  simp -implicitDefEqProofs (disch := (first | omega | (simp -implicitDefEqProofs only [szs, ne_eq] <;> omega) | fail)) only [go_sem, Nat.reduceAdd, Nat.reduceSub, Nat.reduceMul, Nat.reduceLT, Nat.reduceMod, Nat.reduceDiv, Nat.reduceEqDiff, Nat.reduceBEq, Nat.reduceLeDiff, ↓reduceIte, reduceCtorEq, Int.reduceAdd, Int.reduceSub, Int.reduceLT, Int.reduceLE, Int.reduceBEq, Int.reduceEq, Int.reduceToNat, undefV, h12, hR, ↓eg_34, ↓eg_50, ↓e10, hspe, bbw, sw', cw2, cw3, bex, sex, pex0, pex1, pex2, pex3, bey, sey, pey0, pey1, pey2, pey3, bez, sez, pez0, pez1, pez2, pez3, beu, seu, peu0, peu1, peu2, peu3]
  refine GCall.of (sameints_ok (ol.lr.old fun b hb => w_push_ne (by omega) _) (lr_one gq 9) (fun _ => trivial) (by simp) (by simp)).any ?_
  rintro v g ⟨rfl, rfl⟩
  have htp : TabAt (gq.push (O.cells (Blk.of [V.int IntKind.i64 9]) 3)) (h.n + 1) h.n kt12 := ht.old fun b hb => w_push_ne (by omega) _
  rw [decide_eq_true rfl]
  simp -implicitDefEqProofs (disch := (first | omega | (simp -implicitDefEqProofs only [szs, ne_eq] <;> omega) | fail)) only [go_sem, Nat.reduceAdd, Nat.reduceSub, Nat.reduceMul, Nat.reduceLT, Nat.reduceMod, Nat.reduceDiv, Nat.reduceEqDiff, Nat.reduceBEq, Nat.reduceLeDiff, ↓reduceIte, reduceCtorEq, Int.reduceAdd, Int.reduceSub, Int.reduceLT, Int.reduceLE, Int.reduceBEq, Int.reduceEq, Int.reduceToNat, undefV]
  refine GCall.of (count_dem htp (fun _ => trivial) 9) ?_
  rintro v g ⟨rfl, _, _⟩
  rw [kf47]
  simp -implicitDefEqProofs (disch := (first | omega | (simp -implicitDefEqProofs only [szs, ne_eq] <;> omega) | fail)) only [go_sem, Nat.reduceAdd, Nat.reduceSub, Nat.reduceMul, Nat.reduceLT, Nat.reduceMod, Nat.reduceDiv, Nat.reduceEqDiff, Nat.reduceBEq, Nat.reduceLeDiff, ↓reduceIte, reduceCtorEq, Int.reduceAdd, Int.reduceSub, Int.reduceLT, Int.reduceLE, Int.reduceBEq, Int.reduceEq, Int.reduceToNat, undefV]
end Go.Proofs.Ytkfhdaimememiaa
