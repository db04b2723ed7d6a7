/- CapsPlay: Made, Len, Clone; the document's Clone. -/
import Derived.Test.YtehgjkopobkbmaaQ3
import Derived.Test.YtehgjkopobkbmaaLayC
import Derived.Test.YtehgjkopobkbmaaV4
set_option linter.unusedVariables false
set_option linter.unusedSimpArgs false
set_option linter.unusedSimpArgs false
set_option maxRecDepth 100000
set_option linter.unusedVariables false
set_option linter.unusedSimpArgs false
namespace Go.Proofs.Ytehgjkopobkbmaa
open Go Go.Vm
theorem flatC_one : ∀ L : List Cp, allOne (flatC L) = true
  | [] => rfl
  | c :: L => (show allOne (c.l ++ flatC L) = allOne (flatC L) from rfl).trans (flatC_one L)
theorem madeP_ok {h : Heap} {R W : Set'} {tb r : Nat} {T : CS} (ht : CapAt h tb r T) (w : WF T) (hR : ∀ b, R b) (a : Int) : SF Try.prog 27 [.ptr (some (tb, 0)), .int .i64 a] h R W fun v h' => v = .int .i64 (madeC T.L a : Nat) ∧ h' = h := by
  obtain ⟨es, ck, htab, m2, m3, hmade⟩ := ht.table w
  refine ((made_ok htab a).foot (fun b _ => hR b) (fun b h => h.elim)).mono ?_
  rintro v h' ⟨rfl, rfl⟩
  exact ⟨by rw [hmade]; rfl, rfl⟩
theorem len_ok {h : Heap} {R W : Set'} {tb r : Nat} {T : CS} (ht : CapAt h tb r T) (w : WF T) (hR : ∀ b, R b) : SF Try.prog 28 [.ptr (some (tb, 0))] h R W fun v h' => v = .int .i64 (T.L.length : Nat) ∧ h' = h := by
  obtain ⟨es, ck, m1, m2, m3⟩ := ht.m
  obtain ⟨ct, t1, t2, t3, t4, t5⟩ := ht.t
  have hl := map_len m2 w.asc m3
  have hR1 := hR tb
  have hR2 := hR r
  refine SF.go hm Try.func28 ir28_eq ?_
  simp -implicitDefEqProofs (disch := (first | omega | (simp -implicitDefEqProofs only [szs, ne_eq] <;> omega) | fail)) only [go_sem, Nat.reduceAdd, Nat.reduceSub, Nat.reduceMul, Nat.reduceLT, Nat.reduceMod, Nat.reduceDiv, Nat.reduceEqDiff, Nat.reduceBEq, Nat.reduceLeDiff, ↓reduceIte, reduceCtorEq, Int.reduceAdd, Int.reduceSub, Int.reduceLT, Int.reduceLE, Int.reduceBEq, Int.reduceEq, Int.reduceToNat, ir28]
  refine GCall.of (there_ok ht (.inr hR1)) ?_
  rintro v h1 ⟨rfl, rfl⟩
  have hlm : lenV Try.prog 59 (.map (some r)) h1 = some (T.L.length, [r]) := by
    unfold lenV; rw [Try.underlying59]; simp only [m1, hl]
  simp -implicitDefEqProofs (disch := (first | omega | (simp -implicitDefEqProofs only [szs, ne_eq] <;> omega) | fail)) only [go_sem, Nat.reduceAdd, Nat.reduceSub, Nat.reduceMul, Nat.reduceLT, Nat.reduceMod, Nat.reduceDiv, Nat.reduceEqDiff, Nat.reduceBEq, Nat.reduceLeDiff, ↓reduceIte, reduceCtorEq, Int.reduceAdd, Int.reduceSub, Int.reduceLT, Int.reduceLE, Int.reduceBEq, Int.reduceEq, Int.reduceToNat, t1, t2, t4, hR1, hR2, ↓hlm]
set_option maxHeartbeats 1000000 in
theorem clone_ok {h : Heap} {R W : Set'} {tb r : Nat} {T : CS} (ht : CapAt h tb r T) (hR : ∀ b, R b) : SF Try.prog 23 [.ptr (some (tb, 0))] h R W fun v h' => v = .ptr (some (h.n + 1, 0)) ∧ CapAt h' (h.n + 1) h.n T ∧ h'.n = h.n + 2 ∧ ∀ b, b < h.n → h'.get b = h.get b := by
  obtain ⟨es, ck, m1, m2, m3⟩ := ht.m
  obtain ⟨ct, t1, t2, t3, t4, t5⟩ := ht.t
  have hlt := ht.lt
  have hR1 := hR tb
  have hR2 := hR r
  refine SF.go hm Try.func23 ir23_eq ?_
  simp -implicitDefEqProofs (disch := (first | omega | (simp -implicitDefEqProofs only [szs, ne_eq] <;> omega) | fail)) only [go_sem, Nat.reduceAdd, Nat.reduceSub, Nat.reduceMul, Nat.reduceLT, Nat.reduceMod, Nat.reduceDiv, Nat.reduceEqDiff, Nat.reduceBEq, Nat.reduceLeDiff, ↓reduceIte, reduceCtorEq, Int.reduceAdd, Int.reduceSub, Int.reduceLT, Int.reduceLE, Int.reduceBEq, Int.reduceEq, Int.reduceToNat, ir23]
  refine GCall.of (there_ok ht (.inr hR1)) ?_
  rintro v h1 ⟨rfl, rfl⟩
  simp -implicitDefEqProofs (disch := (first | omega | (simp -implicitDefEqProofs only [szs, ne_eq] <;> omega) | fail)) only [go_sem, Nat.reduceAdd, Nat.reduceSub, Nat.reduceMul, Nat.reduceLT, Nat.reduceMod, Nat.reduceDiv, Nat.reduceEqDiff, Nat.reduceBEq, Nat.reduceLeDiff, ↓reduceIte, reduceCtorEq, Int.reduceAdd, Int.reduceSub, Int.reduceLT, Int.reduceLE, Int.reduceBEq, Int.reduceEq, Int.reduceToNat, t1, t2, t4, hR1]
  refine GCallD.of (R' := fun x => x = r) (W' := fun _ => False) (mclone_ok laysClone m1) ?_
  rintro v h2 ⟨rfl, rfl⟩
  have t1' := (w_push_ne (h := h1) (b := tb) (by omega) (O.map es ck)).trans t1
  simp -implicitDefEqProofs (disch := (first | omega | (simp -implicitDefEqProofs only [szs, ne_eq] <;> omega) | fail)) only [go_sem, Nat.reduceAdd, Nat.reduceSub, Nat.reduceMul, Nat.reduceLT, Nat.reduceMod, Nat.reduceDiv, Nat.reduceEqDiff, Nat.reduceBEq, Nat.reduceLeDiff, ↓reduceIte, reduceCtorEq, Int.reduceAdd, Int.reduceSub, Int.reduceLT, Int.reduceLE, Int.reduceBEq, Int.reduceEq, Int.reduceToNat, t1', t2, t5, hR1, hR2]
  refine ⟨?_, ⟨fun b _ _ => .inr (hR b), fun b _ h => h.elim⟩, ⟨⟨_, w_push_eq (by simp) _, rfl, rfl, by simp -implicitDefEqProofs (disch := (first | omega | (simp -implicitDefEqProofs only [szs, ne_eq] <;> omega) | fail)) only [go_sem, Nat.reduceAdd, Nat.reduceSub, Nat.reduceMul, Nat.reduceLT, Nat.reduceMod, Nat.reduceDiv, Nat.reduceEqDiff, Nat.reduceBEq, Nat.reduceLeDiff, ↓reduceIte, reduceCtorEq, Int.reduceAdd, Int.reduceSub, Int.reduceLT, Int.reduceLE, Int.reduceBEq, Int.reduceEq, Int.reduceToNat], by simp -implicitDefEqProofs (disch := (first | omega | (simp -implicitDefEqProofs only [szs, ne_eq] <;> omega) | fail)) only [go_sem, Nat.reduceAdd, Nat.reduceSub, Nat.reduceMul, Nat.reduceLT, Nat.reduceMod, Nat.reduceDiv, Nat.reduceEqDiff, Nat.reduceBEq, Nat.reduceLeDiff, ↓reduceIte, reduceCtorEq, Int.reduceAdd, Int.reduceSub, Int.reduceLT, Int.reduceLE, Int.reduceBEq, Int.reduceEq, Int.reduceToNat]⟩, es, ck, by rw [w_push_ne (by simp), w_push_eq rfl], m2, m3⟩, fun b hb => by rw [w_push_ne (by simp; omega), w_push_ne (by omega)]⟩
  · simp only [List.not_mem_nil, or_false, false_or, and_false, false_and, false_implies, implies_true, not_false_eq_true, List.mem_singleton, List.mem_cons, and_true, true_and]
    all_goals (try and_intros)
    all_goals (intros; omega)
set_option maxHeartbeats 1000000 in
theorem rclone_ok {h : Heap} {R W : Set'} {n0 rd : Nat} {T : CS} (hr : RefC h n0 rd T) (w : WF T) (hR : ∀ b, R b) : SF Try.prog 24 [.ptr (some (rd, 0))] h R W fun v h' => ∃ rd', v = .ptr (some (rd', 0)) ∧ h.n ≤ rd' ∧ RefC h' h.n rd' T ∧ ∀ b, b < h.n → h'.get b = h.get b := by
  obtain ⟨ct, lv, r1, r2, r3, r4, r5, r6⟩ := hr.t
  have hlt := hr.lt
  have hR0 := hR rd
  have hwl := w.last
  have hwn := w.len
  obtain ⟨hx, rs, hf, hrs⟩ := first_lrs r6.lr
  refine SF.go hm Try.func24 ir24_eq ?_
  obtain ⟨v', g3, r3', w3, hap, o3, m3, kk3, hw3⟩ : ∃ v' g3 r3' w3, appE 40 7 56 (.slice none 0 0 true) lv h = some ⟨v', g3, r3', w3⟩ ∧ OwnS 7 h.n g3 v' T.L.length (flatC T.L) 40 ∧ h.n ≤ g3.n ∧ (∀ b, b < h.n → g3.get b = h.get b) ∧ ∀ b ∈ w3, h.n ≤ b := by
    by_cases h0 : T.L.length = 0
    · have hnil : flatC T.L = [] := List.length_eq_zero_iff.1 (by rw [flatC_len, h0])
      rw [h0] at hx hf
      rw [hnil] at hf
      refine ⟨.slice none 0 0 true, h, rs, [], ?_, by rw [h0, hnil]; exact OwnS.nil _ _ _ _, Nat.le_refl _, fun _ _ => rfl, fun b hb => by cases hb⟩
      simp [appE, hx, hf, appendIn]
    · obtain ⟨v', g3, r3', w3, a1, a2, a3, a4, a5, a6, a7, a8⟩ := app_ownS (n0 := h.n) (h := h) (v := .slice none 0 0 true) (x := lv) (n := 0) (m := T.L.length) (l := []) (news := flatC T.L) (rs := rs) (e := 40) (sz := 7) (bytes := 56) (OwnS.nil _ _ _ _) (Nat.le_refl _) hx hf (flatC_len _) (flatC_one _) (by omega) (by omega) (by omega)
      rw [Nat.zero_add, List.nil_append] at a2
      exact ⟨v', g3, r3', w3, a1, a2, a3, a4, a5⟩
  have hcv := o3.lr.cells
  have hon := o3.lr.one
  have r1' := (kk3 rd (by omega)).trans r1
  simp -implicitDefEqProofs (disch := (first | omega | (simp -implicitDefEqProofs only [szs, ne_eq] <;> omega) | fail)) only [go_sem, Nat.reduceAdd, Nat.reduceSub, Nat.reduceMul, Nat.reduceLT, Nat.reduceMod, Nat.reduceDiv, Nat.reduceEqDiff, Nat.reduceBEq, Nat.reduceLeDiff, ↓reduceIte, reduceCtorEq, Int.reduceAdd, Int.reduceSub, Int.reduceLT, Int.reduceLE, Int.reduceBEq, Int.reduceEq, Int.reduceToNat, ir24, r1, r2, r4, hR0, appendV_of ap_27, hap, ↓hcv, ↓hon, r1', r5]
  refine ⟨?_, ⟨fun b _ _ => .inr (hR b), fun b _ hb => .inl (hw3 b hb)⟩, g3.n, rfl, m3, ⟨⟨by simp, by simp; omega⟩, _, _, w_push_eq rfl _, rfl, rfl, by simp -implicitDefEqProofs (disch := (first | omega | (simp -implicitDefEqProofs only [szs, ne_eq] <;> omega) | fail)) only [go_sem, Nat.reduceAdd, Nat.reduceSub, Nat.reduceMul, Nat.reduceLT, Nat.reduceMod, Nat.reduceDiv, Nat.reduceEqDiff, Nat.reduceBEq, Nat.reduceLeDiff, ↓reduceIte, reduceCtorEq, Int.reduceAdd, Int.reduceSub, Int.reduceLT, Int.reduceLE, Int.reduceBEq, Int.reduceEq, Int.reduceToNat], by simp -implicitDefEqProofs (disch := (first | omega | (simp -implicitDefEqProofs only [szs, ne_eq] <;> omega) | fail)) only [go_sem, Nat.reduceAdd, Nat.reduceSub, Nat.reduceMul, Nat.reduceLT, Nat.reduceMod, Nat.reduceDiv, Nat.reduceEqDiff, Nat.reduceBEq, Nat.reduceLeDiff, ↓reduceIte, reduceCtorEq, Int.reduceAdd, Int.reduceSub, Int.reduceLT, Int.reduceLE, Int.reduceBEq, Int.reduceEq, Int.reduceToNat], o3.old fun b hb => w_push_ne (by omega) _⟩, fun b hb => by rw [w_push_ne (by omega), kk3 b hb]⟩
  · simp only [List.not_mem_nil, or_false, false_or, and_false, false_and, false_implies, implies_true, not_false_eq_true, List.mem_singleton, List.mem_cons, and_true, true_and]
    all_goals (try and_intros)
    all_goals
      rintro b (⟨h1, h2⟩ | h1)
      · have := hw3 b h2; omega
      · omega
end Go.Proofs.Ytehgjkopobkbmaa
