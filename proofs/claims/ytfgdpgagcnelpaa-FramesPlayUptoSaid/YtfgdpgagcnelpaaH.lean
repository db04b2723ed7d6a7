/- The pool: New, of any numbers. -/
import Derived.Test.YtfgdpgagcnelpaaA
import Derived.Test.YtfgdpgagcnelpaaV4
set_option linter.unusedVariables false
set_option linter.unusedSimpArgs false
set_option linter.unusedSimpArgs false
set_option maxRecDepth 100000
set_option linter.unusedVariables false
set_option linter.unusedSimpArgs false
namespace Go.Proofs.Ytfgdpgagcnelpaa
open Go Go.Vm

/-- A slice of numbers. -/
structure IntsV (h : Heap) (v : V) (m : Nat) (g : Nat → Int) : Prop where
  int : ∀ i, i < m → -9223372036854775808 ≤ g i ∧ g i ≤ 9223372036854775807
  len : m ≤ 9223372036854775807
  at' : (m = 0 ∧ (v = .slice none 0 0 true ∨ ∃ a, v = .esl a)) ∨ ∃ b o cap c ce, v = .slice (some (b, o)) m cap true ∧ h.get b = some (.cells c ce) ∧ o + m ≤ c.size ∧ ∀ i, i < m → c.get (o + i) = .int .i64 (g i)
def okQ (m : Nat) (g : Nat → Int) : Prop := ∀ i, i < m → 0 ≤ g i ∧ g i ≤ 256
theorem new_loop {h : Heap} {R W : Set'} {t : List It} {Q : Ex → Fr → Heap → Prop} {n : Int} {v : V} {m : Nat} {g : Nat → Int} {bad : Bool} (hv : IntsV h v m g) (hR : ∀ b, R b)
    (hend : ∀ f s, f.mks = [] → f.tm.n = 57 → f.tm.get 0 = some (.int .i64 n) → f.tm.get 1 = some v → f.tm.get 7 = some (.bool bad) → f.tm.get 6 = some (.int .i64 s) → (m ≤ 8 → s = sumTo g m ∧ okQ m g) → resume (Try.prog : MP) R W none Q t (.exit 0) f h)
    (hret : ∀ f, f.mks = [] → f.tm.get 4 = some (.ptr none) → f.tm.get 5 = some (.int .i64 2) → Q .ret f h)
    {f : Fr} (g0 : f.mks = []) (g1 : f.tm.n = 57) (g2 : f.tm.get 0 = some (.int .i64 n)) (g3 : f.tm.get 1 = some v) (g4 : f.tm.get 6 = some (.int .i64 0)) (g5 : f.tm.get 7 = some (.bool bad)) (g6 : f.tm.get 26 = some v) (g7 : f.tm.get 27 = some (.int .i64 m)) (g8 : f.tm.get 28 = some (.int .i64 0)) :
    GLoop (Try.prog : MP) R W none Q ir10_l0 t f h := by
  refine GLoop.inv hm (fun k f h' => h' = h ∧ f.mks = [] ∧ f.tm.n = 57 ∧ f.tm.get 0 = some (.int .i64 n) ∧ f.tm.get 1 = some v ∧ f.tm.get 7 = some (.bool bad) ∧ f.tm.get 26 = some v ∧ f.tm.get 27 = some (.int .i64 m) ∧ ∃ i : Nat, i + k = m ∧ f.tm.get 28 = some (.int .i64 i) ∧ ∃ s : Int, f.tm.get 6 = some (.int .i64 s) ∧ (m ≤ 8 → s = sumTo g i ∧ okQ i g)) m ?_ ?_
  · exact ⟨rfl, g0, g1, g2, g3, g5, g6, g7, 0, by omega, g8, 0, g4, fun _ => ⟨rfl, fun i hi => by omega⟩⟩
  clear g0 g1 g2 g3 g4 g5 g6 g7 g8
  rintro k ⟨⟨n', tr⟩, mks⟩ h' ⟨rfl, hmk, hn, t0, t1, t7, t26, t27, i, hik, t28, s, t6, hs⟩
  simp only [Tm.get_mk] at hmk hn t0 t1 t7 t26 t27 t28 t6
  subst hmk hn
  have hml := hv.len
  by_cases hlt : i < m
  · have hgi := hv.int i hlt
    rcases hv.at' with ⟨h0, _⟩ | ⟨b, o, cap, c, ce, rfl, hb, hsz, hc⟩
    · omega
    have hci := hc i hlt
    have hRb := hR b
    by_cases hneg : g i < 0
    · simp -implicitDefEqProofs (disch := (first | omega | (simp -implicitDefEqProofs only [szs, ne_eq] <;> omega) | fail)) only [go_sem, Nat.reduceAdd, Nat.reduceSub, Nat.reduceMul, Nat.reduceLT, Nat.reduceMod, Nat.reduceDiv, Nat.reduceEqDiff, Nat.reduceBEq, Nat.reduceLeDiff, ↓reduceIte, reduceCtorEq, Int.reduceAdd, Int.reduceSub, Int.reduceLT, Int.reduceLE, Int.reduceBEq, Int.reduceEq, Int.reduceToNat, ir10_l0, t0, t1, t7, t26, t27, t28, t6, hb, hci, hRb]
      exact hret _ rfl (by simp -implicitDefEqProofs (disch := (first | omega | (simp -implicitDefEqProofs only [szs, ne_eq] <;> omega) | fail)) only [go_sem, Nat.reduceAdd, Nat.reduceSub, Nat.reduceMul, Nat.reduceLT, Nat.reduceMod, Nat.reduceDiv, Nat.reduceEqDiff, Nat.reduceBEq, Nat.reduceLeDiff, ↓reduceIte, reduceCtorEq, Int.reduceAdd, Int.reduceSub, Int.reduceLT, Int.reduceLE, Int.reduceBEq, Int.reduceEq, Int.reduceToNat]) (by simp -implicitDefEqProofs (disch := (first | omega | (simp -implicitDefEqProofs only [szs, ne_eq] <;> omega) | fail)) only [go_sem, Nat.reduceAdd, Nat.reduceSub, Nat.reduceMul, Nat.reduceLT, Nat.reduceMod, Nat.reduceDiv, Nat.reduceEqDiff, Nat.reduceBEq, Nat.reduceLeDiff, ↓reduceIte, reduceCtorEq, Int.reduceAdd, Int.reduceSub, Int.reduceLT, Int.reduceLE, Int.reduceBEq, Int.reduceEq, Int.reduceToNat])
    · by_cases hbig : 256 < g i
      · have hnn : 0 ≤ g i := by omega
        simp -implicitDefEqProofs (disch := (first | omega | (simp -implicitDefEqProofs only [szs, ne_eq] <;> omega) | fail)) only [go_sem, Nat.reduceAdd, Nat.reduceSub, Nat.reduceMul, Nat.reduceLT, Nat.reduceMod, Nat.reduceDiv, Nat.reduceEqDiff, Nat.reduceBEq, Nat.reduceLeDiff, ↓reduceIte, reduceCtorEq, Int.reduceAdd, Int.reduceSub, Int.reduceLT, Int.reduceLE, Int.reduceBEq, Int.reduceEq, Int.reduceToNat, ir10_l0, t0, t1, t7, t26, t27, t28, t6, hb, hci, hRb]
        exact hret _ rfl (by simp -implicitDefEqProofs (disch := (first | omega | (simp -implicitDefEqProofs only [szs, ne_eq] <;> omega) | fail)) only [go_sem, Nat.reduceAdd, Nat.reduceSub, Nat.reduceMul, Nat.reduceLT, Nat.reduceMod, Nat.reduceDiv, Nat.reduceEqDiff, Nat.reduceBEq, Nat.reduceLeDiff, ↓reduceIte, reduceCtorEq, Int.reduceAdd, Int.reduceSub, Int.reduceLT, Int.reduceLE, Int.reduceBEq, Int.reduceEq, Int.reduceToNat]) (by simp -implicitDefEqProofs (disch := (first | omega | (simp -implicitDefEqProofs only [szs, ne_eq] <;> omega) | fail)) only [go_sem, Nat.reduceAdd, Nat.reduceSub, Nat.reduceMul, Nat.reduceLT, Nat.reduceMod, Nat.reduceDiv, Nat.reduceEqDiff, Nat.reduceBEq, Nat.reduceLeDiff, ↓reduceIte, reduceCtorEq, Int.reduceAdd, Int.reduceSub, Int.reduceLT, Int.reduceLE, Int.reduceBEq, Int.reduceEq, Int.reduceToNat])
      · have hnn : 0 ≤ g i := by omega
        have hle : g i ≤ 256 := by omega
        simp -implicitDefEqProofs (disch := (first | omega | (simp -implicitDefEqProofs only [szs, ne_eq] <;> omega) | fail)) only [go_sem, Nat.reduceAdd, Nat.reduceSub, Nat.reduceMul, Nat.reduceLT, Nat.reduceMod, Nat.reduceDiv, Nat.reduceEqDiff, Nat.reduceBEq, Nat.reduceLeDiff, ↓reduceIte, reduceCtorEq, Int.reduceAdd, Int.reduceSub, Int.reduceLT, Int.reduceLE, Int.reduceBEq, Int.reduceEq, Int.reduceToNat, ir10_l0, t0, t1, t7, t26, t27, t28, t6, hb, hci, hRb]
        refine ⟨k - 1, by omega, i + 1, by omega, by simp, ?_⟩
        refine ⟨_, rfl, fun h8 => ?_⟩
        obtain ⟨e1, e2⟩ := hs h8
        have := sumTo_in (g := g) (n := i) (fun a ha => by have := e2 a ha; omega) i (Nat.le_refl _)
        refine ⟨?_, fun j hj => ?_⟩
        · rw [e1, w_i64 (by omega) (by omega)]; rfl
        · by_cases hji : j = i
          · subst hji; omega
          · exact e2 j (by omega)
  · have him : i = m := by omega
    subst him
    simp -implicitDefEqProofs (disch := (first | omega | (simp -implicitDefEqProofs only [szs, ne_eq] <;> omega) | fail)) only [go_sem, Nat.reduceAdd, Nat.reduceSub, Nat.reduceMul, Nat.reduceLT, Nat.reduceMod, Nat.reduceDiv, Nat.reduceEqDiff, Nat.reduceBEq, Nat.reduceLeDiff, ↓reduceIte, reduceCtorEq, Int.reduceAdd, Int.reduceSub, Int.reduceLT, Int.reduceLE, Int.reduceBEq, Int.reduceEq, Int.reduceToNat, ir10_l0, t0, t1, t7, t26, t27, t28, t6]
    exact hend _ s rfl rfl (by simp -implicitDefEqProofs (disch := (first | omega | (simp -implicitDefEqProofs only [szs, ne_eq] <;> omega) | fail)) only [go_sem, Nat.reduceAdd, Nat.reduceSub, Nat.reduceMul, Nat.reduceLT, Nat.reduceMod, Nat.reduceDiv, Nat.reduceEqDiff, Nat.reduceBEq, Nat.reduceLeDiff, ↓reduceIte, reduceCtorEq, Int.reduceAdd, Int.reduceSub, Int.reduceLT, Int.reduceLE, Int.reduceBEq, Int.reduceEq, Int.reduceToNat, t0]) (by simp -implicitDefEqProofs (disch := (first | omega | (simp -implicitDefEqProofs only [szs, ne_eq] <;> omega) | fail)) only [go_sem, Nat.reduceAdd, Nat.reduceSub, Nat.reduceMul, Nat.reduceLT, Nat.reduceMod, Nat.reduceDiv, Nat.reduceEqDiff, Nat.reduceBEq, Nat.reduceLeDiff, ↓reduceIte, reduceCtorEq, Int.reduceAdd, Int.reduceSub, Int.reduceLT, Int.reduceLE, Int.reduceBEq, Int.reduceEq, Int.reduceToNat, t1]) (by simp -implicitDefEqProofs (disch := (first | omega | (simp -implicitDefEqProofs only [szs, ne_eq] <;> omega) | fail)) only [go_sem, Nat.reduceAdd, Nat.reduceSub, Nat.reduceMul, Nat.reduceLT, Nat.reduceMod, Nat.reduceDiv, Nat.reduceEqDiff, Nat.reduceBEq, Nat.reduceLeDiff, ↓reduceIte, reduceCtorEq, Int.reduceAdd, Int.reduceSub, Int.reduceLT, Int.reduceLE, Int.reduceBEq, Int.reduceEq, Int.reduceToNat, t7]) (by simp -implicitDefEqProofs (disch := (first | omega | (simp -implicitDefEqProofs only [szs, ne_eq] <;> omega) | fail)) only [go_sem, Nat.reduceAdd, Nat.reduceSub, Nat.reduceMul, Nat.reduceLT, Nat.reduceMod, Nat.reduceDiv, Nat.reduceEqDiff, Nat.reduceBEq, Nat.reduceLeDiff, ↓reduceIte, reduceCtorEq, Int.reduceAdd, Int.reduceSub, Int.reduceLT, Int.reduceLE, Int.reduceBEq, Int.reduceEq, Int.reduceToNat, t6]) hs
end Go.Proofs.Ytfgdpgagcnelpaa
