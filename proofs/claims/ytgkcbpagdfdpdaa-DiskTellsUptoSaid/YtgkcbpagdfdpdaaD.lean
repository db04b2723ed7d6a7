/- A disk: contents held against each other, Clone, Same. -/
import Derived.Test.YtgkcbpagdfdpdaaC
set_option linter.unusedVariables false
set_option linter.unusedSimpArgs false
set_option linter.unusedSimpArgs false
set_option maxRecDepth 100000
set_option linter.unusedVariables false
set_option linter.unusedSimpArgs false
namespace Go.Vm
theorem append_wholeS {e sz bytes : Nat} {h : Heap} {eb b o m cap : Nat} {ex : Bool} {te ce : TypeId} {c : Blk} (he : h.get eb = some (.cells (Blk.of []) te)) (hb : h.get b = some (.cells c ce)) (hsz : o + m * sz ≤ c.size) (h0 : 0 < m) (hB : m * bytes ≤ 140737488355328) (hbig : m ≤ 9223372036854775807) :
    appE e sz bytes (.slice (some (eb, 0)) 0 0 true) (.slice (some (b, o)) m cap ex) h = some ⟨.slice (some (h.n, 0)) m m false, h.push (.cells (Blk.of (c.gets o (m * sz))) e), [b] ++ [eb], []⟩ := by
  unfold appE
  simp only [lenOfV, firstV, hb, he, Nat.zero_add, Nat.zero_mul, w_ble_t hsz, Blk.length_gets, w_beq_t (rfl : m * sz = m * sz), w_ble_f h0, w_of_size, List.length_nil, w_ble_t (Nat.le_refl 0), w_gets_zero, w_beq_t (rfl : 0 = 0), w_ble_t hB, w_ble_t hbig]
  rfl
end Go.Vm
namespace Go.Proofs.Ytgkcbpagdfdpdaa
open Go Go.Vm
attribute [-go_sem] sz_67
theorem ge_67 : Try.prog.eqGuardType Try.prog.depth 67 = false := by kernel_rfl
theorem in_5 : ∃ i, Try.prog.info? 5 = some i := ⟨_, rfl⟩
theorem ce_5 : Try.prog.cellsOf 5 = 1 := by kernel_rfl
theorem eqIs_sec {xs ys : List V} (hx : IsSec xs) (hy : IsSec ys) : ∀ is : List Nat, (∀ i ∈ is, i < 128) → ∃ b, eqIs Try.prog (eqD Try.prog 9 5) 5 1 xs ys is = some b ∧ (b = true ↔ ∀ i ∈ is, xs.getD i undefV = ys.getD i undefV)
  | [], _ => ⟨true, rfl, by simp⟩
  | i :: is, h => by
    obtain ⟨b, h1, h2⟩ := eqIs_sec hx hy is fun j hj => h j (by simp [hj])
    have hi := h i (by simp)
    have hN := secN_eq
    have ix : i < xs.length := by rw [hx.1]; omega
    have iy : i < ys.length := by rw [hy.1]; omega
    obtain ⟨n, en, _⟩ := hx.2 xs[i] (List.getElem_mem ix)
    obtain ⟨m, em, _⟩ := hy.2 ys[i] (List.getElem_mem iy)
    have px : partV Try.prog 5 xs (i * 1) = some (.int .u8 n) := by
      simp only [partV, ag_5, Nat.mul_one, List.getElem?_eq_getElem ix, en]
    have py : partV Try.prog 5 ys (i * 1) = some (.int .u8 m) := by
      simp only [partV, ag_5, Nat.mul_one, List.getElem?_eq_getElem iy, em]
    have dx : xs.getD i undefV = .int .u8 n := by rw [List.getD_eq_getElem?_getD, List.getElem?_eq_getElem ix, en]; rfl
    have dy : ys.getD i undefV = .int .u8 m := by rw [List.getD_eq_getElem?_getD, List.getElem?_eq_getElem iy, em]; rfl
    have he : eqD Try.prog 9 5 (.int .u8 n) (.int .u8 m) = some (n == m) := by simp [eqD, Try.underlying5]
    unfold eqIs
    rw [px, py]
    simp only [he]
    by_cases e : n = m
    · subst e
      rw [beq_self_eq_true]
      refine ⟨b, h1, ?_⟩
      rw [h2]
      constructor
      · intro h3 j hj
        rcases List.mem_cons.1 hj with rfl | hj
        · rw [dx, dy]
        · exact h3 j hj
      · exact fun h3 j hj => h3 j (by simp [hj])
    · rw [show (n == m) = false by simpa using e]
      refine ⟨false, rfl, ?_⟩
      simp only [Bool.false_eq_true, false_iff]
      intro h3
      have := h3 i (by simp)
      rw [dx, dy] at this
      exact e (by simpa using this)
theorem eq_67 {xs ys : List V} (hx : IsSec xs) (hy : IsSec ys) [Decidable (xs = ys)] : eqD Try.prog 10 67 (.agg xs) (.agg ys) = some (decide (xs = ys)) := by
  obtain ⟨b, h1, h2⟩ := eqIs_sec hx hy (List.range 128) (by simp)
  obtain ⟨i, hi⟩ := in_5
  have : eqD Try.prog 10 67 (.agg xs) (.agg ys) = eqIs Try.prog (eqD Try.prog 9 5) 5 (Try.prog.cellsOf 5) xs ys (List.range 128) := by
    rw [eqD]; simp only [Try.underlying67, hi]
  rw [this, ce_5, h1]
  congr 1
  rw [Bool.eq_iff_iff, h2, decide_eq_true_iff]
  have hN := secN_eq
  constructor
  · intro h3
    apply List.ext_getElem?
    intro j
    by_cases hj : j < 128
    · have := h3 j (by simpa using hj)
      rw [List.getD_eq_getElem?_getD, List.getD_eq_getElem?_getD, List.getElem?_eq_getElem (by rw [hx.1]; omega), List.getElem?_eq_getElem (by rw [hy.1]; omega)] at this
      rw [List.getElem?_eq_getElem (by rw [hx.1]; omega), List.getElem?_eq_getElem (by rw [hy.1]; omega)]
      simpa using this
    · rw [List.getElem?_eq_none (by rw [hx.1]; omega), List.getElem?_eq_none (by rw [hy.1]; omega)]
  · rintro rfl j _; rfl
theorem clone_ok {h : Heap} {R W : Set'} {b m cap : Nat} {ex : Bool} {ce : TypeId} {c : Blk} (hb : h.get b = some (.cells c ce)) (hsz : m * 128 ≤ c.size) (h0 : 0 < m) (hm' : m ≤ 1000000000) (hR : R b) :
    SF Try.prog 31 [.slice (some (b, 0)) m cap ex] h R W fun v h' => v = .slice (some (h.n + 1, 0)) m m false ∧ h' = (h.push (.cells (Blk.of []) 67)).push (.cells (Blk.of (c.gets 0 (m * 128))) 67) := by
  have hlt := Heap.lt_of_get hb
  have hbs : builtSliceV Try.prog 51 0 [] = some (67, []) := by kernel_rfl
  refine SF.go hm Try.func31 ir31_eq ?_
  simp -implicitDefEqProofs (disch := (first | omega | (simp -implicitDefEqProofs only [szs, ne_eq] <;> omega) | fail)) only [go_sem, Nat.reduceAdd, Nat.reduceSub, Nat.reduceMul, Nat.reduceLT, Nat.reduceMod, Nat.reduceDiv, Nat.reduceEqDiff, Nat.reduceBEq, Nat.reduceLeDiff, ↓reduceIte, reduceCtorEq, Int.reduceAdd, Int.reduceSub, Int.reduceLT, Int.reduceLE, Int.reduceBEq, Int.reduceEq, Int.reduceToNat, ir31, hbs, appendV_of ap_51]
  rw [append_wholeS (te := 67) (c := c) (ce := ce) (by simp -implicitDefEqProofs (disch := (first | omega | (simp -implicitDefEqProofs only [szs, ne_eq] <;> omega) | fail)) only [go_sem, Nat.reduceAdd, Nat.reduceSub, Nat.reduceMul, Nat.reduceLT, Nat.reduceMod, Nat.reduceDiv, Nat.reduceEqDiff, Nat.reduceBEq, Nat.reduceLeDiff, ↓reduceIte, reduceCtorEq, Int.reduceAdd, Int.reduceSub, Int.reduceLT, Int.reduceLE, Int.reduceBEq, Int.reduceEq, Int.reduceToNat]) (by simp -implicitDefEqProofs (disch := (first | omega | (simp -implicitDefEqProofs only [szs, ne_eq] <;> omega) | fail)) only [go_sem, Nat.reduceAdd, Nat.reduceSub, Nat.reduceMul, Nat.reduceLT, Nat.reduceMod, Nat.reduceDiv, Nat.reduceEqDiff, Nat.reduceBEq, Nat.reduceLeDiff, ↓reduceIte, reduceCtorEq, Int.reduceAdd, Int.reduceSub, Int.reduceLT, Int.reduceLE, Int.reduceBEq, Int.reduceEq, Int.reduceToNat, hb]) (by omega) h0 (by omega) (by omega)]
  simp -implicitDefEqProofs (disch := (first | omega | (simp -implicitDefEqProofs only [szs, ne_eq] <;> omega) | fail)) only [go_sem, Nat.reduceAdd, Nat.reduceSub, Nat.reduceMul, Nat.reduceLT, Nat.reduceMod, Nat.reduceDiv, Nat.reduceEqDiff, Nat.reduceBEq, Nat.reduceLeDiff, ↓reduceIte, reduceCtorEq, Int.reduceAdd, Int.reduceSub, Int.reduceLT, Int.reduceLE, Int.reduceBEq, Int.reduceEq, Int.reduceToNat, hR]
theorem clone_nil {h : Heap} {R W : Set'} : SF Try.prog 31 [.slice none 0 0 true] h R W fun v h' => v = .slice none 0 0 true ∧ h' = h := by
  refine SF.go hm Try.func31 ir31_eq ?_
  simp -implicitDefEqProofs (disch := (first | omega | (simp -implicitDefEqProofs only [szs, ne_eq] <;> omega) | fail)) only [go_sem, Nat.reduceAdd, Nat.reduceSub, Nat.reduceMul, Nat.reduceLT, Nat.reduceMod, Nat.reduceDiv, Nat.reduceEqDiff, Nat.reduceBEq, Nat.reduceLeDiff, ↓reduceIte, reduceCtorEq, Int.reduceAdd, Int.reduceSub, Int.reduceLT, Int.reduceLE, Int.reduceBEq, Int.reduceEq, Int.reduceToNat, ir31, Option.isNone_none]
/-- A slice of sectors. -/
def CV (h : Heap) (R : Set') (v : V) (m : Nat) (F : Nat → List V) : Prop := m ≤ 1000000000 ∧ ((m = 0 ∧ v = .slice none 0 0 true) ∨ ∃ b cap ex c, v = .slice (some (b, 0)) m cap ex ∧ R b ∧ h.get b = some (.cells c 67) ∧ m * 128 ≤ c.size ∧ ∀ s, s < m → c.gets (s * 128) secN = F s ∧ IsSec (F s))
theorem CV.old {h h' : Heap} {R : Set'} {v : V} {m : Nat} {F : Nat → List V} (hv : CV h R v m F) (hk : ∀ b, b < h.n → h'.get b = h.get b) : CV h' R v m F := by
  refine ⟨hv.1, hv.2.imp id ?_⟩
  rintro ⟨b, cap, ex, c, e, hR, hb, hs⟩
  exact ⟨b, cap, ex, c, e, hR, by rw [hk _ (Heap.lt_of_get hb)]; exact hb, hs⟩
theorem CV.len {h : Heap} {R : Set'} {v : V} {m : Nat} {F : Nat → List V} (hv : CV h R v m F) (g : Heap) : lenV Try.prog 51 v g = some (m, []) := by
  rcases hv.2 with ⟨rfl, rfl⟩ | ⟨b, cap, ex, c, rfl, _⟩ <;> simp [lenV, Try.underlying51]
theorem equal_ok {h : Heap} {R W : Set'} {v1 v2 : V} {m1 m2 : Nat} {F1 F2 : Nat → List V} (hv1 : CV h R v1 m1 F1) (hv2 : CV h R v2 m2 F2) :
    SF Try.prog 32 [v1, v2] h R W fun v h' => ∃ b, v = .bool b ∧ (b = true ↔ m1 = m2 ∧ ∀ s, s < m1 → F1 s = F2 s) ∧ h' = h := by
  classical
  have hl1 := hv1.len
  have hl2 := hv2.len
  have hm1 := hv1.1
  refine SF.go hm Try.func32 ir32_eq ?_
  by_cases hmm : m1 = m2
  · subst hmm
    simp -implicitDefEqProofs (disch := (first | omega | (simp -implicitDefEqProofs only [szs, ne_eq] <;> omega) | fail)) only [go_sem, Nat.reduceAdd, Nat.reduceSub, Nat.reduceMul, Nat.reduceLT, Nat.reduceMod, Nat.reduceDiv, Nat.reduceEqDiff, Nat.reduceBEq, Nat.reduceLeDiff, ↓reduceIte, reduceCtorEq, Int.reduceAdd, Int.reduceSub, Int.reduceLT, Int.reduceLE, Int.reduceBEq, Int.reduceEq, Int.reduceToNat, ir32, ↓hl1, ↓hl2]
    refine GLoop.inv hm (fun k f g => g = h ∧ f.mks = [] ∧ f.tm.n = 26 ∧ f.tm.get 0 = some v1 ∧ f.tm.get 1 = some v2 ∧ f.tm.get 12 = some (.int .i64 m1) ∧ ∃ j : Nat, j + k = m1 ∧ f.tm.get 13 = some (.int .i64 j) ∧ ∀ s, s < j → F1 s = F2 s) m1 ?_ ?_
    · exact ⟨rfl, rfl, rfl, by simp -implicitDefEqProofs (disch := (first | omega | (simp -implicitDefEqProofs only [szs, ne_eq] <;> omega) | fail)) only [go_sem, Nat.reduceAdd, Nat.reduceSub, Nat.reduceMul, Nat.reduceLT, Nat.reduceMod, Nat.reduceDiv, Nat.reduceEqDiff, Nat.reduceBEq, Nat.reduceLeDiff, ↓reduceIte, reduceCtorEq, Int.reduceAdd, Int.reduceSub, Int.reduceLT, Int.reduceLE, Int.reduceBEq, Int.reduceEq, Int.reduceToNat], by simp -implicitDefEqProofs (disch := (first | omega | (simp -implicitDefEqProofs only [szs, ne_eq] <;> omega) | fail)) only [go_sem, Nat.reduceAdd, Nat.reduceSub, Nat.reduceMul, Nat.reduceLT, Nat.reduceMod, Nat.reduceDiv, Nat.reduceEqDiff, Nat.reduceBEq, Nat.reduceLeDiff, ↓reduceIte, reduceCtorEq, Int.reduceAdd, Int.reduceSub, Int.reduceLT, Int.reduceLE, Int.reduceBEq, Int.reduceEq, Int.reduceToNat], by simp -implicitDefEqProofs (disch := (first | omega | (simp -implicitDefEqProofs only [szs, ne_eq] <;> omega) | fail)) only [go_sem, Nat.reduceAdd, Nat.reduceSub, Nat.reduceMul, Nat.reduceLT, Nat.reduceMod, Nat.reduceDiv, Nat.reduceEqDiff, Nat.reduceBEq, Nat.reduceLeDiff, ↓reduceIte, reduceCtorEq, Int.reduceAdd, Int.reduceSub, Int.reduceLT, Int.reduceLE, Int.reduceBEq, Int.reduceEq, Int.reduceToNat], 0, by omega, by simp -implicitDefEqProofs (disch := (first | omega | (simp -implicitDefEqProofs only [szs, ne_eq] <;> omega) | fail)) only [go_sem, Nat.reduceAdd, Nat.reduceSub, Nat.reduceMul, Nat.reduceLT, Nat.reduceMod, Nat.reduceDiv, Nat.reduceEqDiff, Nat.reduceBEq, Nat.reduceLeDiff, ↓reduceIte, reduceCtorEq, Int.reduceAdd, Int.reduceSub, Int.reduceLT, Int.reduceLE, Int.reduceBEq, Int.reduceEq, Int.reduceToNat]; rfl, fun s hs => by omega⟩
    · rintro k ⟨⟨n', tr⟩, mks⟩ g ⟨rfl, hmk, hn', t0, t1, t12, j, hj, t13, hall⟩
      simp only [Tm.get_mk] at hmk hn' t0 t1 t12 t13
      subst hmk hn'
      by_cases hjm : j < m1
      · rcases hv1.2 with ⟨h0, _⟩ | ⟨b1, cap1, ex1, c1, rfl, hR1, hb1, hs1, hc1⟩
        · omega
        rcases hv2.2 with ⟨h0, _⟩ | ⟨b2, cap2, ex2, c2, rfl, hR2, hb2, hs2, hc2⟩
        · omega
        obtain ⟨g1, i1⟩ := hc1 j hjm
        obtain ⟨g2, i2⟩ := hc2 j hjm
        have hN := secN_eq
        have heq := eq_67 i1 i2
        by_cases he : F1 j = F2 j
        · rw [decide_eq_true he] at heq
          simp -implicitDefEqProofs (disch := (first | omega | (simp -implicitDefEqProofs only [szs, ne_eq] <;> omega) | fail)) only [go_sem, Nat.reduceAdd, Nat.reduceSub, Nat.reduceMul, Nat.reduceLT, Nat.reduceMod, Nat.reduceDiv, Nat.reduceEqDiff, Nat.reduceBEq, Nat.reduceLeDiff, ↓reduceIte, reduceCtorEq, Int.reduceAdd, Int.reduceSub, Int.reduceLT, Int.reduceLE, Int.reduceBEq, Int.reduceEq, Int.reduceToNat, ir32_l0, t0, t1, t12, t13, hb1, hb2, g1, g2, sz67, ge_67, heq, hR1, hR2]
          refine ⟨k - 1, by omega, j + 1, by omega, by simp, fun s hs => ?_⟩
          by_cases e : s = j
          · subst e; exact he
          · exact hall s (by omega)
        · rw [decide_eq_false he] at heq
          simp -implicitDefEqProofs (disch := (first | omega | (simp -implicitDefEqProofs only [szs, ne_eq] <;> omega) | fail)) only [go_sem, Nat.reduceAdd, Nat.reduceSub, Nat.reduceMul, Nat.reduceLT, Nat.reduceMod, Nat.reduceDiv, Nat.reduceEqDiff, Nat.reduceBEq, Nat.reduceLeDiff, ↓reduceIte, reduceCtorEq, Int.reduceAdd, Int.reduceSub, Int.reduceLT, Int.reduceLE, Int.reduceBEq, Int.reduceEq, Int.reduceToNat, ir32_l0, t0, t1, t12, t13, hb1, hb2, g1, g2, sz67, ge_67, heq, hR1, hR2]
          exact ⟨false, rfl, by simp only [Bool.false_eq_true, false_iff]; exact fun h => he (h j hjm)⟩
      · have : j = m1 := by omega
        subst this
        simp -implicitDefEqProofs (disch := (first | omega | (simp -implicitDefEqProofs only [szs, ne_eq] <;> omega) | fail)) only [go_sem, Nat.reduceAdd, Nat.reduceSub, Nat.reduceMul, Nat.reduceLT, Nat.reduceMod, Nat.reduceDiv, Nat.reduceEqDiff, Nat.reduceBEq, Nat.reduceLeDiff, ↓reduceIte, reduceCtorEq, Int.reduceAdd, Int.reduceSub, Int.reduceLT, Int.reduceLE, Int.reduceBEq, Int.reduceEq, Int.reduceToNat, ir32_l0, t0, t1, t12, t13]
        exact ⟨true, rfl, by simp only [true_iff]; exact hall⟩
  · simp -implicitDefEqProofs (disch := (first | omega | (simp -implicitDefEqProofs only [szs, ne_eq] <;> omega) | fail)) only [go_sem, Nat.reduceAdd, Nat.reduceSub, Nat.reduceMul, Nat.reduceLT, Nat.reduceMod, Nat.reduceDiv, Nat.reduceEqDiff, Nat.reduceBEq, Nat.reduceLeDiff, ↓reduceIte, reduceCtorEq, Int.reduceAdd, Int.reduceSub, Int.reduceLT, Int.reduceLE, Int.reduceBEq, Int.reduceEq, Int.reduceToNat, ir32, ↓hl1, ↓hl2, hmm]
    exact ⟨false, rfl, by simp⟩
end Go.Proofs.Ytgkcbpagdfdpdaa
