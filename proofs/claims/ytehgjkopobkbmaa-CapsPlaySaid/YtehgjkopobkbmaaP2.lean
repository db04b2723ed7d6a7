/- CapsPlay: goes: All of an account, left behind some turns, gone over again. -/
import Derived.Test.YtehgjkopobkbmaaP1
import Derived.Test.YtehgjkopobkbmaaLW
set_option linter.unusedVariables false
set_option linter.unusedSimpArgs false
set_option linter.unusedSimpArgs false
set_option maxRecDepth 100000
set_option linter.unusedVariables false
set_option linter.unusedSimpArgs false
namespace Go.Proofs.Ytehgjkopobkbmaa
open Go Go.Vm
set_option maxHeartbeats 2000000 in
theorem goes_l0 {H g0 : Heap} {R W : Set'} {Q : Ex → Fr → Heap → Prop} {t : List It} {n0 rd wb tb x7 x8 : Nat} {T : CS} (hr : RefC H n0 rd T) (w : WF T) (hR : ∀ b, R b) (hW : ∀ b, H.n ≤ b → W b) (a : Int) (hwb : H.n ≤ wb) (gn0 : wb < g0.n) (hold : ∀ b, b < H.n → g0.get b = H.get b) (hw0 : g0.get wb = some (.cells (Blk.of [V.slice none 0 0 true]) 27))
    (hk : ∀ (tr : Tr V) g c lv, g0.n ≤ g.n → (∀ b, b < g0.n → b ≠ wb → g.get b = g0.get b) → g.get wb = some (.cells c 27) → c.size = 1 → c.get 0 = lv → OwnS 7 g0.n g lv (allL T.L a).length (flatC (allL T.L a)) 40 → tr.get 0 = some (.ptr (some (tb, 0))) → tr.get 1 = some (.ptr (some (rd, 0))) → tr.get 2 = some (.int .i64 a) → tr.get 7 = some (.ptr (some (x7, 0))) → tr.get 8 = some (.ptr (some (x8, 0))) → tr.get 9 = some (.ptr (some (wb, 0))) → resume ⟨Try.prog, true⟩ R W none Q t (.exit 0) ⟨⟨94, tr⟩, []⟩ g)
    {tr : Tr V} (u0 : tr.get 0 = some (.ptr (some (tb, 0)))) (u1 : tr.get 1 = some (.ptr (some (rd, 0)))) (u2 : tr.get 2 = some (.int .i64 a)) (u7 : tr.get 7 = some (.ptr (some (x7, 0)))) (u8 : tr.get 8 = some (.ptr (some (x8, 0)))) (u9 : tr.get 9 = some (.ptr (some (wb, 0)))) (u10 : tr.get 10 = some (.int .i64 0)) :
    GLoop ⟨Try.prog, true⟩ R W none Q ir29_l0 t ⟨⟨94, tr⟩, []⟩ g0 := by
  obtain ⟨ct, lv0, r1, r2, r3, r4, r5, r6⟩ := hr.t
  have hlt := hr.lt
  have hRd := hR rd
  have hRw := hR wb
  have hWw := hW wb hwb
  have hlen := r6.lr.lenV Try.underlying27
  have hwl := w.last
  have hwn := w.len
  refine GLoop.inv hm (fun k f g => f.mks = [] ∧ f.tm.n = 94 ∧ f.tm.get 0 = some (.ptr (some (tb, 0))) ∧ f.tm.get 1 = some (.ptr (some (rd, 0))) ∧ f.tm.get 2 = some (.int .i64 a) ∧ f.tm.get 7 = some (.ptr (some (x7, 0))) ∧ f.tm.get 8 = some (.ptr (some (x8, 0))) ∧ f.tm.get 9 = some (.ptr (some (wb, 0))) ∧ g0.n ≤ g.n ∧ (∀ b, b < g0.n → b ≠ wb → g.get b = g0.get b) ∧ ∃ (p : Nat) (c : Blk) (lv : V), p + k = T.L.length ∧ f.tm.get 10 = some (.int .i64 p) ∧ g.get wb = some (.cells c 27) ∧ c.size = 1 ∧ c.ro = false ∧ c.get 0 = lv ∧ OwnS 7 g0.n g lv (allL (T.L.take p) a).length (flatC (allL (T.L.take p) a)) 40) T.L.length ?_ ?_
  · exact ⟨rfl, rfl, u0, u1, u2, u7, u8, u9, Nat.le_refl _, fun _ _ _ => rfl, 0, _, _, by omega, u10, hw0, rfl, rfl, rfl, OwnS.nil _ _ _ _⟩
  clear u0 u1 u2 u7 u8 u9 u10 tr
  rintro k ⟨⟨n', tr⟩, mks⟩ g ⟨hmk, hn', t0, t1, t2, t7, t8, t9, gn, hgo, p, c, lv, hpk, t10, g1, g2, g3, g4, hown⟩
  simp only [Tm.get_mk] at hmk hn' t0 t1 t2 t7 t8 t9 t10
  subst hmk hn'
  have r1g := (hgo rd (by omega) (by omega)).trans ((hold rd (by omega)).trans r1)
  by_cases hp : p < T.L.length
  · have hcp : T.L[p]? = some (T.L[p]) := List.getElem?_eq_getElem hp
    generalize hc0 : T.L[p] = cp at hcp
    obtain ⟨bi, oi, capi, exi, ci, cei, rfl, hbi, i1, i2, y0, y1, y2, y3, y4, y5, y6⟩ := CapsV.get r6.lr hcp
    have hRb := hR bi
    have hbl := Heap.lt_of_get i1
    have i1' := (hgo bi (by omega) (by omega)).trans ((hold bi hbl).trans i1)
    have htake := take_snoc' hcp
    have hlall : (allL (T.L.take p) a).length ≤ p := by
      have := List.length_filter_le (fun c : Cp => decide (a < 0 ∨ c.ac = a)) (T.L.take p)
      rw [List.length_take] at this
      show (List.filter _ _).length ≤ p
      omega
    have one : allOne cp.l = true := rfl
    have hlen7 : cp.l.length = 1 * 7 := rfl
    obtain ⟨v', ga, r3', w3, hap, o3, m3, kk3, hw3, kw3, ht3, hr3'⟩ := app_ownS (n0 := g0.n) (h := g.push (.cells (Blk.of cp.l) 40)) (v := lv) (x := .slice (some (g.n, 0)) 1 1 true) (n := (allL (T.L.take p) a).length) (m := 1) (news := cp.l) (rs := [g.n]) (e := 40) (sz := 7) (bytes := 56) (hown.old fun b hb => by rw [w_push_ne (by omega)]) (by simp; omega) rfl (firstS (e := 40) (w_push_eq rfl _) (Nat.le_refl _) (gets_all _ rfl)) hlen7 one (by omega) (by omega) (by omega)
    simp only [Cp.l] at hap
    have m3' : g.n + 1 ≤ ga.n := by simpa using m3
    have hcv := o3.lr.cells
    have hon := o3.lr.one
    have hga : ga.get wb = some (.cells c 27) := by rw [kk3 _ gn0, w_push_ne (by omega)]; exact g1
    have hlt3 := Heap.lt_of_get hga
    have fin : a < 0 ∨ cp.ac = a → ((∀ (b : Nat), b < g.n → b ∈ r3' → R b) ∧ ∀ (b : Nat), b < g.n → b ∈ w3 → W b) ∧ ∃ k', k' < k ∧ g0.n ≤ ga.n ∧ (∀ (b : Nat), b < g0.n → b ≠ wb → (ga.set wb (O.cells (c.set 0 v') 27)).get b = g0.get b) ∧ ∃ p_1 c_1 lv, p_1 + k' = T.L.length ∧ V.int IntKind.i64 (↑p + 1) = V.int IntKind.i64 ↑p_1 ∧ O.cells (c.set 0 v') 27 = O.cells c_1 27 ∧ c_1.size = 1 ∧ c_1.ro = false ∧ c_1.get 0 = lv ∧ OwnS 7 g0.n (ga.set wb (O.cells (c.set 0 v') 27)) lv (allL (List.take p_1 T.L) a).length (flatC (allL (List.take p_1 T.L) a)) 40 := fun hsel => by
      have hsnoc : allL (T.L.take (p + 1)) a = allL (T.L.take p) a ++ [cp] := by rw [htake, allL_snoc, if_pos hsel]
      refine ⟨⟨fun b _ _ => hR b, fun b _ hb => hW b (by have := hw3 b hb; omega)⟩, k - 1, by omega, by omega, fun b h1 h2 => by rw [w_set_ne hlt3 h2, kk3 b h1, w_push_ne (by omega)]; exact hgo b h1 h2, p + 1, _, _, by omega, by simp, rfl, by rw [Blk.size_set]; exact g2, by rw [Blk.ro_set]; exact g3, w_bset_eq rfl _, ?_⟩
      rw [hsnoc, flatC_snoc, List.length_append]
      exact o3.keep fun b c' e hb => by rw [w_set_ne hlt3 (by omega)]; exact e
    by_cases hsel : a < 0 ∨ cp.ac = a
    · by_cases ha0 : a < 0
      · simp -implicitDefEqProofs (disch := (first | omega | (simp -implicitDefEqProofs only [szs, ne_eq] <;> omega) | fail)) only [go_sem, Nat.reduceAdd, Nat.reduceSub, Nat.reduceMul, Nat.reduceLT, Nat.reduceMod, Nat.reduceDiv, Nat.reduceEqDiff, Nat.reduceBEq, Nat.reduceLeDiff, ↓reduceIte, reduceCtorEq, Int.reduceAdd, Int.reduceSub, Int.reduceLT, Int.reduceLE, Int.reduceBEq, Int.reduceEq, Int.reduceToNat, ir29_l0, t0, t1, t2, t7, t8, t9, t10, r1g, r2, r4, hRd, hRw, hWw, hRb, i1', i2, y0, y1, y2, y3, y4, y5, y6, g1, g2, g3, g4, ↓hlen, undefV, appendV_of ap_27, hap, ↓hcv, ↓hon, hga]
        refine ⟨?_, fin hsel⟩
        simp only [List.not_mem_nil, or_false, false_or, and_false, false_and, false_implies, implies_true, not_false_eq_true, List.mem_singleton, List.mem_cons, and_true, true_and]
      · have hac : cp.ac = a := by omega
        simp -implicitDefEqProofs (disch := (first | omega | (simp -implicitDefEqProofs only [szs, ne_eq] <;> omega) | fail)) only [go_sem, Nat.reduceAdd, Nat.reduceSub, Nat.reduceMul, Nat.reduceLT, Nat.reduceMod, Nat.reduceDiv, Nat.reduceEqDiff, Nat.reduceBEq, Nat.reduceLeDiff, ↓reduceIte, reduceCtorEq, Int.reduceAdd, Int.reduceSub, Int.reduceLT, Int.reduceLE, Int.reduceBEq, Int.reduceEq, Int.reduceToNat, ir29_l0, t0, t1, t2, t7, t8, t9, t10, r1g, r2, r4, hRd, hRw, hWw, hRb, i1', i2, y0, y1, y2, y3, y4, y5, y6, g1, g2, g3, g4, ↓hlen, undefV, appendV_of ap_27, hap, ↓hcv, ↓hon, hga]
        refine ⟨?_, fin hsel⟩
        simp only [List.not_mem_nil, or_false, false_or, and_false, false_and, false_implies, implies_true, not_false_eq_true, List.mem_singleton, List.mem_cons, and_true, true_and]
    · have ha0 : ¬ a < 0 := fun h => hsel (.inl h)
      have hac : cp.ac ≠ a := fun h => hsel (.inr h)
      simp -implicitDefEqProofs (disch := (first | omega | (simp -implicitDefEqProofs only [szs, ne_eq] <;> omega) | fail)) only [go_sem, Nat.reduceAdd, Nat.reduceSub, Nat.reduceMul, Nat.reduceLT, Nat.reduceMod, Nat.reduceDiv, Nat.reduceEqDiff, Nat.reduceBEq, Nat.reduceLeDiff, ↓reduceIte, reduceCtorEq, Int.reduceAdd, Int.reduceSub, Int.reduceLT, Int.reduceLE, Int.reduceBEq, Int.reduceEq, Int.reduceToNat, ir29_l0, t0, t1, t2, t7, t8, t9, t10, r1g, r2, r4, hRd, hRw, hRb, i1', i2, y2, ↓hlen, undefV]
      refine ⟨k - 1, by omega, gn, hgo, p + 1, c, lv, by omega, by simp, g1, g2, g3, g4, ?_⟩
      rw [htake, allL_snoc, if_neg hsel]
      exact hown
  · obtain rfl : p = T.L.length := by omega
    rw [List.take_length] at hown
    simp -implicitDefEqProofs (disch := (first | omega | (simp -implicitDefEqProofs only [szs, ne_eq] <;> omega) | fail)) only [go_sem, Nat.reduceAdd, Nat.reduceSub, Nat.reduceMul, Nat.reduceLT, Nat.reduceMod, Nat.reduceDiv, Nat.reduceEqDiff, Nat.reduceBEq, Nat.reduceLeDiff, ↓reduceIte, reduceCtorEq, Int.reduceAdd, Int.reduceSub, Int.reduceLT, Int.reduceLE, Int.reduceBEq, Int.reduceEq, Int.reduceToNat, ir29_l0, t0, t1, t2, t7, t8, t9, t10, r1g, r2, r4, hRd, ↓hlen]
    exact hk _ g c lv gn hgo g1 g2 g4 hown (by simp -implicitDefEqProofs (disch := (first | omega | (simp -implicitDefEqProofs only [szs, ne_eq] <;> omega) | fail)) only [go_sem, Nat.reduceAdd, Nat.reduceSub, Nat.reduceMul, Nat.reduceLT, Nat.reduceMod, Nat.reduceDiv, Nat.reduceEqDiff, Nat.reduceBEq, Nat.reduceLeDiff, ↓reduceIte, reduceCtorEq, Int.reduceAdd, Int.reduceSub, Int.reduceLT, Int.reduceLE, Int.reduceBEq, Int.reduceEq, Int.reduceToNat, t0]) (by simp -implicitDefEqProofs (disch := (first | omega | (simp -implicitDefEqProofs only [szs, ne_eq] <;> omega) | fail)) only [go_sem, Nat.reduceAdd, Nat.reduceSub, Nat.reduceMul, Nat.reduceLT, Nat.reduceMod, Nat.reduceDiv, Nat.reduceEqDiff, Nat.reduceBEq, Nat.reduceLeDiff, ↓reduceIte, reduceCtorEq, Int.reduceAdd, Int.reduceSub, Int.reduceLT, Int.reduceLE, Int.reduceBEq, Int.reduceEq, Int.reduceToNat, t1]) (by simp -implicitDefEqProofs (disch := (first | omega | (simp -implicitDefEqProofs only [szs, ne_eq] <;> omega) | fail)) only [go_sem, Nat.reduceAdd, Nat.reduceSub, Nat.reduceMul, Nat.reduceLT, Nat.reduceMod, Nat.reduceDiv, Nat.reduceEqDiff, Nat.reduceBEq, Nat.reduceLeDiff, ↓reduceIte, reduceCtorEq, Int.reduceAdd, Int.reduceSub, Int.reduceLT, Int.reduceLE, Int.reduceBEq, Int.reduceEq, Int.reduceToNat, t2]) (by simp -implicitDefEqProofs (disch := (first | omega | (simp -implicitDefEqProofs only [szs, ne_eq] <;> omega) | fail)) only [go_sem, Nat.reduceAdd, Nat.reduceSub, Nat.reduceMul, Nat.reduceLT, Nat.reduceMod, Nat.reduceDiv, Nat.reduceEqDiff, Nat.reduceBEq, Nat.reduceLeDiff, ↓reduceIte, reduceCtorEq, Int.reduceAdd, Int.reduceSub, Int.reduceLT, Int.reduceLE, Int.reduceBEq, Int.reduceEq, Int.reduceToNat, t7]) (by simp -implicitDefEqProofs (disch := (first | omega | (simp -implicitDefEqProofs only [szs, ne_eq] <;> omega) | fail)) only [go_sem, Nat.reduceAdd, Nat.reduceSub, Nat.reduceMul, Nat.reduceLT, Nat.reduceMod, Nat.reduceDiv, Nat.reduceEqDiff, Nat.reduceBEq, Nat.reduceLeDiff, ↓reduceIte, reduceCtorEq, Int.reduceAdd, Int.reduceSub, Int.reduceLT, Int.reduceLE, Int.reduceBEq, Int.reduceEq, Int.reduceToNat, t8]) (by simp -implicitDefEqProofs (disch := (first | omega | (simp -implicitDefEqProofs only [szs, ne_eq] <;> omega) | fail)) only [go_sem, Nat.reduceAdd, Nat.reduceSub, Nat.reduceMul, Nat.reduceLT, Nat.reduceMod, Nat.reduceDiv, Nat.reduceEqDiff, Nat.reduceBEq, Nat.reduceLeDiff, ↓reduceIte, reduceCtorEq, Int.reduceAdd, Int.reduceSub, Int.reduceLT, Int.reduceLE, Int.reduceBEq, Int.reduceEq, Int.reduceToNat, t9])
theorem turn_heap (g : Heap) (u : Nat) : ∃ gN, ((g.push (O.cells (Blk.of [V.int IntKind.i64 0]) 3)).set g.n (O.cells ((Blk.of [V.int IntKind.i64 0]).set 0 (V.int IntKind.i64 (u : Int))) 3)).set g.n (O.cells (((Blk.of [V.int IntKind.i64 0]).set 0 (V.int IntKind.i64 (u : Int))).set 0 (V.int IntKind.i64 ((u : Int) + 1))) 3) = gN ∧ gN.n = g.n + 1 ∧ (∃ c, gN.get g.n = some (.cells c 3) ∧ c.size = 1 ∧ c.ro = false ∧ c.get 0 = .int .i64 ((u + 1 : Nat) : Int)) ∧ ∀ b, b < g.n → gN.get b = g.get b :=
  ⟨_, rfl, by simp, ⟨_, w_set_eq (by simp) rfl _, rfl, rfl, by simp -implicitDefEqProofs (disch := (first | omega | (simp -implicitDefEqProofs only [szs, ne_eq] <;> omega) | fail)) only [go_sem, Nat.reduceAdd, Nat.reduceSub, Nat.reduceMul, Nat.reduceLT, Nat.reduceMod, Nat.reduceDiv, Nat.reduceEqDiff, Nat.reduceBEq, Nat.reduceLeDiff, ↓reduceIte, reduceCtorEq, Int.reduceAdd, Int.reduceSub, Int.reduceLT, Int.reduceLE, Int.reduceBEq, Int.reduceEq, Int.reduceToNat]; simp⟩, fun b hb => by rw [w_set_ne (by simp) (by omega), w_set_ne (by simp) (by omega), w_push_ne (by omega)]⟩
theorem eg_40 : Try.prog.eqGuardType Try.prog.depth 40 = false := by kernel_rfl
theorem cap_eq (c : Cp) : eqD Try.prog 10 40 (.agg [.int .i64 c.id, .int .i64 c.par, .int .i64 c.ac, .int .i64 c.mr, .int .i64 c.kd, .int .i64 c.ob, .int .i64 c.rt]) (.agg [.int .i64 c.id, .int .i64 c.par, .int .i64 c.ac, .int .i64 c.mr, .int .i64 c.kd, .int .i64 c.ob, .int .i64 c.rt]) = some true := by
  have e : ∀ a a' b b' c c' d d' e e' f f' g g' : Int, eqD Try.prog 10 40 (.agg [.int .i64 a, .int .i64 b, .int .i64 c, .int .i64 d, .int .i64 e, .int .i64 f, .int .i64 g]) (.agg [.int .i64 a', .int .i64 b', .int .i64 c', .int .i64 d', .int .i64 e', .int .i64 f', .int .i64 g']) = (match (a == a') with | true => (match (b == b') with | true => (match (c == c') with | true => (match (d == d') with | true => (match (e == e') with | true => (match (f == f') with | true => (match (g == g') with | true => some true | false => some false) | false => some false) | false => some false) | false => some false) | false => some false) | false => some false) | false => some false) := fun a a' b b' c c' d d' e e' f f' g g' => by kernel_rfl
  rw [e]
  simp
set_option maxHeartbeats 4000000 in
theorem goes_dem {h : Heap} {R W : Set'} {tb r n0 rd : Nat} {T : CS} (ht : CapAt h tb r T) (hr : RefC h n0 rd T) (w : WF T) (hR : ∀ b, R b) (a leave : Int) :
    SF ⟨Try.prog, true⟩ 29 [.ptr (some (tb, 0)), .ptr (some (rd, 0)), .int .i64 a, .int .i64 leave] h R W fun v h' => v = .bool true ∧ h.n ≤ h'.n ∧ ∀ b, b < h.n → h'.get b = h.get b := by
  have hlt := ht.lt
  have hlr := hr.lt
  have hwl := w.last
  have hwn := w.len
  have hal : (allL T.L a).length ≤ T.L.length := List.length_filter_le _ _
  refine SF.go hm Try.func29 ir29_eq ?_
  obtain ⟨h0, e0, n0', b1, b2, b3, k0⟩ : ∃ h0, ((h.push (.cells (Blk.of [V.int .i64 leave]) 3)).push (.cells (Blk.of [V.bool false]) 4)).push (.cells (Blk.of [V.slice none 0 0 true]) 27) = h0 ∧ h0.n = h.n + 3 ∧ h0.get h.n = some (.cells (Blk.of [V.int .i64 leave]) 3) ∧ h0.get (h.n + 1) = some (.cells (Blk.of [V.bool false]) 4) ∧ h0.get (h.n + 1 + 1) = some (.cells (Blk.of [V.slice none 0 0 true]) 27) ∧ ∀ b, b < h.n → h0.get b = h.get b :=
    ⟨_, rfl, by simp, by simp -implicitDefEqProofs (disch := (first | omega | (simp -implicitDefEqProofs only [szs, ne_eq] <;> omega) | fail)) only [go_sem, Nat.reduceAdd, Nat.reduceSub, Nat.reduceMul, Nat.reduceLT, Nat.reduceMod, Nat.reduceDiv, Nat.reduceEqDiff, Nat.reduceBEq, Nat.reduceLeDiff, ↓reduceIte, reduceCtorEq, Int.reduceAdd, Int.reduceSub, Int.reduceLT, Int.reduceLE, Int.reduceBEq, Int.reduceEq, Int.reduceToNat], by simp -implicitDefEqProofs (disch := (first | omega | (simp -implicitDefEqProofs only [szs, ne_eq] <;> omega) | fail)) only [go_sem, Nat.reduceAdd, Nat.reduceSub, Nat.reduceMul, Nat.reduceLT, Nat.reduceMod, Nat.reduceDiv, Nat.reduceEqDiff, Nat.reduceBEq, Nat.reduceLeDiff, ↓reduceIte, reduceCtorEq, Int.reduceAdd, Int.reduceSub, Int.reduceLT, Int.reduceLE, Int.reduceBEq, Int.reduceEq, Int.reduceToNat], by simp -implicitDefEqProofs (disch := (first | omega | (simp -implicitDefEqProofs only [szs, ne_eq] <;> omega) | fail)) only [go_sem, Nat.reduceAdd, Nat.reduceSub, Nat.reduceMul, Nat.reduceLT, Nat.reduceMod, Nat.reduceDiv, Nat.reduceEqDiff, Nat.reduceBEq, Nat.reduceLeDiff, ↓reduceIte, reduceCtorEq, Int.reduceAdd, Int.reduceSub, Int.reduceLT, Int.reduceLE, Int.reduceBEq, Int.reduceEq, Int.reduceToNat], fun b hb => by simp -implicitDefEqProofs (disch := (first | omega | (simp -implicitDefEqProofs only [szs, ne_eq] <;> omega) | fail)) only [go_sem, Nat.reduceAdd, Nat.reduceSub, Nat.reduceMul, Nat.reduceLT, Nat.reduceMod, Nat.reduceDiv, Nat.reduceEqDiff, Nat.reduceBEq, Nat.reduceLeDiff, ↓reduceIte, reduceCtorEq, Int.reduceAdd, Int.reduceSub, Int.reduceLT, Int.reduceLE, Int.reduceBEq, Int.reduceEq, Int.reduceToNat]⟩
  simp -implicitDefEqProofs (disch := (first | omega | (simp -implicitDefEqProofs only [szs, ne_eq] <;> omega) | fail)) only [go_sem, Nat.reduceAdd, Nat.reduceSub, Nat.reduceMul, Nat.reduceLT, Nat.reduceMod, Nat.reduceDiv, Nat.reduceEqDiff, Nat.reduceBEq, Nat.reduceLeDiff, ↓reduceIte, reduceCtorEq, Int.reduceAdd, Int.reduceSub, Int.reduceLT, Int.reduceLE, Int.reduceBEq, Int.reduceEq, Int.reduceToNat, ir29, e0]
  clear e0
  refine goes_l0 (H := h) (tb := tb) (x7 := h.n) (x8 := h.n + 1) (wb := h.n + 1 + 1) hr w (fun b => .inr (hR b)) (fun b hb => .inl hb) a (by omega) (by omega) k0 b3 ?_ (by simp -implicitDefEqProofs (disch := (first | omega | (simp -implicitDefEqProofs only [szs, ne_eq] <;> omega) | fail)) only [go_sem, Nat.reduceAdd, Nat.reduceSub, Nat.reduceMul, Nat.reduceLT, Nat.reduceMod, Nat.reduceDiv, Nat.reduceEqDiff, Nat.reduceBEq, Nat.reduceLeDiff, ↓reduceIte, reduceCtorEq, Int.reduceAdd, Int.reduceSub, Int.reduceLT, Int.reduceLE, Int.reduceBEq, Int.reduceEq, Int.reduceToNat]) (by simp -implicitDefEqProofs (disch := (first | omega | (simp -implicitDefEqProofs only [szs, ne_eq] <;> omega) | fail)) only [go_sem, Nat.reduceAdd, Nat.reduceSub, Nat.reduceMul, Nat.reduceLT, Nat.reduceMod, Nat.reduceDiv, Nat.reduceEqDiff, Nat.reduceBEq, Nat.reduceLeDiff, ↓reduceIte, reduceCtorEq, Int.reduceAdd, Int.reduceSub, Int.reduceLT, Int.reduceLE, Int.reduceBEq, Int.reduceEq, Int.reduceToNat]) (by simp -implicitDefEqProofs (disch := (first | omega | (simp -implicitDefEqProofs only [szs, ne_eq] <;> omega) | fail)) only [go_sem, Nat.reduceAdd, Nat.reduceSub, Nat.reduceMul, Nat.reduceLT, Nat.reduceMod, Nat.reduceDiv, Nat.reduceEqDiff, Nat.reduceBEq, Nat.reduceLeDiff, ↓reduceIte, reduceCtorEq, Int.reduceAdd, Int.reduceSub, Int.reduceLT, Int.reduceLE, Int.reduceBEq, Int.reduceEq, Int.reduceToNat]) (by simp -implicitDefEqProofs (disch := (first | omega | (simp -implicitDefEqProofs only [szs, ne_eq] <;> omega) | fail)) only [go_sem, Nat.reduceAdd, Nat.reduceSub, Nat.reduceMul, Nat.reduceLT, Nat.reduceMod, Nat.reduceDiv, Nat.reduceEqDiff, Nat.reduceBEq, Nat.reduceLeDiff, ↓reduceIte, reduceCtorEq, Int.reduceAdd, Int.reduceSub, Int.reduceLT, Int.reduceLE, Int.reduceBEq, Int.reduceEq, Int.reduceToNat]) (by simp -implicitDefEqProofs (disch := (first | omega | (simp -implicitDefEqProofs only [szs, ne_eq] <;> omega) | fail)) only [go_sem, Nat.reduceAdd, Nat.reduceSub, Nat.reduceMul, Nat.reduceLT, Nat.reduceMod, Nat.reduceDiv, Nat.reduceEqDiff, Nat.reduceBEq, Nat.reduceLeDiff, ↓reduceIte, reduceCtorEq, Int.reduceAdd, Int.reduceSub, Int.reduceLT, Int.reduceLE, Int.reduceBEq, Int.reduceEq, Int.reduceToNat]) (by simp -implicitDefEqProofs (disch := (first | omega | (simp -implicitDefEqProofs only [szs, ne_eq] <;> omega) | fail)) only [go_sem, Nat.reduceAdd, Nat.reduceSub, Nat.reduceMul, Nat.reduceLT, Nat.reduceMod, Nat.reduceDiv, Nat.reduceEqDiff, Nat.reduceBEq, Nat.reduceLeDiff, ↓reduceIte, reduceCtorEq, Int.reduceAdd, Int.reduceSub, Int.reduceLT, Int.reduceLE, Int.reduceBEq, Int.reduceEq, Int.reduceToNat]) (by simp -implicitDefEqProofs (disch := (first | omega | (simp -implicitDefEqProofs only [szs, ne_eq] <;> omega) | fail)) only [go_sem, Nat.reduceAdd, Nat.reduceSub, Nat.reduceMul, Nat.reduceLT, Nat.reduceMod, Nat.reduceDiv, Nat.reduceEqDiff, Nat.reduceBEq, Nat.reduceLeDiff, ↓reduceIte, reduceCtorEq, Int.reduceAdd, Int.reduceSub, Int.reduceLT, Int.reduceLE, Int.reduceBEq, Int.reduceEq, Int.reduceToNat])
  intro tr g0 cw lw gn hgo0 w1 w2 w3 ho t0 t1 t2 t7 t8 t9
  have hold0 : ∀ b, b < h.n → g0.get b = h.get b := fun b hb => by rw [hgo0 b (by omega) (by omega), k0 b hb]
  simp -implicitDefEqProofs (disch := (first | omega | (simp -implicitDefEqProofs only [szs, ne_eq] <;> omega) | fail)) only [go_sem, Nat.reduceAdd, Nat.reduceSub, Nat.reduceMul, Nat.reduceLT, Nat.reduceMod, Nat.reduceDiv, Nat.reduceEqDiff, Nat.reduceBEq, Nat.reduceLeDiff, ↓reduceIte, reduceCtorEq, Int.reduceAdd, Int.reduceSub, Int.reduceLT, Int.reduceLE, Int.reduceBEq, Int.reduceEq, Int.reduceToNat, t0, t1, t2, t7, t8, t9]
  refine GCall.of (all_ok (ht.old hold0) w (fun b _ => .inr (hR b)) a).any ?_
  rintro v ga ⟨rfl, na, ⟨ca, lv, a1, a2, a3, a4⟩, ka⟩
  obtain ⟨g4, e4, n4, b6, k4⟩ : ∃ g4, (ga.push (.cells (Blk.of [V.int .i64 0]) 3)).set ga.n (.cells ((Blk.of [V.int .i64 0]).set 0 (.int .i64 0)) 3) = g4 ∧ g4.n = ga.n + 1 ∧ g4.get ga.n = some (.cells ((Blk.of [V.int .i64 0]).set 0 (.int .i64 0)) 3) ∧ ∀ b, b < ga.n → g4.get b = ga.get b := ⟨_, rfl, by simp, w_set_eq (by simp) rfl _, fun b hb => by rw [w_set_ne (by simp) (by omega), w_push_ne (by omega)]⟩
  simp -implicitDefEqProofs (disch := (first | omega | (simp -implicitDefEqProofs only [szs, ne_eq] <;> omega) | fail)) only [go_sem, Nat.reduceAdd, Nat.reduceSub, Nat.reduceMul, Nat.reduceLT, Nat.reduceMod, Nat.reduceDiv, Nat.reduceEqDiff, Nat.reduceBEq, Nat.reduceLeDiff, ↓reduceIte, reduceCtorEq, Int.reduceAdd, Int.reduceSub, Int.reduceLT, Int.reduceLE, Int.reduceBEq, Int.reduceEq, Int.reduceToNat, t0, t1, t2, t7, t8, t9, e4]
  have p1 := (ka h.n (by omega)).trans ((hgo0 h.n (by omega) (by omega)).trans b1)
  have p2 := (ka (h.n + 1) (by omega)).trans ((hgo0 (h.n + 1) (by omega) (by omega)).trans b2)
  have p3 := (ka (h.n + 1 + 1) (by omega)).trans w1
  have hoA := ho.old ka
  have hold : ∀ b, b < h.n → ga.get b = h.get b := fun b hb => by rw [ka b (by omega)]; exact hold0 b hb
  refine ⟨.inl (by omega), ?_⟩
  refine GLoop.inv hm (fun k f g => (f.mks.Nodup ∧ ∀ m ∈ f.mks, ga.n ≤ m ∧ g.get m = some (.deferred true)) ∧ f.tm.n = 94 ∧ f.tm.get 7 = some (.ptr (some (h.n, 0))) ∧ f.tm.get 8 = some (.ptr (some (h.n + 1, 0))) ∧ f.tm.get 9 = some (.ptr (some (h.n + 1 + 1, 0))) ∧ f.tm.get 11 = some (.func 40 [] [.ptr (some (g0.n, 0))]) ∧ ga.n ≤ g.n ∧ (∀ b, b < ga.n → g.get b = ga.get b) ∧
    ∃ (u bt : Nat) (ct : Blk), u + k = 2 ∧ f.tm.get 12 = some (.ptr (some (bt, 0))) ∧ ga.n ≤ bt ∧ g.get bt = some (.cells ct 3) ∧ ct.size = 1 ∧ ct.ro = false ∧ ct.get 0 = .int .i64 u) 2 ?_ ?_
  · exact ⟨⟨List.nodup_nil, fun m hm => by cases hm⟩, rfl, by simp -implicitDefEqProofs (disch := (first | omega | (simp -implicitDefEqProofs only [szs, ne_eq] <;> omega) | fail)) only [go_sem, Nat.reduceAdd, Nat.reduceSub, Nat.reduceMul, Nat.reduceLT, Nat.reduceMod, Nat.reduceDiv, Nat.reduceEqDiff, Nat.reduceBEq, Nat.reduceLeDiff, ↓reduceIte, reduceCtorEq, Int.reduceAdd, Int.reduceSub, Int.reduceLT, Int.reduceLE, Int.reduceBEq, Int.reduceEq, Int.reduceToNat, t7], by simp -implicitDefEqProofs (disch := (first | omega | (simp -implicitDefEqProofs only [szs, ne_eq] <;> omega) | fail)) only [go_sem, Nat.reduceAdd, Nat.reduceSub, Nat.reduceMul, Nat.reduceLT, Nat.reduceMod, Nat.reduceDiv, Nat.reduceEqDiff, Nat.reduceBEq, Nat.reduceLeDiff, ↓reduceIte, reduceCtorEq, Int.reduceAdd, Int.reduceSub, Int.reduceLT, Int.reduceLE, Int.reduceBEq, Int.reduceEq, Int.reduceToNat, t8], by simp -implicitDefEqProofs (disch := (first | omega | (simp -implicitDefEqProofs only [szs, ne_eq] <;> omega) | fail)) only [go_sem, Nat.reduceAdd, Nat.reduceSub, Nat.reduceMul, Nat.reduceLT, Nat.reduceMod, Nat.reduceDiv, Nat.reduceEqDiff, Nat.reduceBEq, Nat.reduceLeDiff, ↓reduceIte, reduceCtorEq, Int.reduceAdd, Int.reduceSub, Int.reduceLT, Int.reduceLE, Int.reduceBEq, Int.reduceEq, Int.reduceToNat, t9], by simp -implicitDefEqProofs (disch := (first | omega | (simp -implicitDefEqProofs only [szs, ne_eq] <;> omega) | fail)) only [go_sem, Nat.reduceAdd, Nat.reduceSub, Nat.reduceMul, Nat.reduceLT, Nat.reduceMod, Nat.reduceDiv, Nat.reduceEqDiff, Nat.reduceBEq, Nat.reduceLeDiff, ↓reduceIte, reduceCtorEq, Int.reduceAdd, Int.reduceSub, Int.reduceLT, Int.reduceLE, Int.reduceBEq, Int.reduceEq, Int.reduceToNat], by omega, k4, 0, ga.n, _, by omega, by simp -implicitDefEqProofs (disch := (first | omega | (simp -implicitDefEqProofs only [szs, ne_eq] <;> omega) | fail)) only [go_sem, Nat.reduceAdd, Nat.reduceSub, Nat.reduceMul, Nat.reduceLT, Nat.reduceMod, Nat.reduceDiv, Nat.reduceEqDiff, Nat.reduceBEq, Nat.reduceLeDiff, ↓reduceIte, reduceCtorEq, Int.reduceAdd, Int.reduceSub, Int.reduceLT, Int.reduceLE, Int.reduceBEq, Int.reduceEq, Int.reduceToNat], Nat.le_refl _, b6, rfl, rfl, rfl⟩
  clear t0 t1 t2 t7 t8 t9
  clear tr
  rintro k ⟨⟨n', tr⟩, mks⟩ g ⟨⟨hmn, hmm⟩, hn', t7, t8, t9, t11, hgn, hgo, u, bt, ct, huk, t12, hbt1, hbt2, hbt3, hbt4, hbt5⟩
  simp only [Tm.get_mk] at hmn hmm hn' t7 t8 t9 t11 t12
  subst hn'
  have hllen := ho.lr.lenV Try.underlying27
  by_cases hu : u < 2
  · obtain ⟨gA, eA, nA, bA, kA⟩ : ∃ gA, (g.push (O.cells (Blk.of [V.int IntKind.i64 0]) 3)).set g.n (O.cells ((Blk.of [V.int IntKind.i64 0]).set 0 (V.int IntKind.i64 0)) 3) = gA ∧ gA.n = g.n + 1 ∧ gA.get g.n = some (O.cells ((Blk.of [V.int IntKind.i64 0]).set 0 (V.int IntKind.i64 0)) 3) ∧ ∀ b, b < g.n → gA.get b = g.get b := ⟨_, rfl, by simp, w_set_eq (by simp) rfl _, fun b hb => by rw [w_set_ne (by simp) (by omega), w_push_ne (by omega)]⟩
    have hRt := hR bt
    have hu2 : (u : Int) < 2 := by omega
    simp -implicitDefEqProofs (disch := (first | omega | (simp -implicitDefEqProofs only [szs, ne_eq] <;> omega) | fail)) only [go_sem, Nat.reduceAdd, Nat.reduceSub, Nat.reduceMul, Nat.reduceLT, Nat.reduceMod, Nat.reduceDiv, Nat.reduceEqDiff, Nat.reduceBEq, Nat.reduceLeDiff, ↓reduceIte, reduceCtorEq, Int.reduceAdd, Int.reduceSub, Int.reduceLT, Int.reduceLE, Int.reduceBEq, Int.reduceEq, Int.reduceToNat, ir29_l1, t7, t8, t9, t11, t12, hbt2, hbt3, hbt5, hRt, hu2, eA]
    refine ⟨.inl (by omega), ?_⟩
    have hgA : ∀ b, b < ga.n → gA.get b = ga.get b := fun b hb => by rw [kA b (by omega)]; exact hgo b hb
    have hml : ∀ m ∈ mks, m < g.n := fun m hm => Heap.lt_of_get (hmm m hm).2
    refine range40 (P := 58) (X := 14) (cb := ir29_b0) (S := fun b => h.n ≤ b ∧ b < ga.n) (L := allL T.L a) (lv := lv) (b1 := g0.n) (fun b => b = g.n)
      (fun p g' => gA.n ≤ g'.n ∧ (∀ b, b < g.n → g'.get b = g.get b) ∧ (∃ c, g'.get g.n = some (.cells c 3) ∧ c.size = 1 ∧ c.ro = false ∧ c.get 0 = .int .i64 (p : Nat)) ∧ (u = 0 → ¬ (1 ≤ leave ∧ leave ≤ p)))
      (fun e g' => e = .exit 4 ∧ gA.n ≤ g'.n ∧ (∀ b, b < g.n → g'.get b = g.get b) ∧ (∃ c, g'.get g.n = some (.cells c 3) ∧ c.size = 1 ∧ c.ro = false ∧ c.get 0 = .int .i64 leave) ∧ u = 0)
      (by simp -implicitDefEqProofs (disch := (first | omega | (simp -implicitDefEqProofs only [szs, ne_eq] <;> omega) | fail)) only [go_sem, Nat.reduceAdd, Nat.reduceSub, Nat.reduceMul, Nat.reduceLT, Nat.reduceMod, Nat.reduceDiv, Nat.reduceEqDiff, Nat.reduceBEq, Nat.reduceLeDiff, ↓reduceIte, reduceCtorEq, Int.reduceAdd, Int.reduceSub, Int.reduceLT, Int.reduceLE, Int.reduceBEq, Int.reduceEq, Int.reduceToNat, t11]) ⟨ca, by rw [hgA _ (by omega)]; exact a1, a2, a3⟩ (LRs.old (LRs.mono a4 (fun b hb h => ⟨by omega, hb⟩)) hgA) (fun b h => by have := h.2; omega) (by omega) (fun b hb => .inr (hR b)) (fun b hb => by rcases hb with hb | rfl <;> exact .inl (by omega)) ⟨Nat.le_refl _, kA, ⟨_, bA, rfl, rfl, rfl⟩, fun _ h => by omega⟩
      (fun p g' g'' ⟨i1, i2, ⟨c, i3, i5⟩, i4⟩ j1 j2 => ⟨by omega, fun b hb => by rw [j2 b (by omega) (by omega) (by omega)]; exact i2 b hb, ⟨c, by rw [j2 _ (by omega) (by omega) (by omega)]; exact i3, i5⟩, i4⟩)
      (fun e g' g'' ⟨i1, i2, i3, ⟨c, i4, i5⟩, i6⟩ j1 j2 => ⟨i1, by omega, fun b hb => by rw [j2 b (by omega) (by omega) (by omega)]; exact i3 b hb, ⟨c, by rw [j2 _ (by omega) (by omega) (by omega)]; exact i4, i5⟩, i6⟩)
      (fun p g' ⟨i1, i2, _, _⟩ => ⟨by omega, fun b hb => by rw [i2 b (by omega), kA b (by omega)]⟩)
      ir29_a0_eq ir29_b0_eq (by simp) (by show 58 < 94; omega) (by show 14 < 94; omega) ?_ ?_ ?_
    · rintro R' W' Q1 p cp g2 sb x rr r1 r2 hcp ⟨i1, i2, ⟨cn, v1, v2, v3, v4⟩, i4⟩ ng2 hx hdm hdl s0 s1 s2 q0 q1 q2 q3 q4 q5 q6 hnorm hex
      have hR' : ∀ b, R' b := fun b => rr b (.inr (hR b))
      have hpl := (List.getElem?_eq_some_iff.1 hcp).1
      have h2a : ∀ b, b < ga.n → g2.get b = ga.get b := fun b hb => by rw [i2 b (by omega)]; exact hgo b hb
      have z1 := (h2a h.n (by omega)).trans p1
      have zw := (h2a (h.n + 1 + 1) (by omega)).trans p3
      have zt := (i2 bt (Heap.lt_of_get hbt2)).trans hbt2
      obtain ⟨bl, xl, capl, exl, cl, cel, rfl, hbl0, hbl, hls, y0, y1, y2, y3, y4, y5, y6⟩ := CapsV.get hoA.lr hcp
      have hbl' := (h2a bl (Heap.lt_of_get hbl)).trans hbl
      have q0' : (0 : Int) ≤ (p : Int) := by omega
      have q1' : (p : Int) < ((allL T.L a).length : Nat) := by omega
      have q1n : ((p : Int) ≥ ((allL T.L a).length : Nat)) = False := by simp; omega
      have rx := hR' x
      have rn := hR' g.n
      have rw' := hR' (h.n + 1 + 1)
      have rl := hR' bl
      have r1' := hR' h.n
      have rt' := hR' bt
      have wn := r2 g.n rfl
      have heq := cap_eq cp
      have hln := Heap.lt_of_get v1
      have hnb : bt ≠ g.n := by have := Heap.lt_of_get hbt2; omega
      have hu01 : u = 0 ∨ u = 1 := by omega
      have hKeep : ∀ x : O, ∀ b, b < g.n → (g2.set g.n x).get b = g.get b := fun x b hb => by rw [w_set_ne hln (by omega)]; exact i2 b hb
      have hOth : ∀ x : O, ∀ b, b ≠ g.n → (g2.set g.n x).get b = g2.get b := fun x b hb => by rw [w_set_ne hln hb]
      rcases hu01 with rfl | rfl
      · by_cases hle : (p : Int) + 1 = leave
        · have hb : ((p : Int) + 1 == leave) = true := by simp [hle]
          simp -implicitDefEqProofs (disch := (first | omega | (simp -implicitDefEqProofs only [szs, ne_eq] <;> omega) | fail)) only [go_sem, Nat.reduceAdd, Nat.reduceSub, Nat.reduceMul, Nat.reduceLT, Nat.reduceMod, Nat.reduceDiv, Nat.reduceEqDiff, Nat.reduceBEq, Nat.reduceLeDiff, ↓reduceIte, reduceCtorEq, Int.reduceAdd, Int.reduceSub, Int.reduceLT, Int.reduceLE, Int.reduceBEq, Int.reduceEq, Int.reduceToNat, ir29_b0, t7, t8, t9, t11, t12, v1, v2, v3, v4, s0, s1, q0, q1, q2, q3, q4, q5, q6, w2, w3, zw, hbl', hls, y0, y1, y2, y3, y4, y5, y6, ↓hllen, ↓eg_40, heq, rx, rn, rw', rl, r1', rt', wn, z1, zt, hbt3, hbt5, hb, undefV, q0', q1']
          exact hex (.exit 4) _ _ (by simp) (by rw [Heap.n_set]; omega) (hOth _ _ (by omega)) (hOth _ _ (by omega)) ⟨rfl, by rw [Heap.n_set]; omega, hKeep _, ⟨_, w_set_eq hln rfl _, by rw [Blk.size_set]; exact v2, by rw [Blk.ro_set]; exact v3, by rw [w_bset_eq rfl, hle]⟩, rfl⟩
        · have hb : ((p : Int) + 1 == leave) = false := by simpa using hle
          simp -implicitDefEqProofs (disch := (first | omega | (simp -implicitDefEqProofs only [szs, ne_eq] <;> omega) | fail)) only [go_sem, Nat.reduceAdd, Nat.reduceSub, Nat.reduceMul, Nat.reduceLT, Nat.reduceMod, Nat.reduceDiv, Nat.reduceEqDiff, Nat.reduceBEq, Nat.reduceLeDiff, ↓reduceIte, reduceCtorEq, Int.reduceAdd, Int.reduceSub, Int.reduceLT, Int.reduceLE, Int.reduceBEq, Int.reduceEq, Int.reduceToNat, ir29_b0, t7, t8, t9, t11, t12, v1, v2, v3, v4, s0, s1, q0, q1, q2, q3, q4, q5, q6, w2, w3, zw, hbl', hls, y0, y1, y2, y3, y4, y5, y6, ↓hllen, ↓eg_40, heq, rx, rn, rw', rl, r1', rt', wn, z1, zt, hbt3, hbt5, hb, undefV, q0', q1']
          exact hnorm _ _ (by rw [Heap.n_set]; omega) (hOth _ _ (by omega)) (hOth _ _ (by omega)) ⟨by rw [Heap.n_set]; omega, hKeep _, ⟨_, w_set_eq hln rfl _, by rw [Blk.size_set]; exact v2, by rw [Blk.ro_set]; exact v3, by rw [w_bset_eq rfl]; simp⟩, fun h0 h1 => i4 h0 (by omega)⟩
      · simp -implicitDefEqProofs (disch := (first | omega | (simp -implicitDefEqProofs only [szs, ne_eq] <;> omega) | fail)) only [go_sem, Nat.reduceAdd, Nat.reduceSub, Nat.reduceMul, Nat.reduceLT, Nat.reduceMod, Nat.reduceDiv, Nat.reduceEqDiff, Nat.reduceBEq, Nat.reduceLeDiff, ↓reduceIte, reduceCtorEq, Int.reduceAdd, Int.reduceSub, Int.reduceLT, Int.reduceLE, Int.reduceBEq, Int.reduceEq, Int.reduceToNat, ir29_b0, t7, t8, t9, t11, t12, v1, v2, v3, v4, s0, s1, q0, q1, q2, q3, q4, q5, q6, w2, w3, zw, hbl', hls, y0, y1, y2, y3, y4, y5, y6, ↓hllen, ↓eg_40, heq, rx, rn, rw', rl, r1', rt', wn, z1, zt, hbt3, hbt5, undefV, q0', q1']
        exact hnorm _ _ (by rw [Heap.n_set]; omega) (hOth _ _ (by omega)) (hOth _ _ (by omega)) ⟨by rw [Heap.n_set]; omega, hKeep _, ⟨_, w_set_eq hln rfl _, by rw [Blk.size_set]; exact v2, by rw [Blk.ro_set]; exact v3, by rw [w_bset_eq rfl]; simp⟩, fun h0 => by cases h0⟩
    · rintro gC ⟨i1, i2, ⟨cn, v1, v2, v3, v4⟩, i4⟩ hn hd
      have h2a : ∀ b, b < ga.n → gC.get b = ga.get b := fun b hb => by rw [i2 b (by omega)]; exact hgo b hb
      have zw := (h2a (h.n + 1 + 1) (by omega)).trans p3
      have zt := (i2 bt (Heap.lt_of_get hbt2)).trans hbt2
      have hu01 : u = 0 ∨ u = 1 := by omega
      obtain ⟨gN, eN, nN, ⟨cN, bN, bN1, bN2, bN3⟩, kN⟩ := turn_heap gC u
      have fin2 : ((gA.n :: mks).Nodup ∧ ∀ m, m ∈ gA.n :: mks → ga.n ≤ m ∧ gN.get m = some (O.deferred true)) := ⟨List.nodup_cons.2 ⟨fun hm => by have := hml _ hm; omega, hmn⟩, fun m hm => by
        rcases List.mem_cons.1 hm with rfl | hm
        · exact ⟨by omega, by rw [kN _ (by omega)]; exact hd⟩
        · have := hml m hm
          exact ⟨(hmm m hm).1, by rw [kN m (by omega), i2 m (by omega)]; exact (hmm m hm).2⟩⟩
      have fin3 : ∀ b, b < ga.n → gN.get b = ga.get b := fun b hb => by rw [kN b (by omega)]; exact h2a b hb
      rcases hu01 with rfl | rfl
      · simp -implicitDefEqProofs (disch := (first | omega | (simp -implicitDefEqProofs only [szs, ne_eq] <;> omega) | fail)) only [go_sem, Nat.reduceAdd, Nat.reduceSub, Nat.reduceMul, Nat.reduceLT, Nat.reduceMod, Nat.reduceDiv, Nat.reduceEqDiff, Nat.reduceBEq, Nat.reduceLeDiff, ↓reduceIte, reduceCtorEq, Int.reduceAdd, Int.reduceSub, Int.reduceLT, Int.reduceLE, Int.reduceBEq, Int.reduceEq, Int.reduceToNat, t7, t8, t9, t11, t12, v1, v2, v4, zw, w2, w3, ↓hllen, zt, hbt3, hbt5, undefV, hd, eN]
        repeat (refine ⟨Or.inl (by omega), ?_⟩)
        exact ⟨k - 1, by omega, fin2, by omega, fin3, 1, gC.n, cN, by omega, rfl, by omega, bN, bN1, bN2, bN3⟩
      · simp -implicitDefEqProofs (disch := (first | omega | (simp -implicitDefEqProofs only [szs, ne_eq] <;> omega) | fail)) only [go_sem, Nat.reduceAdd, Nat.reduceSub, Nat.reduceMul, Nat.reduceLT, Nat.reduceMod, Nat.reduceDiv, Nat.reduceEqDiff, Nat.reduceBEq, Nat.reduceLeDiff, ↓reduceIte, reduceCtorEq, Int.reduceAdd, Int.reduceSub, Int.reduceLT, Int.reduceLE, Int.reduceBEq, Int.reduceEq, Int.reduceToNat, t7, t8, t9, t11, t12, v1, v2, v4, zw, w2, w3, ↓hllen, zt, hbt3, hbt5, undefV, hd, eN]
        repeat (refine ⟨Or.inl (by omega), ?_⟩)
        exact ⟨k - 1, by omega, fin2, by omega, fin3, 2, gC.n, cN, by omega, rfl, by omega, bN, bN1, bN2, bN3⟩
    · rintro e gC ⟨rfl, i2, i3, ⟨cn, v1, v2, v3, v4⟩, rfl⟩ _ hn hd
      have h2a : ∀ b, b < ga.n → gC.get b = ga.get b := fun b hb => by rw [i3 b (by omega)]; exact hgo b hb
      have zw := (h2a (h.n + 1 + 1) (by omega)).trans p3
      have z1 := (h2a h.n (by omega)).trans p1
      have zt := (i3 bt (Heap.lt_of_get hbt2)).trans hbt2
      obtain ⟨gN, eN, nN, ⟨cN, bN, bN1, bN2, bN3⟩, kN⟩ := turn_heap gC 0
      have fin2 : ((gA.n :: mks).Nodup ∧ ∀ m, m ∈ gA.n :: mks → ga.n ≤ m ∧ gN.get m = some (O.deferred true)) := ⟨List.nodup_cons.2 ⟨fun hm => by have := hml _ hm; omega, hmn⟩, fun m hm => by
        rcases List.mem_cons.1 hm with rfl | hm
        · exact ⟨by omega, by rw [kN _ (by omega)]; exact hd⟩
        · have := hml m hm
          exact ⟨(hmm m hm).1, by rw [kN m (by omega), i3 m (by omega)]; exact (hmm m hm).2⟩⟩
      have fin3 : ∀ b, b < ga.n → gN.get b = ga.get b := fun b hb => by rw [kN b (by omega)]; exact h2a b hb
      by_cases hll : leave = ((allL T.L a).length : Nat)
      · have hb : (leave == (((allL T.L a).length : Nat) : Int)) = true := by simp [hll]
        simp -implicitDefEqProofs (disch := (first | omega | (simp -implicitDefEqProofs only [szs, ne_eq] <;> omega) | fail)) only [go_sem, Nat.reduceAdd, Nat.reduceSub, Nat.reduceMul, Nat.reduceLT, Nat.reduceMod, Nat.reduceDiv, Nat.reduceEqDiff, Nat.reduceBEq, Nat.reduceLeDiff, ↓reduceIte, reduceCtorEq, Int.reduceAdd, Int.reduceSub, Int.reduceLT, Int.reduceLE, Int.reduceBEq, Int.reduceEq, Int.reduceToNat, t7, t8, t9, t11, t12, v1, v2, v4, zw, w2, w3, ↓hllen, zt, hbt3, hbt5, undefV, hd, eN, hb, z1]
        repeat (refine ⟨Or.inl (by omega), ?_⟩)
        exact ⟨k - 1, by omega, fin2, by omega, fin3, 1, gC.n, cN, by omega, rfl, by omega, bN, bN1, bN2, bN3⟩
      · have hb : (leave == (((allL T.L a).length : Nat) : Int)) = false := by simpa using hll
        simp -implicitDefEqProofs (disch := (first | omega | (simp -implicitDefEqProofs only [szs, ne_eq] <;> omega) | fail)) only [go_sem, Nat.reduceAdd, Nat.reduceSub, Nat.reduceMul, Nat.reduceLT, Nat.reduceMod, Nat.reduceDiv, Nat.reduceEqDiff, Nat.reduceBEq, Nat.reduceLeDiff, ↓reduceIte, reduceCtorEq, Int.reduceAdd, Int.reduceSub, Int.reduceLT, Int.reduceLE, Int.reduceBEq, Int.reduceEq, Int.reduceToNat, t7, t8, t9, t11, t12, v1, v2, v4, zw, w2, w3, ↓hllen, zt, hbt3, hbt5, undefV, hd, eN, hb, z1]
        repeat (refine ⟨Or.inl (by omega), ?_⟩)
        exact ⟨k - 1, by omega, fin2, by omega, fin3, 1, gC.n, cN, by omega, rfl, by omega, bN, bN1, bN2, bN3⟩
  · obtain rfl : u = 2 := by omega
    have p2' := (hgo (h.n + 1) (by omega)).trans p2
    have hlp := Heap.lt_of_get p2'
    simp -implicitDefEqProofs (disch := (first | omega | (simp -implicitDefEqProofs only [szs, ne_eq] <;> omega) | fail)) only [go_sem, Nat.reduceAdd, Nat.reduceSub, Nat.reduceMul, Nat.reduceLT, Nat.reduceMod, Nat.reduceDiv, Nat.reduceEqDiff, Nat.reduceBEq, Nat.reduceLeDiff, ↓reduceIte, reduceCtorEq, Int.reduceAdd, Int.reduceSub, Int.reduceLT, Int.reduceLE, Int.reduceBEq, Int.reduceEq, Int.reduceToNat, ir29_l1, t8, t12, hbt2, hbt3, hbt5, p2']
    refine ⟨.inl (by omega), fin_all hmn (fun m hm => ⟨by rw [w_set_ne hlp (by have := (hmm m hm).1; omega)]; exact (hmm m hm).2, .inl (by have := (hmm m hm).1; omega)⟩) fun h' en ek => ?_⟩
    have p5 : h'.get (h.n + 1) = _ := (ek (h.n + 1) (fun hm => by have := (hmm _ hm).1; omega)).trans (w_set_eq hlp rfl _)
    rw [fin_ret]
    simp -implicitDefEqProofs (disch := (first | omega | (simp -implicitDefEqProofs only [szs, ne_eq] <;> omega) | fail)) only [go_sem, Nat.reduceAdd, Nat.reduceSub, Nat.reduceMul, Nat.reduceLT, Nat.reduceMod, Nat.reduceDiv, Nat.reduceEqDiff, Nat.reduceBEq, Nat.reduceLeDiff, ↓reduceIte, reduceCtorEq, Int.reduceAdd, Int.reduceSub, Int.reduceLT, Int.reduceLE, Int.reduceBEq, Int.reduceEq, Int.reduceToNat, t8, p5]
    rw [Heap.n_set] at en
    refine ⟨by omega, fun b hb => ?_⟩
    rw [ek b (fun hm => by have := (hmm _ hm).1; omega), w_set_ne hlp (by omega), hgo b (by omega)]
    exact hold b hb
end Go.Proofs.Ytehgjkopobkbmaa
