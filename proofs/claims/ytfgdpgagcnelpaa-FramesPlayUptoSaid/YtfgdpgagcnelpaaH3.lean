/- The pool: Grant. -/
import Derived.Test.YtfgdpgagcnelpaaH2
set_option linter.unusedVariables false
set_option linter.unusedSimpArgs false
set_option linter.unusedSimpArgs false
set_option maxRecDepth 100000
set_option linter.unusedVariables false
set_option linter.unusedSimpArgs false
namespace Go.Proofs.Ytfgdpgagcnelpaa
open Go Go.Vm

/-- A frame's cells, fresh. -/
noncomputable def gl (a : Int) : List V := (zc_67.set 0 (.int .i64 a)).set 1 (.int .i64 1)
theorem gl_len (a : Int) : (gl a).length = 258 := by simp only [gl, List.length_set]; exact zcl_67
theorem gl_0 (a : Int) : (gl a).getD 0 undefV = .int .i64 a := by
  have := zcl_67
  simp [gl, List.getD, this]
theorem gl_1 (a : Int) : (gl a).getD 1 undefV = .int .i64 1 := by
  have := zcl_67
  simp [gl, List.getD, this]
theorem gl_b (a : Int) {j : Nat} (hj : j < 256) : (gl a).getD (2 + j) undefV = .int .u8 0 := by
  have := zc67_b hj
  rw [show ze_67 = zc_67 from rfl] at this
  rw [← this]
  simp only [gl, List.getD_eq_getElem?_getD]
  rw [List.getElem?_set_ne (by omega), List.getElem?_set_ne (by omega)]
theorem gl_one (a : Int) : allOne (gl a) = true := by kernel_rfl
theorem gl_fold (a : Int) : (zc_67.set 0 (.int .i64 a)).set 1 (.int .i64 1) = gl a := rfl
theorem PoolAt.grant1 {h : Heap} {bp : Nat} {L : PL} {S : PS} (hp : PoolAt h bp L S) {d u : Blk} (hd : h.get L.fb = some (.cells d 67)) (hu : h.get L.ub = some (.cells u 3)) {i a : Nat} (hi : i < S.n) (ha : a < S.na) {x y : Int} (hx : x = a) (hy : y = S.us a + 1) :
    PoolAt ((h.set L.fb (.cells (d.putA (i * 258) (gl x)) 67)).set L.ub (.cells (u.set a (.int .i64 y)) 3)) bp L (S.grant i a) := by
  subst hx hy
  obtain ⟨c, h1, ic⟩ := hp.p
  obtain ⟨d', h2, id⟩ := hp.f
  obtain ⟨q, h3, iq⟩ := hp.q
  obtain ⟨u', h4, iu⟩ := hp.u
  rw [h2] at hd; cases hd
  rw [h4] at hu; cases hu
  have e1 : bp ≠ L.fb := fun e => by rw [e, h2] at h1; cases h1
  have e2 : L.qb ≠ L.fb := fun e => by rw [e, h2] at h3; cases h3
  have e3 : L.ub ≠ L.fb := fun e => by rw [e, h2] at h4; cases h4
  have e4 : bp ≠ L.ub := fun e => by rw [e, h4] at h1; cases h1
  have e5 : L.qb ≠ L.ub := hp.ne
  have hm : (h.set L.fb (.cells (d.putA (i * 258) (gl a)) 67)).get L.ub = some (.cells u 3) := by rw [Heap.set_at h2, if_neg e3]; exact h4
  have gp : ∀ j, j < d.size → (d.putA (i * 258) (gl a)).get j = if i * 258 ≤ j ∧ j < i * 258 + 258 then (gl a).getD (j - i * 258) undefV else d.get j := fun j hj => by
    rw [Blk.get_putA _ _ _ _ hj, gl_len]
  have hsz := id.size
  have lt : ∀ j k, j < S.n → k < 258 → j * 258 + k < d.size := fun j k hj hk => by rw [hsz]; omega
  refine ⟨hp.pos, ⟨c, ?_, ⟨ic.size, ic.c0, ic.c1, ic.c2⟩⟩, ⟨d.putA (i * 258) (gl a), ?_, ⟨by rw [Blk.size_putA]; exact id.size, by rw [Blk.ro_putA]; exact id.ro, fun j hj => ?_, fun j hj => ?_, fun j k hj hk => ?_⟩⟩, ⟨q, ?_, ⟨iq.size, iq.ro, iq.get⟩⟩, ⟨u.set a (.int .i64 (S.us a + 1)), ?_, ⟨by rw [Blk.size_set]; exact iu.size, by rw [Blk.ro_set]; exact iu.ro, fun j hj => ?_⟩⟩, hp.ne, hp.lo⟩
  · rw [Heap.set_at hm, if_neg e4, Heap.set_at h2, if_neg e1]; exact h1
  · rw [Heap.set_at hm, if_neg (Ne.symm e3), Heap.set_at h2, if_pos rfl]
  · rw [gp _ (show j * 258 < d.size from lt j 0 hj (by omega))]
    by_cases e : j = i
    · subst e
      rw [if_pos (by omega), Nat.sub_self, gl_0]; simp [PS.grant]
    · rw [if_neg (by omega)]; simp only [PS.grant, if_neg e]; exact id.ow j hj
  · rw [gp _ (lt j 1 hj (by omega))]
    by_cases e : j = i
    · subst e
      rw [if_pos (by omega), show j * 258 + 1 - j * 258 = 1 by omega, gl_1]; simp [PS.grant]
    · rw [if_neg (by omega)]; simp only [PS.grant, if_neg e]; exact id.ho j hj
  · have := lt j (2 + k) hj (by omega)
    rw [gp _ (by omega)]
    by_cases e : j = i
    · subst e
      rw [if_pos (by omega), show j * 258 + 2 + k - j * 258 = 2 + k by omega, gl_b _ hk]; simp [PS.grant]
    · rw [if_neg (by omega)]; simp only [PS.grant, if_neg e]; exact id.byt j k hj hk
  · rw [Heap.set_at hm, if_neg e5, Heap.set_at h2, if_neg e2]; exact h3
  · rw [Heap.set_at hm, if_pos rfl]
  · rw [Blk.get_set]
    by_cases e : j = a
    · subst e; simp [PS.grant]
    · rw [if_neg e]; simp only [PS.grant, if_neg e]; exact iu.get j hj
theorem grant_bad {h : Heap} {R W : Set'} {bp : Nat} {L : PL} {S : PS} (hp : PoolAt h bp L S) (hR : R bp) (k : Int) (hk : ¬ (0 ≤ k ∧ k < S.na)) :
    SF Try.prog 11 [.ptr (some (bp, 0)), .int .i64 k] h R W fun v h' => v = .tuple [.int .i64 0, .int .i64 2] ∧ h' = h := by
  refine SF.go hm Try.func11 ir11_eq ?_
  simp -implicitDefEqProofs (disch := (first | omega | (simp -implicitDefEqProofs only [szs, ne_eq] <;> omega) | fail)) only [go_sem, Nat.reduceAdd, Nat.reduceSub, Nat.reduceMul, Nat.reduceLT, Nat.reduceMod, Nat.reduceDiv, Nat.reduceEqDiff, Nat.reduceBEq, Nat.reduceLeDiff, ↓reduceIte, reduceCtorEq, Int.reduceAdd, Int.reduceSub, Int.reduceLT, Int.reduceLE, Int.reduceBEq, Int.reduceEq, Int.reduceToNat, ir11]
  refine GCall.of (there_ok hp (.inr hR)) ?_
  rintro v h' ⟨rfl, rfl⟩
  simp -implicitDefEqProofs (disch := (first | omega | (simp -implicitDefEqProofs only [szs, ne_eq] <;> omega) | fail)) only [go_sem, Nat.reduceAdd, Nat.reduceSub, Nat.reduceMul, Nat.reduceLT, Nat.reduceMod, Nat.reduceDiv, Nat.reduceEqDiff, Nat.reduceBEq, Nat.reduceLeDiff, ↓reduceIte, reduceCtorEq, Int.reduceAdd, Int.reduceSub, Int.reduceLT, Int.reduceLE, Int.reduceBEq, Int.reduceEq, Int.reduceToNat]
  refine GCall.of (account_ok hp (.inr hR) k) ?_
  rintro v h' ⟨rfl, rfl⟩
  have e : decide (0 ≤ k ∧ k < S.na) = false := by simpa using hk
  rw [e]
  simp -implicitDefEqProofs (disch := (first | omega | (simp -implicitDefEqProofs only [szs, ne_eq] <;> omega) | fail)) only [go_sem, Nat.reduceAdd, Nat.reduceSub, Nat.reduceMul, Nat.reduceLT, Nat.reduceMod, Nat.reduceDiv, Nat.reduceEqDiff, Nat.reduceBEq, Nat.reduceLeDiff, ↓reduceIte, reduceCtorEq, Int.reduceAdd, Int.reduceSub, Int.reduceLT, Int.reduceLE, Int.reduceBEq, Int.reduceEq, Int.reduceToNat]
theorem grant_full {h : Heap} {R W : Set'} {bp : Nat} {L : PL} {S : PS} (hp : PoolAt h bp L S) (hR : R bp) (hRq : R L.qb) (hRu : R L.ub) {a : Nat} (ha : a < S.na) (he : S.us a = S.qu a) :
    SF Try.prog 11 [.ptr (some (bp, 0)), .int .i64 a] h R W fun v h' => v = .tuple [.int .i64 0, .int .i64 5] ∧ h' = h := by
  obtain ⟨c, h1, ic⟩ := hp.p
  obtain ⟨q, hq, iq⟩ := hp.q
  obtain ⟨u, hu, iu⟩ := hp.u
  have hsz := ic.size
  have c1 := ic.c1
  have c2 := ic.c2
  have qs := iq.size
  have us := iu.size
  have q1 := iq.get a ha
  have u1 := iu.get a ha
  rw [he] at u1
  refine SF.go hm Try.func11 ir11_eq ?_
  simp -implicitDefEqProofs (disch := (first | omega | (simp -implicitDefEqProofs only [szs, ne_eq] <;> omega) | fail)) only [go_sem, Nat.reduceAdd, Nat.reduceSub, Nat.reduceMul, Nat.reduceLT, Nat.reduceMod, Nat.reduceDiv, Nat.reduceEqDiff, Nat.reduceBEq, Nat.reduceLeDiff, ↓reduceIte, reduceCtorEq, Int.reduceAdd, Int.reduceSub, Int.reduceLT, Int.reduceLE, Int.reduceBEq, Int.reduceEq, Int.reduceToNat, ir11]
  refine GCall.of (there_ok hp (.inr hR)) ?_
  rintro v h' ⟨rfl, rfl⟩
  simp -implicitDefEqProofs (disch := (first | omega | (simp -implicitDefEqProofs only [szs, ne_eq] <;> omega) | fail)) only [go_sem, Nat.reduceAdd, Nat.reduceSub, Nat.reduceMul, Nat.reduceLT, Nat.reduceMod, Nat.reduceDiv, Nat.reduceEqDiff, Nat.reduceBEq, Nat.reduceLeDiff, ↓reduceIte, reduceCtorEq, Int.reduceAdd, Int.reduceSub, Int.reduceLT, Int.reduceLE, Int.reduceBEq, Int.reduceEq, Int.reduceToNat]
  refine GCall.of (account_ok hp (.inr hR) a) ?_
  rintro v h' ⟨rfl, rfl⟩
  have e : decide (0 ≤ (a : Int) ∧ (a : Int) < S.na) = true := by simp; omega
  rw [e]
  simp -implicitDefEqProofs (disch := (first | omega | (simp -implicitDefEqProofs only [szs, ne_eq] <;> omega) | fail)) only [go_sem, Nat.reduceAdd, Nat.reduceSub, Nat.reduceMul, Nat.reduceLT, Nat.reduceMod, Nat.reduceDiv, Nat.reduceEqDiff, Nat.reduceBEq, Nat.reduceLeDiff, ↓reduceIte, reduceCtorEq, Int.reduceAdd, Int.reduceSub, Int.reduceLT, Int.reduceLE, Int.reduceBEq, Int.reduceEq, Int.reduceToNat, h1, c1, c2, hq, hu, q1, u1, hR, hRq, hRu]
set_option maxHeartbeats 1000000 in
theorem grant_at {h : Heap} {R W : Set'} {bp : Nat} {L : PL} {S : PS} (hp : PoolAt h bp L S) (hR : R bp) (hRf : R L.fb) (hRq : R L.qb) (hRu : R L.ub) (hWf : W L.fb) (hWu : W L.ub) {a : Nat} (ha : a < S.na) (hne : S.us a ≠ S.qu a) (hua : 0 ≤ S.us a ∧ S.us a ≤ 65535) {i : Nat} (hi : i < S.n) (h0 : S.ho i = 0) (hl : ∀ j, j < i → S.ho j ≠ 0) :
    SF Try.prog 11 [.ptr (some (bp, 0)), .int .i64 a] h R W fun v h' => v = .tuple [.int .i64 i, .int .i64 0] ∧ PoolAt h' bp L (S.grant i a) := by
  obtain ⟨c, h1, ic⟩ := hp.p
  obtain ⟨q, hq, iq⟩ := hp.q
  obtain ⟨u, hu, iu⟩ := hp.u
  obtain ⟨f, hf, if'⟩ := hp.f
  have hsz := ic.size
  have c0 := ic.c0
  have c1 := ic.c1
  have c2 := ic.c2
  have qs := iq.size
  have us := iu.size
  have fs := if'.size
  have q1 := iq.get a ha
  have u1 := iu.get a ha
  have hro := if'.ro
  have hro2 := iu.ro
  have hlo := hp.lo
  have ne1 : bp ≠ L.fb := fun e => by rw [e, hf] at h1; cases h1
  have ne2 : L.ub ≠ L.fb := fun e => by rw [e, hf] at hu; cases hu
  have hlt1 := Heap.lt_of_get hf
  refine SF.go hm Try.func11 ir11_eq ?_
  simp -implicitDefEqProofs (disch := (first | omega | (simp -implicitDefEqProofs only [szs, ne_eq] <;> omega) | fail)) only [go_sem, Nat.reduceAdd, Nat.reduceSub, Nat.reduceMul, Nat.reduceLT, Nat.reduceMod, Nat.reduceDiv, Nat.reduceEqDiff, Nat.reduceBEq, Nat.reduceLeDiff, ↓reduceIte, reduceCtorEq, Int.reduceAdd, Int.reduceSub, Int.reduceLT, Int.reduceLE, Int.reduceBEq, Int.reduceEq, Int.reduceToNat, ir11]
  refine GCall.of (there_ok hp (.inr hR)) ?_
  rintro v h' ⟨rfl, rfl⟩
  simp -implicitDefEqProofs (disch := (first | omega | (simp -implicitDefEqProofs only [szs, ne_eq] <;> omega) | fail)) only [go_sem, Nat.reduceAdd, Nat.reduceSub, Nat.reduceMul, Nat.reduceLT, Nat.reduceMod, Nat.reduceDiv, Nat.reduceEqDiff, Nat.reduceBEq, Nat.reduceLeDiff, ↓reduceIte, reduceCtorEq, Int.reduceAdd, Int.reduceSub, Int.reduceLT, Int.reduceLE, Int.reduceBEq, Int.reduceEq, Int.reduceToNat]
  refine GCall.of (account_ok hp (.inr hR) a) ?_
  rintro v h' ⟨rfl, rfl⟩
  have e : decide (0 ≤ (a : Int) ∧ (a : Int) < S.na) = true := by simp; omega
  rw [e]
  have e2 : (S.us a == S.qu a) = false := by simpa using hne
  simp -implicitDefEqProofs (disch := (first | omega | (simp -implicitDefEqProofs only [szs, ne_eq] <;> omega) | fail)) only [go_sem, Nat.reduceAdd, Nat.reduceSub, Nat.reduceMul, Nat.reduceLT, Nat.reduceMod, Nat.reduceDiv, Nat.reduceEqDiff, Nat.reduceBEq, Nat.reduceLeDiff, ↓reduceIte, reduceCtorEq, Int.reduceAdd, Int.reduceSub, Int.reduceLT, Int.reduceLE, Int.reduceBEq, Int.reduceEq, Int.reduceToNat, h1, c0, c1, c2, hq, hu, q1, u1, hR, hRq, hRu, e2]
  refine GLoop.inv hm (fun k f h => h = h' ∧ f.mks = [] ∧ f.tm.n = 70 ∧ f.tm.get 0 = some (.ptr (some (bp, 0))) ∧ f.tm.get 1 = some (.int .i64 a) ∧ f.tm.get 6 = some (.int .i64 0) ∧ f.tm.get 37 = some (.int .i64 S.n) ∧ ∃ j : Nat, j + k = i ∧ f.tm.get 38 = some (.int .i64 j)) i ?_ ?_
  · exact ⟨rfl, rfl, rfl, rfl, rfl, rfl, rfl, 0, by omega, rfl⟩
  · rintro k ⟨⟨n, tr⟩, mks⟩ h ⟨rfl, hmk, hn, t0, t1, t6, t37, j, hjk, t38⟩
    simp only [Tm.get_mk] at hmk hn t0 t1 t6 t37 t38
    subst hmk hn
    have g1 := if'.ho j (by omega)
    by_cases hj : j < i
    · have e3 : (S.ho j == 0) = false := by simpa using hl j hj
      simp -implicitDefEqProofs (disch := (first | omega | (simp -implicitDefEqProofs only [szs, ne_eq] <;> omega) | fail)) only [go_sem, Nat.reduceAdd, Nat.reduceSub, Nat.reduceMul, Nat.reduceLT, Nat.reduceMod, Nat.reduceDiv, Nat.reduceEqDiff, Nat.reduceBEq, Nat.reduceLeDiff, ↓reduceIte, reduceCtorEq, Int.reduceAdd, Int.reduceSub, Int.reduceLT, Int.reduceLE, Int.reduceBEq, Int.reduceEq, Int.reduceToNat, ir11_l0, t0, t1, t6, t37, t38, h1, c0, hf, g1, e3, hR, hRf]
      exact ⟨k - 1, by omega, j + 1, by omega, by simp⟩
    · have : j = i := by omega
      subst this
      have e3 : (S.ho j == 0) = true := by simpa using h0
      simp -implicitDefEqProofs (disch := (first | omega | (simp -implicitDefEqProofs only [szs, ne_eq] <;> omega) | fail)) only [go_sem, Nat.reduceAdd, Nat.reduceSub, Nat.reduceMul, Nat.reduceLT, Nat.reduceMod, Nat.reduceDiv, Nat.reduceEqDiff, Nat.reduceBEq, Nat.reduceLeDiff, ↓reduceIte, reduceCtorEq, Int.reduceAdd, Int.reduceSub, Int.reduceLT, Int.reduceLE, Int.reduceBEq, Int.reduceEq, Int.reduceToNat, ir11_l0, t0, t1, t6, t37, t38, h1, c0, c2, hf, hu, u1, g1, e3, hR, hRf, hRu, zcl_67, List.length_set, gl_fold, gl_len, gl_one, hro, hro2, hWu, hWf]
      exact hp.grant1 hf hu hi ha rfl rfl
end Go.Proofs.Ytfgdpgagcnelpaa
