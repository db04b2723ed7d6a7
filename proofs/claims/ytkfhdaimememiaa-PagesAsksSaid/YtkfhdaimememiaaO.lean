/- Tables of pages: stands. -/
import Derived.Test.YtkfhdaimememiaaN
set_option linter.unusedVariables false
set_option linter.unusedSimpArgs false
set_option linter.unusedSimpArgs false
set_option maxRecDepth 100000
set_option linter.unusedVariables false
set_option linter.unusedSimpArgs false
namespace Go.Proofs.Ytkfhdaimememiaa
open Go Go.Vm
theorem ent_heap (g : Heap) (x : Ce) : ∃ g6, (g.push (O.cells (Blk.of [V.int IntKind.i64 0, V.int IntKind.i64 0, V.bool false, V.bool false]) 34)).set g.n (O.cells (((((Blk.of [V.int IntKind.i64 0, V.int IntKind.i64 0, V.bool false, V.bool false]).set 0 (V.int IntKind.i64 x.f)).set 1 (V.int IntKind.i64 x.r)).set 2 (V.bool x.t)).set 3 (V.bool x.w)) 34) = g6 ∧ g6.n = g.n + 1 ∧
    (∃ d, g6.get g.n = some (.cells d 34) ∧ d.size = 4 ∧ d.get 0 = .int .i64 x.f ∧ d.get 1 = .int .i64 x.r ∧ d.get 2 = .bool x.t ∧ d.get 3 = .bool x.w) ∧ ∀ b, b < g.n → g6.get b = g.get b := ⟨_, rfl, by simp, ⟨_, w_set_eq (by simp) rfl _, rfl, by simp -implicitDefEqProofs (disch := (first | omega | (simp -implicitDefEqProofs only [szs, ne_eq] <;> omega) | fail)) only [go_sem, Nat.reduceAdd, Nat.reduceSub, Nat.reduceMul, Nat.reduceLT, Nat.reduceMod, Nat.reduceDiv, Nat.reduceEqDiff, Nat.reduceBEq, Nat.reduceLeDiff, ↓reduceIte, reduceCtorEq, Int.reduceAdd, Int.reduceSub, Int.reduceLT, Int.reduceLE, Int.reduceBEq, Int.reduceEq, Int.reduceToNat], by simp -implicitDefEqProofs (disch := (first | omega | (simp -implicitDefEqProofs only [szs, ne_eq] <;> omega) | fail)) only [go_sem, Nat.reduceAdd, Nat.reduceSub, Nat.reduceMul, Nat.reduceLT, Nat.reduceMod, Nat.reduceDiv, Nat.reduceEqDiff, Nat.reduceBEq, Nat.reduceLeDiff, ↓reduceIte, reduceCtorEq, Int.reduceAdd, Int.reduceSub, Int.reduceLT, Int.reduceLE, Int.reduceBEq, Int.reduceEq, Int.reduceToNat], by simp -implicitDefEqProofs (disch := (first | omega | (simp -implicitDefEqProofs only [szs, ne_eq] <;> omega) | fail)) only [go_sem, Nat.reduceAdd, Nat.reduceSub, Nat.reduceMul, Nat.reduceLT, Nat.reduceMod, Nat.reduceDiv, Nat.reduceEqDiff, Nat.reduceBEq, Nat.reduceLeDiff, ↓reduceIte, reduceCtorEq, Int.reduceAdd, Int.reduceSub, Int.reduceLT, Int.reduceLE, Int.reduceBEq, Int.reduceEq, Int.reduceToNat], by simp -implicitDefEqProofs (disch := (first | omega | (simp -implicitDefEqProofs only [szs, ne_eq] <;> omega) | fail)) only [go_sem, Nat.reduceAdd, Nat.reduceSub, Nat.reduceMul, Nat.reduceLT, Nat.reduceMod, Nat.reduceDiv, Nat.reduceEqDiff, Nat.reduceBEq, Nat.reduceLeDiff, ↓reduceIte, reduceCtorEq, Int.reduceAdd, Int.reduceSub, Int.reduceLT, Int.reduceLE, Int.reduceBEq, Int.reduceEq, Int.reduceToNat]⟩, fun b hb => by simp -implicitDefEqProofs (disch := (first | omega | (simp -implicitDefEqProofs only [szs, ne_eq] <;> omega) | fail)) only [go_sem, Nat.reduceAdd, Nat.reduceSub, Nat.reduceMul, Nat.reduceLT, Nat.reduceMod, Nat.reduceDiv, Nat.reduceEqDiff, Nat.reduceBEq, Nat.reduceLeDiff, ↓reduceIte, reduceCtorEq, Int.reduceAdd, Int.reduceSub, Int.reduceLT, Int.reduceLE, Int.reduceBEq, Int.reduceEq, Int.reduceToNat]⟩
theorem ent_eq (x : Ce) : eqD Try.prog 10 34 (.agg [.int .i64 x.f, .int .i64 x.r, .bool x.t, .bool x.w]) (.agg [.int .i64 x.f, .int .i64 x.r, .bool x.t, .bool x.w]) = some true := by rw [eq_34]; simp
theorem eg_50 : Try.prog.eqGuardType Try.prog.depth 50 = false := by kernel_rfl
theorem sp_eq (a b : Int) : eqD Try.prog 10 50 (.agg [.int .i64 a, .int .i64 b]) (.agg [.int .i64 a, .int .i64 b]) = some true := by rw [eq_50]; simp
theorem spV_at {L : List Nat} {p : Nat} (h : p < L.length) : (spV L).getD (p * 2) undefV = .int .i64 (L[p] / 32 : Nat) ∧ (spV L).getD (p * 2 + 1) undefV = .int .i64 (L[p] % 32 : Nat) := by
  induction L generalizing p with
  | nil => simp at h
  | cons x L ih =>
    have e : spV (x :: L) = V.int .i64 (x / 32 : Nat) :: V.int .i64 (x % 32 : Nat) :: spV L := rfl
    rw [e]
    cases p with
    | zero => exact ⟨rfl, rfl⟩
    | succ p =>
      have := ih (p := p) (by simpa using h)
      rw [show (p + 1) * 2 = p * 2 + 1 + 1 by omega]
      simpa using this
/-- Two tables told the same, page by page. -/
theorem stands_l0 {H g : Heap} {R W : Set'} {Q : Ex → Fr → Heap → Prop} {t : List It} {tb r rd : Nat} {T : Tb} (ht : TabAt H tb r T) (hr : RefP H rd T) (hR : ∀ b, R b) (hW : ∀ b, H.n ≤ b → W b) (s leave : Int) {tr : Tr V} {mks : List Nat} (gn : H.n ≤ g.n) (hold : ∀ b, b < H.n → g.get b = H.get b)
    (u0 : tr.get 0 = some (.ptr (some (tb, 0)))) (u1 : tr.get 1 = some (.ptr (some (rd, 0)))) (u2 : tr.get 2 = some (.int .i64 leave)) (u7 : tr.get 7 = some (.int .i64 s)) (u8 : tr.get 8 = some (.int .i64 (-1)))
    (hk : ∀ (tr : Tr V) g', H.n ≤ g'.n → (∀ b, b < H.n → g'.get b = H.get b) → tr.get 0 = some (.ptr (some (tb, 0))) → tr.get 1 = some (.ptr (some (rd, 0))) → tr.get 2 = some (.int .i64 leave) → tr.get 7 = some (.int .i64 s) → resume ⟨Try.prog, true⟩ R W none Q t (.exit 2) ⟨⟨96, tr⟩, mks⟩ g') :
    GLoop ⟨Try.prog, true⟩ R W none Q ir22_l0 t ⟨⟨96, tr⟩, mks⟩ g := by
  have hlt := ht.lt
  have hlr := hr.lt
  refine GLoop.inv hm (fun k f g => f.mks = mks ∧ f.tm.n = 96 ∧ f.tm.get 0 = some (.ptr (some (tb, 0))) ∧ f.tm.get 1 = some (.ptr (some (rd, 0))) ∧ f.tm.get 2 = some (.int .i64 leave) ∧ f.tm.get 7 = some (.int .i64 s) ∧ H.n ≤ g.n ∧ (∀ b, b < H.n → g.get b = H.get b) ∧ ∃ i : Nat, i + k = 34 ∧ f.tm.get 8 = some (.int .i64 ((i : Int) - 1))) 34 ?_ ?_
  · exact ⟨rfl, rfl, u0, u1, u2, u7, gn, hold, 0, by omega, u8⟩
  clear u0 u1 u2 u7 u8 gn hold
  clear g tr
  rintro k ⟨⟨n', tr⟩, mks'⟩ g ⟨hmk, hn', t0, t1, t2, t7, gn, hold, i, hik, t8⟩
  simp only [Tm.get_mk] at hmk hn' t0 t1 t2 t7 t8
  subst hmk hn'
  by_cases hi : i < 34
  · have hg := ht.old hold
    have hrg := hr.old hold
    have h1 : (i : Int) - 1 ≤ 32 := by omega
    simp -implicitDefEqProofs (disch := (first | omega | (simp -implicitDefEqProofs only [szs, ne_eq] <;> omega) | fail)) only [go_sem, Nat.reduceAdd, Nat.reduceSub, Nat.reduceMul, Nat.reduceLT, Nat.reduceMod, Nat.reduceDiv, Nat.reduceEqDiff, Nat.reduceBEq, Nat.reduceLeDiff, ↓reduceIte, reduceCtorEq, Int.reduceAdd, Int.reduceSub, Int.reduceLT, Int.reduceLE, Int.reduceBEq, Int.reduceEq, Int.reduceToNat, ir22_l0, t0, t1, t2, t7, t8, h1]
    refine GCall.of (get_ok hg (hR _) s ((i : Int) - 1)).any ?_
    rintro v g1 ⟨rfl, n1, k1⟩
    obtain ⟨g2, e2, n2, ⟨d, b2, db, d0, d1, d2, d3⟩, k2⟩ := ent_heap g1 (getC T s ((i : Int) - 1))
    generalize hx : getC T s ((i : Int) - 1) = x at *
    have hW1 := hW g1.n (by omega)
    have hr2 : RefP g2 rd T := hrg.old fun b hb => by rw [k2 b (by omega), k1 b (by omega)]
    simp -implicitDefEqProofs (disch := (first | omega | (simp -implicitDefEqProofs only [szs, ne_eq] <;> omega) | fail)) only [go_sem, Nat.reduceAdd, Nat.reduceSub, Nat.reduceMul, Nat.reduceLT, Nat.reduceMod, Nat.reduceDiv, Nat.reduceEqDiff, Nat.reduceBEq, Nat.reduceLeDiff, ↓reduceIte, reduceCtorEq, Int.reduceAdd, Int.reduceSub, Int.reduceLT, Int.reduceLE, Int.reduceBEq, Int.reduceEq, Int.reduceToNat, Ce.v, e2, hW1, t0, t1, t2, t7, t8]
    refine GCall.of (rget_ok hr2 (hR _) s ((i : Int) - 1)).any ?_
    rintro v g3 ⟨rfl, n3, k3⟩
    rw [hx]
    obtain ⟨g4, e4, n4, ⟨d', b4, db', d0', d1', d2', d3'⟩, k4⟩ := ent_heap g3 x
    have hW3 := hW g3.n (by omega)
    have b2' := (k4 g1.n (by omega)).trans ((k3 g1.n (by omega)).trans b2)
    have hR1 := hR g1.n
    have hR3 := hR g3.n
    have heq := ent_eq x
    have hbb : (x.isSome != x.isSome) = false := by cases x.isSome <;> rfl
    simp -implicitDefEqProofs (disch := (first | omega | (simp -implicitDefEqProofs only [szs, ne_eq] <;> omega) | fail)) only [go_sem, Nat.reduceAdd, Nat.reduceSub, Nat.reduceMul, Nat.reduceLT, Nat.reduceMod, Nat.reduceDiv, Nat.reduceEqDiff, Nat.reduceBEq, Nat.reduceLeDiff, ↓reduceIte, reduceCtorEq, Int.reduceAdd, Int.reduceSub, Int.reduceLT, Int.reduceLE, Int.reduceBEq, Int.reduceEq, Int.reduceToNat, Ce.v, e4, hW3, t0, t1, t2, t7, t8, b2', db, d0, d1, d2, d3, b4, db', d0', d1', d2', d3', hR1, hR3, ↓eg_34, heq, undefV, hbb]
    exact ⟨k - 1, by omega, by omega, fun b hb => by rw [k4 b (by omega), k3 b (by omega), k2 b (by omega), k1 b (by omega)]; exact hold b hb, i + 1, by omega, congrArg _ (by omega)⟩
  · have h1 : ¬ (i : Int) - 1 ≤ 32 := by omega
    simp -implicitDefEqProofs (disch := (first | omega | (simp -implicitDefEqProofs only [szs, ne_eq] <;> omega) | fail)) only [go_sem, Nat.reduceAdd, Nat.reduceSub, Nat.reduceMul, Nat.reduceLT, Nat.reduceMod, Nat.reduceDiv, Nat.reduceEqDiff, Nat.reduceBEq, Nat.reduceLeDiff, ↓reduceIte, reduceCtorEq, Int.reduceAdd, Int.reduceSub, Int.reduceLT, Int.reduceLE, Int.reduceBEq, Int.reduceEq, Int.reduceToNat, ir22_l0, t0, t1, t2, t7, t8, h1]
    exact hk _ _ gn hold (by simp -implicitDefEqProofs (disch := (first | omega | (simp -implicitDefEqProofs only [szs, ne_eq] <;> omega) | fail)) only [go_sem, Nat.reduceAdd, Nat.reduceSub, Nat.reduceMul, Nat.reduceLT, Nat.reduceMod, Nat.reduceDiv, Nat.reduceEqDiff, Nat.reduceBEq, Nat.reduceLeDiff, ↓reduceIte, reduceCtorEq, Int.reduceAdd, Int.reduceSub, Int.reduceLT, Int.reduceLE, Int.reduceBEq, Int.reduceEq, Int.reduceToNat, t0]) (by simp -implicitDefEqProofs (disch := (first | omega | (simp -implicitDefEqProofs only [szs, ne_eq] <;> omega) | fail)) only [go_sem, Nat.reduceAdd, Nat.reduceSub, Nat.reduceMul, Nat.reduceLT, Nat.reduceMod, Nat.reduceDiv, Nat.reduceEqDiff, Nat.reduceBEq, Nat.reduceLeDiff, ↓reduceIte, reduceCtorEq, Int.reduceAdd, Int.reduceSub, Int.reduceLT, Int.reduceLE, Int.reduceBEq, Int.reduceEq, Int.reduceToNat, t1]) (by simp -implicitDefEqProofs (disch := (first | omega | (simp -implicitDefEqProofs only [szs, ne_eq] <;> omega) | fail)) only [go_sem, Nat.reduceAdd, Nat.reduceSub, Nat.reduceMul, Nat.reduceLT, Nat.reduceMod, Nat.reduceDiv, Nat.reduceEqDiff, Nat.reduceBEq, Nat.reduceLeDiff, ↓reduceIte, reduceCtorEq, Int.reduceAdd, Int.reduceSub, Int.reduceLT, Int.reduceLE, Int.reduceBEq, Int.reduceEq, Int.reduceToNat, t2]) (by simp -implicitDefEqProofs (disch := (first | omega | (simp -implicitDefEqProofs only [szs, ne_eq] <;> omega) | fail)) only [go_sem, Nat.reduceAdd, Nat.reduceSub, Nat.reduceMul, Nat.reduceLT, Nat.reduceMod, Nat.reduceDiv, Nat.reduceEqDiff, Nat.reduceBEq, Nat.reduceLeDiff, ↓reduceIte, reduceCtorEq, Int.reduceAdd, Int.reduceSub, Int.reduceLT, Int.reduceLE, Int.reduceBEq, Int.reduceEq, Int.reduceToNat, t7])
theorem stands_l2 {H : Heap} {R W S1 S2 : Set'} {Q : Ex → Fr → Heap → Prop} {t : List It} {tb rd : Nat} {L : List Nat} {v1 v2 : V} (h1 : LRs 2 H S1 v1 L.length (spV L)) (h2 : LRs 2 H S2 v2 L.length (spV L)) (hR : ∀ b, R b) (fr leave : Int) {tr : Tr V} {mks : List Nat}
    (u0 : tr.get 0 = some (.ptr (some (tb, 0)))) (u1 : tr.get 1 = some (.ptr (some (rd, 0)))) (u2 : tr.get 2 = some (.int .i64 leave)) (u13 : tr.get 13 = some (.int .i64 fr)) (u14 : tr.get 14 = some v1) (u15 : tr.get 15 = some v2) (u16 : tr.get 16 = some (.int .i64 0))
    (hL : L.length ≤ 1000000)
    (hk : ∀ (tr : Tr V), tr.get 0 = some (.ptr (some (tb, 0))) → tr.get 1 = some (.ptr (some (rd, 0))) → tr.get 2 = some (.int .i64 leave) → tr.get 13 = some (.int .i64 fr) → resume ⟨Try.prog, true⟩ R W none Q t (.exit 6) ⟨⟨96, tr⟩, mks⟩ H) :
    GLoop ⟨Try.prog, true⟩ R W none Q ir22_l2 t ⟨⟨96, tr⟩, mks⟩ H := by
  have hl1 := h1.lenV Try.underlying46
  refine GLoop.inv hm (fun k f g => f.mks = mks ∧ f.tm.n = 96 ∧ f.tm.get 0 = some (.ptr (some (tb, 0))) ∧ f.tm.get 1 = some (.ptr (some (rd, 0))) ∧ f.tm.get 2 = some (.int .i64 leave) ∧ f.tm.get 13 = some (.int .i64 fr) ∧ f.tm.get 14 = some v1 ∧ f.tm.get 15 = some v2 ∧ g = H ∧ ∃ i : Nat, i + k = L.length ∧ f.tm.get 16 = some (.int .i64 i)) L.length ?_ ?_
  · exact ⟨rfl, rfl, u0, u1, u2, u13, u14, u15, rfl, 0, by omega, u16⟩
  clear u0 u1 u2 u13 u14 u15 u16
  clear tr
  rintro k ⟨⟨n', tr⟩, mks'⟩ g ⟨hmk, hn', t0, t1, t2, t13, t14, t15, rfl, i, hik, t16⟩
  simp only [Tm.get_mk] at hmk hn' t0 t1 t2 t13 t14 t15 t16
  subst hmk hn'
  by_cases hi : i < L.length
  · obtain ⟨b, o, cap, ex, c, ce, rfl, hb1, i1, j1, l1⟩ := h1.get (by omega)
    obtain ⟨b', o', cap', ex', c', ce', rfl, hb2, i2, j2, l2⟩ := h2.get (by omega)
    have hat := spV_at hi
    have a1 := l1 (i * 2) (by omega)
    have a2 := l1 (i * 2 + 1) (by omega)
    have a3 := l2 (i * 2) (by omega)
    have a4 := l2 (i * 2 + 1) (by omega)
    rw [hat.1] at a1 a3
    rw [hat.2] at a2 a4
    rw [← Nat.add_assoc] at a2 a4
    have hR1 := hR b
    have hR2 := hR b'
    have p0 : (0 : Int) ≤ (i : Int) := by omega
    have p1 : (i : Int) < (L.length : Int) := by omega
    have heq := sp_eq (L[i] / 32 : Nat) (L[i] % 32 : Nat)
    simp -implicitDefEqProofs (disch := (first | omega | (simp -implicitDefEqProofs only [szs, ne_eq] <;> omega) | fail)) only [go_sem, Nat.reduceAdd, Nat.reduceSub, Nat.reduceMul, Nat.reduceLT, Nat.reduceMod, Nat.reduceDiv, Nat.reduceEqDiff, Nat.reduceBEq, Nat.reduceLeDiff, ↓reduceIte, reduceCtorEq, Int.reduceAdd, Int.reduceSub, Int.reduceLT, Int.reduceLE, Int.reduceBEq, Int.reduceEq, Int.reduceToNat, ir22_l2, t0, t1, t2, t13, t14, t15, t16, ↓hl1, hR1, hR2, i1, i2, p0, p1, a1, a2, a3, a4, ↓eg_50, heq]
    exact ⟨k - 1, by omega, i + 1, by omega, by simp⟩
  · have p1 : ¬ (i : Int) < (L.length : Int) := by omega
    simp -implicitDefEqProofs (disch := (first | omega | (simp -implicitDefEqProofs only [szs, ne_eq] <;> omega) | fail)) only [go_sem, Nat.reduceAdd, Nat.reduceSub, Nat.reduceMul, Nat.reduceLT, Nat.reduceMod, Nat.reduceDiv, Nat.reduceEqDiff, Nat.reduceBEq, Nat.reduceLeDiff, ↓reduceIte, reduceCtorEq, Int.reduceAdd, Int.reduceSub, Int.reduceLT, Int.reduceLE, Int.reduceBEq, Int.reduceEq, Int.reduceToNat, ir22_l2, t0, t1, t2, t13, t14, t15, t16, ↓hl1, p1]
    exact hk _ (by simp -implicitDefEqProofs (disch := (first | omega | (simp -implicitDefEqProofs only [szs, ne_eq] <;> omega) | fail)) only [go_sem, Nat.reduceAdd, Nat.reduceSub, Nat.reduceMul, Nat.reduceLT, Nat.reduceMod, Nat.reduceDiv, Nat.reduceEqDiff, Nat.reduceBEq, Nat.reduceLeDiff, ↓reduceIte, reduceCtorEq, Int.reduceAdd, Int.reduceSub, Int.reduceLT, Int.reduceLE, Int.reduceBEq, Int.reduceEq, Int.reduceToNat, t0]) (by simp -implicitDefEqProofs (disch := (first | omega | (simp -implicitDefEqProofs only [szs, ne_eq] <;> omega) | fail)) only [go_sem, Nat.reduceAdd, Nat.reduceSub, Nat.reduceMul, Nat.reduceLT, Nat.reduceMod, Nat.reduceDiv, Nat.reduceEqDiff, Nat.reduceBEq, Nat.reduceLeDiff, ↓reduceIte, reduceCtorEq, Int.reduceAdd, Int.reduceSub, Int.reduceLT, Int.reduceLE, Int.reduceBEq, Int.reduceEq, Int.reduceToNat, t1]) (by simp -implicitDefEqProofs (disch := (first | omega | (simp -implicitDefEqProofs only [szs, ne_eq] <;> omega) | fail)) only [go_sem, Nat.reduceAdd, Nat.reduceSub, Nat.reduceMul, Nat.reduceLT, Nat.reduceMod, Nat.reduceDiv, Nat.reduceEqDiff, Nat.reduceBEq, Nat.reduceLeDiff, ↓reduceIte, reduceCtorEq, Int.reduceAdd, Int.reduceSub, Int.reduceLT, Int.reduceLE, Int.reduceBEq, Int.reduceEq, Int.reduceToNat, t2]) (by simp -implicitDefEqProofs (disch := (first | omega | (simp -implicitDefEqProofs only [szs, ne_eq] <;> omega) | fail)) only [go_sem, Nat.reduceAdd, Nat.reduceSub, Nat.reduceMul, Nat.reduceLT, Nat.reduceMod, Nat.reduceDiv, Nat.reduceEqDiff, Nat.reduceBEq, Nat.reduceLeDiff, ↓reduceIte, reduceCtorEq, Int.reduceAdd, Int.reduceSub, Int.reduceLT, Int.reduceLE, Int.reduceBEq, Int.reduceEq, Int.reduceToNat, t13])
set_option maxHeartbeats 4000000 in
theorem stands_dem {h : Heap} {R W : Set'} {tb r rd : Nat} {T : Tb} (ht : TabAt h tb r T) (hr : RefP h rd T) (hR : ∀ b, R b) (leave : Int) :
    SF ⟨Try.prog, true⟩ 22 [.ptr (some (tb, 0)), .ptr (some (rd, 0)), .int .i64 leave] h R W fun v h' => v = .bool true ∧ h.n ≤ h'.n ∧ ∀ b, b < h.n → h'.get b = h.get b := by
  have hlt := ht.lt
  have hlr := hr.lt
  refine SF.go hm Try.func22 ir22_eq ?_
  simp -implicitDefEqProofs (disch := (first | omega | (simp -implicitDefEqProofs only [szs, ne_eq] <;> omega) | fail)) only [go_sem, Nat.reduceAdd, Nat.reduceSub, Nat.reduceMul, Nat.reduceLT, Nat.reduceMod, Nat.reduceDiv, Nat.reduceEqDiff, Nat.reduceBEq, Nat.reduceLeDiff, ↓reduceIte, reduceCtorEq, Int.reduceAdd, Int.reduceSub, Int.reduceLT, Int.reduceLE, Int.reduceBEq, Int.reduceEq, Int.reduceToNat, ir22]
  refine GLoop.inv hm (fun k f g => f.mks = [] ∧ f.tm.n = 96 ∧ f.tm.get 0 = some (.ptr (some (tb, 0))) ∧ f.tm.get 1 = some (.ptr (some (rd, 0))) ∧ f.tm.get 2 = some (.int .i64 leave) ∧ h.n ≤ g.n ∧ (∀ b, b < h.n → g.get b = h.get b) ∧ ∃ i : Nat, i + k = 18 ∧ f.tm.get 7 = some (.int .i64 ((i : Int) - 1))) 18 ?_ ?_
  · exact ⟨rfl, rfl, by simp -implicitDefEqProofs (disch := (first | omega | (simp -implicitDefEqProofs only [szs, ne_eq] <;> omega) | fail)) only [go_sem, Nat.reduceAdd, Nat.reduceSub, Nat.reduceMul, Nat.reduceLT, Nat.reduceMod, Nat.reduceDiv, Nat.reduceEqDiff, Nat.reduceBEq, Nat.reduceLeDiff, ↓reduceIte, reduceCtorEq, Int.reduceAdd, Int.reduceSub, Int.reduceLT, Int.reduceLE, Int.reduceBEq, Int.reduceEq, Int.reduceToNat], by simp -implicitDefEqProofs (disch := (first | omega | (simp -implicitDefEqProofs only [szs, ne_eq] <;> omega) | fail)) only [go_sem, Nat.reduceAdd, Nat.reduceSub, Nat.reduceMul, Nat.reduceLT, Nat.reduceMod, Nat.reduceDiv, Nat.reduceEqDiff, Nat.reduceBEq, Nat.reduceLeDiff, ↓reduceIte, reduceCtorEq, Int.reduceAdd, Int.reduceSub, Int.reduceLT, Int.reduceLE, Int.reduceBEq, Int.reduceEq, Int.reduceToNat], by simp -implicitDefEqProofs (disch := (first | omega | (simp -implicitDefEqProofs only [szs, ne_eq] <;> omega) | fail)) only [go_sem, Nat.reduceAdd, Nat.reduceSub, Nat.reduceMul, Nat.reduceLT, Nat.reduceMod, Nat.reduceDiv, Nat.reduceEqDiff, Nat.reduceBEq, Nat.reduceLeDiff, ↓reduceIte, reduceCtorEq, Int.reduceAdd, Int.reduceSub, Int.reduceLT, Int.reduceLE, Int.reduceBEq, Int.reduceEq, Int.reduceToNat], Nat.le_refl _, fun _ _ => rfl, 0, by omega, by simp -implicitDefEqProofs (disch := (first | omega | (simp -implicitDefEqProofs only [szs, ne_eq] <;> omega) | fail)) only [go_sem, Nat.reduceAdd, Nat.reduceSub, Nat.reduceMul, Nat.reduceLT, Nat.reduceMod, Nat.reduceDiv, Nat.reduceEqDiff, Nat.reduceBEq, Nat.reduceLeDiff, ↓reduceIte, reduceCtorEq, Int.reduceAdd, Int.reduceSub, Int.reduceLT, Int.reduceLE, Int.reduceBEq, Int.reduceEq, Int.reduceToNat]; rfl⟩
  rintro k ⟨⟨n', tr⟩, mks⟩ g ⟨hmk, hn', t0, t1, t2, gn, hold, i, hik, t7⟩
  simp only [Tm.get_mk] at hmk hn' t0 t1 t2 t7
  subst hmk hn'
  by_cases hi : i < 18
  · have h1 : (i : Int) - 1 ≤ 16 := by omega
    simp -implicitDefEqProofs (disch := (first | omega | (simp -implicitDefEqProofs only [szs, ne_eq] <;> omega) | fail)) only [go_sem, Nat.reduceAdd, Nat.reduceSub, Nat.reduceMul, Nat.reduceLT, Nat.reduceMod, Nat.reduceDiv, Nat.reduceEqDiff, Nat.reduceBEq, Nat.reduceLeDiff, ↓reduceIte, reduceCtorEq, Int.reduceAdd, Int.reduceSub, Int.reduceLT, Int.reduceLE, Int.reduceBEq, Int.reduceEq, Int.reduceToNat, ir22_l1, t0, t1, t2, t7, h1]
    refine stands_l0 ht hr (fun b => .inr (hR b)) (fun b hb => .inl hb) ((i : Int) - 1) leave gn hold (by simp -implicitDefEqProofs (disch := (first | omega | (simp -implicitDefEqProofs only [szs, ne_eq] <;> omega) | fail)) only [go_sem, Nat.reduceAdd, Nat.reduceSub, Nat.reduceMul, Nat.reduceLT, Nat.reduceMod, Nat.reduceDiv, Nat.reduceEqDiff, Nat.reduceBEq, Nat.reduceLeDiff, ↓reduceIte, reduceCtorEq, Int.reduceAdd, Int.reduceSub, Int.reduceLT, Int.reduceLE, Int.reduceBEq, Int.reduceEq, Int.reduceToNat, t0]) (by simp -implicitDefEqProofs (disch := (first | omega | (simp -implicitDefEqProofs only [szs, ne_eq] <;> omega) | fail)) only [go_sem, Nat.reduceAdd, Nat.reduceSub, Nat.reduceMul, Nat.reduceLT, Nat.reduceMod, Nat.reduceDiv, Nat.reduceEqDiff, Nat.reduceBEq, Nat.reduceLeDiff, ↓reduceIte, reduceCtorEq, Int.reduceAdd, Int.reduceSub, Int.reduceLT, Int.reduceLE, Int.reduceBEq, Int.reduceEq, Int.reduceToNat, t1]) (by simp -implicitDefEqProofs (disch := (first | omega | (simp -implicitDefEqProofs only [szs, ne_eq] <;> omega) | fail)) only [go_sem, Nat.reduceAdd, Nat.reduceSub, Nat.reduceMul, Nat.reduceLT, Nat.reduceMod, Nat.reduceDiv, Nat.reduceEqDiff, Nat.reduceBEq, Nat.reduceLeDiff, ↓reduceIte, reduceCtorEq, Int.reduceAdd, Int.reduceSub, Int.reduceLT, Int.reduceLE, Int.reduceBEq, Int.reduceEq, Int.reduceToNat, t2]) (by simp -implicitDefEqProofs (disch := (first | omega | (simp -implicitDefEqProofs only [szs, ne_eq] <;> omega) | fail)) only [go_sem, Nat.reduceAdd, Nat.reduceSub, Nat.reduceMul, Nat.reduceLT, Nat.reduceMod, Nat.reduceDiv, Nat.reduceEqDiff, Nat.reduceBEq, Nat.reduceLeDiff, ↓reduceIte, reduceCtorEq, Int.reduceAdd, Int.reduceSub, Int.reduceLT, Int.reduceLE, Int.reduceBEq, Int.reduceEq, Int.reduceToNat, t7]) (by simp -implicitDefEqProofs (disch := (first | omega | (simp -implicitDefEqProofs only [szs, ne_eq] <;> omega) | fail)) only [go_sem, Nat.reduceAdd, Nat.reduceSub, Nat.reduceMul, Nat.reduceLT, Nat.reduceMod, Nat.reduceDiv, Nat.reduceEqDiff, Nat.reduceBEq, Nat.reduceLeDiff, ↓reduceIte, reduceCtorEq, Int.reduceAdd, Int.reduceSub, Int.reduceLT, Int.reduceLE, Int.reduceBEq, Int.reduceEq, Int.reduceToNat]) ?_
    clear t0 t1 t2 t7
    intro tr g1 gn1 hold1 t0 t1 t2 t7
    simp -implicitDefEqProofs (disch := (first | omega | (simp -implicitDefEqProofs only [szs, ne_eq] <;> omega) | fail)) only [go_sem, Nat.reduceAdd, Nat.reduceSub, Nat.reduceMul, Nat.reduceLT, Nat.reduceMod, Nat.reduceDiv, Nat.reduceEqDiff, Nat.reduceBEq, Nat.reduceLeDiff, ↓reduceIte, reduceCtorEq, Int.reduceAdd, Int.reduceSub, Int.reduceLT, Int.reduceLE, Int.reduceBEq, Int.reduceEq, Int.reduceToNat, t0, t1, t2, t7]
    refine GCall.of (goes_dem (ht.old hold1) (hr.old hold1) (fun b => .inr (hR b)) ((i : Int) - 1) leave) ?_
    rintro v g2 ⟨rfl, n2, k2⟩
    simp -implicitDefEqProofs (disch := (first | omega | (simp -implicitDefEqProofs only [szs, ne_eq] <;> omega) | fail)) only [go_sem, Nat.reduceAdd, Nat.reduceSub, Nat.reduceMul, Nat.reduceLT, Nat.reduceMod, Nat.reduceDiv, Nat.reduceEqDiff, Nat.reduceBEq, Nat.reduceLeDiff, ↓reduceIte, reduceCtorEq, Int.reduceAdd, Int.reduceSub, Int.reduceLT, Int.reduceLE, Int.reduceBEq, Int.reduceEq, Int.reduceToNat, t0, t1, t2, t7]
    exact ⟨k - 1, by omega, by omega, fun b hb => by rw [k2 b (by omega)]; exact hold1 b hb, i + 1, by omega, congrArg _ (by omega)⟩
  · have h1 : ¬ (i : Int) - 1 ≤ 16 := by omega
    simp -implicitDefEqProofs (disch := (first | omega | (simp -implicitDefEqProofs only [szs, ne_eq] <;> omega) | fail)) only [go_sem, Nat.reduceAdd, Nat.reduceSub, Nat.reduceMul, Nat.reduceLT, Nat.reduceMod, Nat.reduceDiv, Nat.reduceEqDiff, Nat.reduceBEq, Nat.reduceLeDiff, ↓reduceIte, reduceCtorEq, Int.reduceAdd, Int.reduceSub, Int.reduceLT, Int.reduceLE, Int.reduceBEq, Int.reduceEq, Int.reduceToNat, ir22_l1, t0, t1, t2, t7, h1]
    refine GLoop.inv hm (fun k f g => f.mks = [] ∧ f.tm.n = 96 ∧ f.tm.get 0 = some (.ptr (some (tb, 0))) ∧ f.tm.get 1 = some (.ptr (some (rd, 0))) ∧ f.tm.get 2 = some (.int .i64 leave) ∧ h.n ≤ g.n ∧ (∀ b, b < h.n → g.get b = h.get b) ∧ ∃ i : Nat, i + k = 258 ∧ f.tm.get 13 = some (.int .i64 ((i : Int) - 1))) 258 ?_ ?_
    · exact ⟨rfl, rfl, by simp -implicitDefEqProofs (disch := (first | omega | (simp -implicitDefEqProofs only [szs, ne_eq] <;> omega) | fail)) only [go_sem, Nat.reduceAdd, Nat.reduceSub, Nat.reduceMul, Nat.reduceLT, Nat.reduceMod, Nat.reduceDiv, Nat.reduceEqDiff, Nat.reduceBEq, Nat.reduceLeDiff, ↓reduceIte, reduceCtorEq, Int.reduceAdd, Int.reduceSub, Int.reduceLT, Int.reduceLE, Int.reduceBEq, Int.reduceEq, Int.reduceToNat, t0], by simp -implicitDefEqProofs (disch := (first | omega | (simp -implicitDefEqProofs only [szs, ne_eq] <;> omega) | fail)) only [go_sem, Nat.reduceAdd, Nat.reduceSub, Nat.reduceMul, Nat.reduceLT, Nat.reduceMod, Nat.reduceDiv, Nat.reduceEqDiff, Nat.reduceBEq, Nat.reduceLeDiff, ↓reduceIte, reduceCtorEq, Int.reduceAdd, Int.reduceSub, Int.reduceLT, Int.reduceLE, Int.reduceBEq, Int.reduceEq, Int.reduceToNat, t1], by simp -implicitDefEqProofs (disch := (first | omega | (simp -implicitDefEqProofs only [szs, ne_eq] <;> omega) | fail)) only [go_sem, Nat.reduceAdd, Nat.reduceSub, Nat.reduceMul, Nat.reduceLT, Nat.reduceMod, Nat.reduceDiv, Nat.reduceEqDiff, Nat.reduceBEq, Nat.reduceLeDiff, ↓reduceIte, reduceCtorEq, Int.reduceAdd, Int.reduceSub, Int.reduceLT, Int.reduceLE, Int.reduceBEq, Int.reduceEq, Int.reduceToNat, t2], gn, hold, 0, by omega, by simp -implicitDefEqProofs (disch := (first | omega | (simp -implicitDefEqProofs only [szs, ne_eq] <;> omega) | fail)) only [go_sem, Nat.reduceAdd, Nat.reduceSub, Nat.reduceMul, Nat.reduceLT, Nat.reduceMod, Nat.reduceDiv, Nat.reduceEqDiff, Nat.reduceBEq, Nat.reduceLeDiff, ↓reduceIte, reduceCtorEq, Int.reduceAdd, Int.reduceSub, Int.reduceLT, Int.reduceLE, Int.reduceBEq, Int.reduceEq, Int.reduceToNat]; rfl⟩
    clear t0 t1 t2 t7 gn hold hi h1 hik
    clear tr g i k
    rintro k ⟨⟨n', tr⟩, mks⟩ g ⟨hmk, hn', t0, t1, t2, gn, hold, i, hik, t13⟩
    simp only [Tm.get_mk] at hmk hn' t0 t1 t2 t13
    subst hmk hn'
    by_cases hi : i < 258
    · have h1 : (i : Int) - 1 ≤ 256 := by omega
      simp -implicitDefEqProofs (disch := (first | omega | (simp -implicitDefEqProofs only [szs, ne_eq] <;> omega) | fail)) only [go_sem, Nat.reduceAdd, Nat.reduceSub, Nat.reduceMul, Nat.reduceLT, Nat.reduceMod, Nat.reduceDiv, Nat.reduceEqDiff, Nat.reduceBEq, Nat.reduceLeDiff, ↓reduceIte, reduceCtorEq, Int.reduceAdd, Int.reduceSub, Int.reduceLT, Int.reduceLE, Int.reduceBEq, Int.reduceEq, Int.reduceToNat, ir22_l3, t0, t1, t2, t13, h1]
      refine GCall.of (where_dem (ht.old hold) (fun b => .inr (hR b)) ((i : Int) - 1)) ?_
      rintro v1 g1 ⟨o1, n1, k1⟩
      have hold1 : ∀ b, b < h.n → g1.get b = h.get b := fun b hb => by rw [k1 b (by omega)]; exact hold b hb
      simp -implicitDefEqProofs (disch := (first | omega | (simp -implicitDefEqProofs only [szs, ne_eq] <;> omega) | fail)) only [go_sem, Nat.reduceAdd, Nat.reduceSub, Nat.reduceMul, Nat.reduceLT, Nat.reduceMod, Nat.reduceDiv, Nat.reduceEqDiff, Nat.reduceBEq, Nat.reduceLeDiff, ↓reduceIte, reduceCtorEq, Int.reduceAdd, Int.reduceSub, Int.reduceLT, Int.reduceLE, Int.reduceBEq, Int.reduceEq, Int.reduceToNat, t0, t1, t2, t13]
      refine GCall.of (rwhere_ok (hr.old hold1) (fun b => .inr (hR b)) ((i : Int) - 1)).any ?_
      rintro v2 g2 ⟨o2, n2, k2⟩
      have hold2 : ∀ b, b < h.n → g2.get b = h.get b := fun b hb => by rw [k2 b (by omega)]; exact hold1 b hb
      simp -implicitDefEqProofs (disch := (first | omega | (simp -implicitDefEqProofs only [szs, ne_eq] <;> omega) | fail)) only [go_sem, Nat.reduceAdd, Nat.reduceSub, Nat.reduceMul, Nat.reduceLT, Nat.reduceMod, Nat.reduceDiv, Nat.reduceEqDiff, Nat.reduceBEq, Nat.reduceLeDiff, ↓reduceIte, reduceCtorEq, Int.reduceAdd, Int.reduceSub, Int.reduceLT, Int.reduceLE, Int.reduceBEq, Int.reduceEq, Int.reduceToNat, t0, t1, t2, t13]
      refine GCall.of (count_dem (ht.old hold2) (fun b => .inr (hR b)) ((i : Int) - 1)) ?_
      rintro v g3 ⟨rfl, n3, k3⟩
      have hold3 : ∀ b, b < h.n → g3.get b = h.get b := fun b hb => by rw [k3 b (by omega)]; exact hold2 b hb
      have o1' := (o1.lr.old k2).old k3
      have o2' := o2.lr.old k3
      have hl1 := o1'.lenV Try.underlying46
      have hl2 := o2'.lenV Try.underlying46
      have hsl := spots_len T ((i : Int) - 1) 512
      have hne : ((((spots T ((i : Int) - 1) 512).length : Nat) : Int) != ((spots T ((i : Int) - 1) 512).length : Nat)) = false := by simp
      simp -implicitDefEqProofs (disch := (first | omega | (simp -implicitDefEqProofs only [szs, ne_eq] <;> omega) | fail)) only [go_sem, Nat.reduceAdd, Nat.reduceSub, Nat.reduceMul, Nat.reduceLT, Nat.reduceMod, Nat.reduceDiv, Nat.reduceEqDiff, Nat.reduceBEq, Nat.reduceLeDiff, ↓reduceIte, reduceCtorEq, Int.reduceAdd, Int.reduceSub, Int.reduceLT, Int.reduceLE, Int.reduceBEq, Int.reduceEq, Int.reduceToNat, t0, t1, t2, t13, ↓hl1, ↓hl2, hne, undefV]
      refine stands_l2 (tb := tb) (rd := rd) (leave := leave) (fr := (i : Int) - 1) o1' o2' (fun b => .inr (hR b)) (by simp -implicitDefEqProofs (disch := (first | omega | (simp -implicitDefEqProofs only [szs, ne_eq] <;> omega) | fail)) only [go_sem, Nat.reduceAdd, Nat.reduceSub, Nat.reduceMul, Nat.reduceLT, Nat.reduceMod, Nat.reduceDiv, Nat.reduceEqDiff, Nat.reduceBEq, Nat.reduceLeDiff, ↓reduceIte, reduceCtorEq, Int.reduceAdd, Int.reduceSub, Int.reduceLT, Int.reduceLE, Int.reduceBEq, Int.reduceEq, Int.reduceToNat, t0]) (by simp -implicitDefEqProofs (disch := (first | omega | (simp -implicitDefEqProofs only [szs, ne_eq] <;> omega) | fail)) only [go_sem, Nat.reduceAdd, Nat.reduceSub, Nat.reduceMul, Nat.reduceLT, Nat.reduceMod, Nat.reduceDiv, Nat.reduceEqDiff, Nat.reduceBEq, Nat.reduceLeDiff, ↓reduceIte, reduceCtorEq, Int.reduceAdd, Int.reduceSub, Int.reduceLT, Int.reduceLE, Int.reduceBEq, Int.reduceEq, Int.reduceToNat, t1]) (by simp -implicitDefEqProofs (disch := (first | omega | (simp -implicitDefEqProofs only [szs, ne_eq] <;> omega) | fail)) only [go_sem, Nat.reduceAdd, Nat.reduceSub, Nat.reduceMul, Nat.reduceLT, Nat.reduceMod, Nat.reduceDiv, Nat.reduceEqDiff, Nat.reduceBEq, Nat.reduceLeDiff, ↓reduceIte, reduceCtorEq, Int.reduceAdd, Int.reduceSub, Int.reduceLT, Int.reduceLE, Int.reduceBEq, Int.reduceEq, Int.reduceToNat, t2]) (by simp -implicitDefEqProofs (disch := (first | omega | (simp -implicitDefEqProofs only [szs, ne_eq] <;> omega) | fail)) only [go_sem, Nat.reduceAdd, Nat.reduceSub, Nat.reduceMul, Nat.reduceLT, Nat.reduceMod, Nat.reduceDiv, Nat.reduceEqDiff, Nat.reduceBEq, Nat.reduceLeDiff, ↓reduceIte, reduceCtorEq, Int.reduceAdd, Int.reduceSub, Int.reduceLT, Int.reduceLE, Int.reduceBEq, Int.reduceEq, Int.reduceToNat, t13]) (by simp -implicitDefEqProofs (disch := (first | omega | (simp -implicitDefEqProofs only [szs, ne_eq] <;> omega) | fail)) only [go_sem, Nat.reduceAdd, Nat.reduceSub, Nat.reduceMul, Nat.reduceLT, Nat.reduceMod, Nat.reduceDiv, Nat.reduceEqDiff, Nat.reduceBEq, Nat.reduceLeDiff, ↓reduceIte, reduceCtorEq, Int.reduceAdd, Int.reduceSub, Int.reduceLT, Int.reduceLE, Int.reduceBEq, Int.reduceEq, Int.reduceToNat]) (by simp -implicitDefEqProofs (disch := (first | omega | (simp -implicitDefEqProofs only [szs, ne_eq] <;> omega) | fail)) only [go_sem, Nat.reduceAdd, Nat.reduceSub, Nat.reduceMul, Nat.reduceLT, Nat.reduceMod, Nat.reduceDiv, Nat.reduceEqDiff, Nat.reduceBEq, Nat.reduceLeDiff, ↓reduceIte, reduceCtorEq, Int.reduceAdd, Int.reduceSub, Int.reduceLT, Int.reduceLE, Int.reduceBEq, Int.reduceEq, Int.reduceToNat]) (by simp -implicitDefEqProofs (disch := (first | omega | (simp -implicitDefEqProofs only [szs, ne_eq] <;> omega) | fail)) only [go_sem, Nat.reduceAdd, Nat.reduceSub, Nat.reduceMul, Nat.reduceLT, Nat.reduceMod, Nat.reduceDiv, Nat.reduceEqDiff, Nat.reduceBEq, Nat.reduceLeDiff, ↓reduceIte, reduceCtorEq, Int.reduceAdd, Int.reduceSub, Int.reduceLT, Int.reduceLE, Int.reduceBEq, Int.reduceEq, Int.reduceToNat]) (by omega) ?_
      clear t0 t1 t2 t13
      intro tr t0 t1 t2 t13
      simp -implicitDefEqProofs (disch := (first | omega | (simp -implicitDefEqProofs only [szs, ne_eq] <;> omega) | fail)) only [go_sem, Nat.reduceAdd, Nat.reduceSub, Nat.reduceMul, Nat.reduceLT, Nat.reduceMod, Nat.reduceDiv, Nat.reduceEqDiff, Nat.reduceBEq, Nat.reduceLeDiff, ↓reduceIte, reduceCtorEq, Int.reduceAdd, Int.reduceSub, Int.reduceLT, Int.reduceLE, Int.reduceBEq, Int.reduceEq, Int.reduceToNat, t0, t1, t2, t13]
      exact ⟨k - 1, by omega, by omega, hold3, i + 1, by omega, congrArg _ (by omega)⟩
    · have h1 : ¬ (i : Int) - 1 ≤ 256 := by omega
      simp -implicitDefEqProofs (disch := (first | omega | (simp -implicitDefEqProofs only [szs, ne_eq] <;> omega) | fail)) only [go_sem, Nat.reduceAdd, Nat.reduceSub, Nat.reduceMul, Nat.reduceLT, Nat.reduceMod, Nat.reduceDiv, Nat.reduceEqDiff, Nat.reduceBEq, Nat.reduceLeDiff, ↓reduceIte, reduceCtorEq, Int.reduceAdd, Int.reduceSub, Int.reduceLT, Int.reduceLE, Int.reduceBEq, Int.reduceEq, Int.reduceToNat, ir22_l3, t0, t1, t2, t13, h1]
      refine GCall.of (spaces_dem (ht.old hold) (fun b => .inr (hR b))) ?_
      rintro v1 g1 ⟨o1, n1, k1⟩
      have hold1 : ∀ b, b < h.n → g1.get b = h.get b := fun b hb => by rw [k1 b (by omega)]; exact hold b hb
      simp -implicitDefEqProofs (disch := (first | omega | (simp -implicitDefEqProofs only [szs, ne_eq] <;> omega) | fail)) only [go_sem, Nat.reduceAdd, Nat.reduceSub, Nat.reduceMul, Nat.reduceLT, Nat.reduceMod, Nat.reduceDiv, Nat.reduceEqDiff, Nat.reduceBEq, Nat.reduceLeDiff, ↓reduceIte, reduceCtorEq, Int.reduceAdd, Int.reduceSub, Int.reduceLT, Int.reduceLE, Int.reduceBEq, Int.reduceEq, Int.reduceToNat, t0, t1, t2]
      refine GCall.of (rspaces_ok (hr.old hold1) (fun b => .inr (hR b))).any ?_
      rintro v2 g2 ⟨o2, n2, k2⟩
      have hnv : ∀ l : List Nat, natV l = intV (l.map fun n : Nat => (n : Int)) := fun l => by simp [natV, intV]
      have hsl := spcs_len T 16
      have o1' := o1.lr.old k2
      have o2' := o2.lr
      rw [hnv] at o1' o2'
      simp -implicitDefEqProofs (disch := (first | omega | (simp -implicitDefEqProofs only [szs, ne_eq] <;> omega) | fail)) only [go_sem, Nat.reduceAdd, Nat.reduceSub, Nat.reduceMul, Nat.reduceLT, Nat.reduceMod, Nat.reduceDiv, Nat.reduceEqDiff, Nat.reduceBEq, Nat.reduceLeDiff, ↓reduceIte, reduceCtorEq, Int.reduceAdd, Int.reduceSub, Int.reduceLT, Int.reduceLE, Int.reduceBEq, Int.reduceEq, Int.reduceToNat, t0, t1, t2]
      refine GCall.of (sameints_ok o1' o2' (fun b => .inr (hR b)) (by rw [List.length_map]; omega) (by rw [List.length_map]; omega)).any ?_
      rintro v g3 ⟨rfl, rfl⟩
      rw [decide_eq_true rfl]
      simp -implicitDefEqProofs (disch := (first | omega | (simp -implicitDefEqProofs only [szs, ne_eq] <;> omega) | fail)) only [go_sem, Nat.reduceAdd, Nat.reduceSub, Nat.reduceMul, Nat.reduceLT, Nat.reduceMod, Nat.reduceDiv, Nat.reduceEqDiff, Nat.reduceBEq, Nat.reduceLeDiff, ↓reduceIte, reduceCtorEq, Int.reduceAdd, Int.reduceSub, Int.reduceLT, Int.reduceLE, Int.reduceBEq, Int.reduceEq, Int.reduceToNat, t0, t1, t2]
      exact ⟨by omega, fun b hb => by rw [k2 b (by omega)]; exact hold1 b hb⟩
end Go.Proofs.Ytkfhdaimememiaa
