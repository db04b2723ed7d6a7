/- Tables of pages: PagesAsks, PagesApart. -/
import Derived.Test.YtkfhdaimememiaaR
import Derived.Test.YtkfhdaimememiaaIr3
set_option linter.unusedVariables false
set_option linter.unusedSimpArgs false
set_option linter.unusedSimpArgs false
set_option maxRecDepth 100000
set_option linter.unusedVariables false
set_option linter.unusedSimpArgs false
namespace Go.Proofs.Ytkfhdaimememiaa
open Go Go.Vm
theorem st_heap (g : Heap) (x : St) : ∃ g1, (g.push (O.cells (Blk.of [V.int IntKind.i64 0, V.int IntKind.i64 0, V.int IntKind.i64 0, V.int IntKind.i64 0, V.int IntKind.i64 0, V.int IntKind.u32 0]) 30)).set g.n (O.cells (((((((Blk.of [V.int IntKind.i64 0, V.int IntKind.i64 0, V.int IntKind.i64 0, V.int IntKind.i64 0, V.int IntKind.i64 0, V.int IntKind.u32 0]).set 0 (V.int IntKind.i64 x.k)).set 1 (V.int IntKind.i64 x.a)).set 2 (V.int IntKind.i64 x.b)).set 3 (V.int IntKind.i64 x.c)).set 4 (V.int IntKind.i64 x.d)).set 5 (V.int IntKind.u32 x.ad)) 30) = g1 ∧ g1.n = g.n + 1 ∧
    (∃ d, g1.get g.n = some (.cells d 30) ∧ d.size = 6 ∧ d.ro = false ∧ d.get 0 = .int .i64 x.k ∧ d.get 1 = .int .i64 x.a ∧ d.get 2 = .int .i64 x.b ∧ d.get 3 = .int .i64 x.c ∧ d.get 4 = .int .i64 x.d ∧ d.get 5 = .int .u32 x.ad) ∧ ∀ b, b < g.n → g1.get b = g.get b := ⟨_, rfl, by simp, ⟨_, w_set_eq (by simp) rfl _, rfl, rfl, by simp -implicitDefEqProofs (disch := (first | omega | (simp -implicitDefEqProofs only [szs, ne_eq] <;> omega) | fail)) only [go_sem, Nat.reduceAdd, Nat.reduceSub, Nat.reduceMul, Nat.reduceLT, Nat.reduceMod, Nat.reduceDiv, Nat.reduceEqDiff, Nat.reduceBEq, Nat.reduceLeDiff, ↓reduceIte, reduceCtorEq, Int.reduceAdd, Int.reduceSub, Int.reduceLT, Int.reduceLE, Int.reduceBEq, Int.reduceEq, Int.reduceToNat], by simp -implicitDefEqProofs (disch := (first | omega | (simp -implicitDefEqProofs only [szs, ne_eq] <;> omega) | fail)) only [go_sem, Nat.reduceAdd, Nat.reduceSub, Nat.reduceMul, Nat.reduceLT, Nat.reduceMod, Nat.reduceDiv, Nat.reduceEqDiff, Nat.reduceBEq, Nat.reduceLeDiff, ↓reduceIte, reduceCtorEq, Int.reduceAdd, Int.reduceSub, Int.reduceLT, Int.reduceLE, Int.reduceBEq, Int.reduceEq, Int.reduceToNat], by simp -implicitDefEqProofs (disch := (first | omega | (simp -implicitDefEqProofs only [szs, ne_eq] <;> omega) | fail)) only [go_sem, Nat.reduceAdd, Nat.reduceSub, Nat.reduceMul, Nat.reduceLT, Nat.reduceMod, Nat.reduceDiv, Nat.reduceEqDiff, Nat.reduceBEq, Nat.reduceLeDiff, ↓reduceIte, reduceCtorEq, Int.reduceAdd, Int.reduceSub, Int.reduceLT, Int.reduceLE, Int.reduceBEq, Int.reduceEq, Int.reduceToNat], by simp -implicitDefEqProofs (disch := (first | omega | (simp -implicitDefEqProofs only [szs, ne_eq] <;> omega) | fail)) only [go_sem, Nat.reduceAdd, Nat.reduceSub, Nat.reduceMul, Nat.reduceLT, Nat.reduceMod, Nat.reduceDiv, Nat.reduceEqDiff, Nat.reduceBEq, Nat.reduceLeDiff, ↓reduceIte, reduceCtorEq, Int.reduceAdd, Int.reduceSub, Int.reduceLT, Int.reduceLE, Int.reduceBEq, Int.reduceEq, Int.reduceToNat], by simp -implicitDefEqProofs (disch := (first | omega | (simp -implicitDefEqProofs only [szs, ne_eq] <;> omega) | fail)) only [go_sem, Nat.reduceAdd, Nat.reduceSub, Nat.reduceMul, Nat.reduceLT, Nat.reduceMod, Nat.reduceDiv, Nat.reduceEqDiff, Nat.reduceBEq, Nat.reduceLeDiff, ↓reduceIte, reduceCtorEq, Int.reduceAdd, Int.reduceSub, Int.reduceLT, Int.reduceLE, Int.reduceBEq, Int.reduceEq, Int.reduceToNat], by simp -implicitDefEqProofs (disch := (first | omega | (simp -implicitDefEqProofs only [szs, ne_eq] <;> omega) | fail)) only [go_sem, Nat.reduceAdd, Nat.reduceSub, Nat.reduceMul, Nat.reduceLT, Nat.reduceMod, Nat.reduceDiv, Nat.reduceEqDiff, Nat.reduceBEq, Nat.reduceLeDiff, ↓reduceIte, reduceCtorEq, Int.reduceAdd, Int.reduceSub, Int.reduceLT, Int.reduceLE, Int.reduceBEq, Int.reduceEq, Int.reduceToNat]⟩, fun b hb => by simp -implicitDefEqProofs (disch := (first | omega | (simp -implicitDefEqProofs only [szs, ne_eq] <;> omega) | fail)) only [go_sem, Nat.reduceAdd, Nat.reduceSub, Nat.reduceMul, Nat.reduceLT, Nat.reduceMod, Nat.reduceDiv, Nat.reduceEqDiff, Nat.reduceBEq, Nat.reduceLeDiff, ↓reduceIte, reduceCtorEq, Int.reduceAdd, Int.reduceSub, Int.reduceLT, Int.reduceLE, Int.reduceBEq, Int.reduceEq, Int.reduceToNat]⟩
set_option maxHeartbeats 2000000 in
theorem asks_law {H : Heap} {v0 v1 : V} {m0 m1 : Nat} {S0 S1 : Nat → St} (hv0 : StepsV H v0 m0 S0) (hv1 : StepsV H v1 m1 S1) :
    SF ⟨Try.prog, true⟩ 7 [v0, v1] H (fun _ => True) (WH H) fun v _ => v = .bool true := by
  have hl1 := hv1.lenV
  have hml := hv1.len
  refine SF.go hm Try.func7 ir7_eq ?_
  simp -implicitDefEqProofs (disch := (first | omega | (simp -implicitDefEqProofs only [szs, ne_eq] <;> omega) | fail)) only [go_sem, Nat.reduceAdd, Nat.reduceSub, Nat.reduceMul, Nat.reduceLT, Nat.reduceMod, Nat.reduceDiv, Nat.reduceEqDiff, Nat.reduceBEq, Nat.reduceLeDiff, ↓reduceIte, reduceCtorEq, Int.reduceAdd, Int.reduceSub, Int.reduceLT, Int.reduceLE, Int.reduceBEq, Int.reduceEq, Int.reduceToNat, ir7]
  refine GCall.of (grown_dem hv0 (fun _ => trivial) (fun b hb => .inl hb)) ?_
  rintro v g1 ⟨tb, r, rd, T, rfl, z⟩
  simp -implicitDefEqProofs (disch := (first | omega | (simp -implicitDefEqProofs only [szs, ne_eq] <;> omega) | fail)) only [go_sem, Nat.reduceAdd, Nat.reduceSub, Nat.reduceMul, Nat.reduceLT, Nat.reduceMod, Nat.reduceDiv, Nat.reduceEqDiff, Nat.reduceBEq, Nat.reduceLeDiff, ↓reduceIte, reduceCtorEq, Int.reduceAdd, Int.reduceSub, Int.reduceLT, Int.reduceLE, Int.reduceBEq, Int.reduceEq, Int.reduceToNat, undefV]
  refine GLoop.inv hm (fun k f g => f.mks = [] ∧ f.tm.n = 49 ∧ f.tm.get 1 = some v1 ∧ ∃ (i tb r rd : Nat) (T : Tb), i + k = m1 ∧ f.tm.get 8 = some (.int .i64 i) ∧ f.tm.get 5 = some (.ptr (some (tb, 0))) ∧ f.tm.get 6 = some (.ptr (some (rd, 0))) ∧ PI H g tb r rd T) m1 ?_ ?_
  · exact ⟨rfl, rfl, by simp -implicitDefEqProofs (disch := (first | omega | (simp -implicitDefEqProofs only [szs, ne_eq] <;> omega) | fail)) only [go_sem, Nat.reduceAdd, Nat.reduceSub, Nat.reduceMul, Nat.reduceLT, Nat.reduceMod, Nat.reduceDiv, Nat.reduceEqDiff, Nat.reduceBEq, Nat.reduceLeDiff, ↓reduceIte, reduceCtorEq, Int.reduceAdd, Int.reduceSub, Int.reduceLT, Int.reduceLE, Int.reduceBEq, Int.reduceEq, Int.reduceToNat], 0, tb, r, rd, T, by omega, by simp -implicitDefEqProofs (disch := (first | omega | (simp -implicitDefEqProofs only [szs, ne_eq] <;> omega) | fail)) only [go_sem, Nat.reduceAdd, Nat.reduceSub, Nat.reduceMul, Nat.reduceLT, Nat.reduceMod, Nat.reduceDiv, Nat.reduceEqDiff, Nat.reduceBEq, Nat.reduceLeDiff, ↓reduceIte, reduceCtorEq, Int.reduceAdd, Int.reduceSub, Int.reduceLT, Int.reduceLE, Int.reduceBEq, Int.reduceEq, Int.reduceToNat]; rfl, by simp -implicitDefEqProofs (disch := (first | omega | (simp -implicitDefEqProofs only [szs, ne_eq] <;> omega) | fail)) only [go_sem, Nat.reduceAdd, Nat.reduceSub, Nat.reduceMul, Nat.reduceLT, Nat.reduceMod, Nat.reduceDiv, Nat.reduceEqDiff, Nat.reduceBEq, Nat.reduceLeDiff, ↓reduceIte, reduceCtorEq, Int.reduceAdd, Int.reduceSub, Int.reduceLT, Int.reduceLE, Int.reduceBEq, Int.reduceEq, Int.reduceToNat], by simp -implicitDefEqProofs (disch := (first | omega | (simp -implicitDefEqProofs only [szs, ne_eq] <;> omega) | fail)) only [go_sem, Nat.reduceAdd, Nat.reduceSub, Nat.reduceMul, Nat.reduceLT, Nat.reduceMod, Nat.reduceDiv, Nat.reduceEqDiff, Nat.reduceBEq, Nat.reduceLeDiff, ↓reduceIte, reduceCtorEq, Int.reduceAdd, Int.reduceSub, Int.reduceLT, Int.reduceLE, Int.reduceBEq, Int.reduceEq, Int.reduceToNat], z⟩
  clear z
  clear T rd r tb g1
  rintro k ⟨⟨n', tr⟩, mks⟩ g ⟨hmk, hn', u1, i, tb, r, rd, T, hik, t8, t5, t6, z⟩
  simp only [Tm.get_mk] at hmk hn' u1 t8 t5 t6
  subst hmk hn'
  by_cases hi : i < m1 ∧ i < 100
  · have p1 : (i : Int) < (m1 : Int) := by omega
    have p2 : (i : Int) < 100 := by omega
    rcases hv1.at' with ⟨h0, _⟩ | ⟨b, o, cap, c, ce, rfl, hb, hsz, hcc⟩
    · omega
    obtain ⟨c0, c1, c2, c3, c4, c5, c6⟩ := hcc i hi.1
    have hb1 := (z.old b (Heap.lt_of_get hb)).trans hb
    have p0 : (0 : Int) ≤ (i : Int) := by omega
    obtain ⟨g1, e1, n1, ⟨d, bd, ds, dr, d0, d1, d2, d3, d4, d5⟩, k1⟩ := st_heap g (S1 i)
    have hzn := z.n
    simp -implicitDefEqProofs (disch := (first | omega | (simp -implicitDefEqProofs only [szs, ne_eq] <;> omega) | fail)) only [go_sem, Nat.reduceAdd, Nat.reduceSub, Nat.reduceMul, Nat.reduceLT, Nat.reduceMod, Nat.reduceDiv, Nat.reduceEqDiff, Nat.reduceBEq, Nat.reduceLeDiff, ↓reduceIte, reduceCtorEq, Int.reduceAdd, Int.reduceSub, Int.reduceLT, Int.reduceLE, Int.reduceBEq, Int.reduceEq, Int.reduceToNat, ir7_l0, u1, t5, t6, t8, ↓hl1, p0, p1, p2, undefV, hb1, c0, c1, c2, c3, c4, c5, e1, bd, ds, dr, d0, d1, d2, d3, d4, d5]
    have hgl := Heap.lt_of_get bd
    have z1 : PI H (g1.set g.n (O.cells (d.set 0 (V.int IntKind.i64 4)) 30)) tb r rd T := z.old' (by rw [Heap.n_set]; omega) fun b hb => by rw [w_set_ne hgl (by omega)]; exact k1 b hb
    repeat (refine ⟨Or.inl (by omega), ?_⟩)
    refine GCall.of (z1.do (fun b => trivial) (fun b hb => .inl hb) ⟨4, (S1 i).a, (S1 i).b, (S1 i).c, (S1 i).d, (S1 i).ad⟩ c6) ?_
    rintro v g' ⟨tb', r', rfl, z'⟩
    simp -implicitDefEqProofs (disch := (first | omega | (simp -implicitDefEqProofs only [szs, ne_eq] <;> omega) | fail)) only [go_sem, Nat.reduceAdd, Nat.reduceSub, Nat.reduceMul, Nat.reduceLT, Nat.reduceMod, Nat.reduceDiv, Nat.reduceEqDiff, Nat.reduceBEq, Nat.reduceLeDiff, ↓reduceIte, reduceCtorEq, Int.reduceAdd, Int.reduceSub, Int.reduceLT, Int.reduceLE, Int.reduceBEq, Int.reduceEq, Int.reduceToNat, u1, t5, t6, t8, undefV]
    exact ⟨k - 1, by omega, i + 1, tb', r', rd, _, by omega, by simp, rfl, rfl, z'⟩
  · by_cases hi1 : i < m1
    · have p1 : (i : Int) < (m1 : Int) := by omega
      have p2 : ¬ (i : Int) < 100 := by omega
      simp -implicitDefEqProofs (disch := (first | omega | (simp -implicitDefEqProofs only [szs, ne_eq] <;> omega) | fail)) only [go_sem, Nat.reduceAdd, Nat.reduceSub, Nat.reduceMul, Nat.reduceLT, Nat.reduceMod, Nat.reduceDiv, Nat.reduceEqDiff, Nat.reduceBEq, Nat.reduceLeDiff, ↓reduceIte, reduceCtorEq, Int.reduceAdd, Int.reduceSub, Int.reduceLT, Int.reduceLE, Int.reduceBEq, Int.reduceEq, Int.reduceToNat, ir7_l0, u1, t5, t6, t8, ↓hl1, p1, p2, undefV]
      refine GCall.of (stands_dem z.t z.p (fun _ => trivial) 0) ?_
      rintro v g3 ⟨rfl, n3, k3⟩
      simp -implicitDefEqProofs (disch := (first | omega | (simp -implicitDefEqProofs only [szs, ne_eq] <;> omega) | fail)) only [go_sem, Nat.reduceAdd, Nat.reduceSub, Nat.reduceMul, Nat.reduceLT, Nat.reduceMod, Nat.reduceDiv, Nat.reduceEqDiff, Nat.reduceBEq, Nat.reduceLeDiff, ↓reduceIte, reduceCtorEq, Int.reduceAdd, Int.reduceSub, Int.reduceLT, Int.reduceLE, Int.reduceBEq, Int.reduceEq, Int.reduceToNat, undefV]
      refine GCall.of (known_dem (fun _ => trivial)) ?_
      rintro v g6 rfl
      simp -implicitDefEqProofs (disch := (first | omega | (simp -implicitDefEqProofs only [szs, ne_eq] <;> omega) | fail)) only [go_sem, Nat.reduceAdd, Nat.reduceSub, Nat.reduceMul, Nat.reduceLT, Nat.reduceMod, Nat.reduceDiv, Nat.reduceEqDiff, Nat.reduceBEq, Nat.reduceLeDiff, ↓reduceIte, reduceCtorEq, Int.reduceAdd, Int.reduceSub, Int.reduceLT, Int.reduceLE, Int.reduceBEq, Int.reduceEq, Int.reduceToNat, undefV]
    · have p1 : ¬ (i : Int) < (m1 : Int) := by omega
      simp -implicitDefEqProofs (disch := (first | omega | (simp -implicitDefEqProofs only [szs, ne_eq] <;> omega) | fail)) only [go_sem, Nat.reduceAdd, Nat.reduceSub, Nat.reduceMul, Nat.reduceLT, Nat.reduceMod, Nat.reduceDiv, Nat.reduceEqDiff, Nat.reduceBEq, Nat.reduceLeDiff, ↓reduceIte, reduceCtorEq, Int.reduceAdd, Int.reduceSub, Int.reduceLT, Int.reduceLE, Int.reduceBEq, Int.reduceEq, Int.reduceToNat, ir7_l0, u1, t5, t6, t8, ↓hl1, p1, undefV]
      refine GCall.of (stands_dem z.t z.p (fun _ => trivial) 0) ?_
      rintro v g3 ⟨rfl, n3, k3⟩
      simp -implicitDefEqProofs (disch := (first | omega | (simp -implicitDefEqProofs only [szs, ne_eq] <;> omega) | fail)) only [go_sem, Nat.reduceAdd, Nat.reduceSub, Nat.reduceMul, Nat.reduceLT, Nat.reduceMod, Nat.reduceDiv, Nat.reduceEqDiff, Nat.reduceBEq, Nat.reduceLeDiff, ↓reduceIte, reduceCtorEq, Int.reduceAdd, Int.reduceSub, Int.reduceLT, Int.reduceLE, Int.reduceBEq, Int.reduceEq, Int.reduceToNat, undefV]
      refine GCall.of (known_dem (fun _ => trivial)) ?_
      rintro v g6 rfl
      simp -implicitDefEqProofs (disch := (first | omega | (simp -implicitDefEqProofs only [szs, ne_eq] <;> omega) | fail)) only [go_sem, Nat.reduceAdd, Nat.reduceSub, Nat.reduceMul, Nat.reduceLT, Nat.reduceMod, Nat.reduceDiv, Nat.reduceEqDiff, Nat.reduceBEq, Nat.reduceLeDiff, ↓reduceIte, reduceCtorEq, Int.reduceAdd, Int.reduceSub, Int.reduceLT, Int.reduceLE, Int.reduceBEq, Int.reduceEq, Int.reduceToNat, undefV]
/-- A step in a space changes no other one. -/
theorem st_row {T : Tb} {x : St} (h6 : x.k ≠ 6) {s p : Nat} (hs : s ≠ x.a.toNat) : stT T x s p = T s p := by
  have hu : ∀ (q : Nat) (c : Ce), (T.upd x.a.toNat q c) s p = T s p := fun q c => by unfold Tb.upd; rw [if_neg (fun h => hs h.1)]
  unfold stT
  split
  · unfold putT; split
    · exact hu _ _
    · rfl
  split
  · unfold clrT; split
    · exact hu _ _
    · rfl
  split
  · unfold rgtT; split
    · exact hu _ _
    · rfl
  split
  · unfold askT; split
    · exact hu _ _
    · rfl
  split
  · unfold clnT; split
    · exact hu _ _
    · rfl
  split
  · unfold drT; split
    · unfold clU; rw [if_neg (fun h => hs h.1)]
    · rfl
  · rfl
def rowsEq (T T' : Tb) : Prop := ∀ s p, s ≠ 3 → T s p = T' s p
theorem getC_row {T T' : Tb} (h : rowsEq T T') {s p : Int} (h0 : 0 ≤ s) (hs : s ≠ 3) : getC T s p = getC T' s p := by
  unfold getC
  split
  · exact h _ _ (by omega)
  · rfl
theorem apart_cmp {H g : Heap} {Q : Ex → Fr → Heap → Prop} {t : List It} {tb r wb wr : Nat} {T T' : Tb} (ht : TabAt H tb r T) (hw : TabAt H wb wr T') (hT : rowsEq T T') {W : Set'} (hW : ∀ b, H.n ≤ b → W b) {tr : Tr V} {mks : List Nat} (gn : H.n ≤ g.n) (hold : ∀ b, b < H.n → g.get b = H.get b) (s : Nat)
    (u5 : tr.get 5 = some (.ptr (some (tb, 0)))) (u8 : tr.get 8 = some (.ptr (some (wb, 0)))) (u11 : tr.get 11 = some (.int .i64 s)) (u12 : tr.get 12 = some (.int .i64 0))
    (hk : ∀ (tr : Tr V) g', H.n ≤ g'.n → (∀ b, b < H.n → g'.get b = H.get b) → tr.get 5 = some (.ptr (some (tb, 0))) → tr.get 8 = some (.ptr (some (wb, 0))) → tr.get 11 = some (.int .i64 s) → resume ⟨Try.prog, true⟩ (fun _ => True) W none Q t (.exit 4) ⟨⟨89, tr⟩, mks⟩ g') :
    GLoop ⟨Try.prog, true⟩ (fun _ => True) W none Q ir3_l1 t ⟨⟨89, tr⟩, mks⟩ g := by
  refine GLoop.inv hm (fun k f g => f.mks = mks ∧ f.tm.n = 89 ∧ f.tm.get 5 = some (.ptr (some (tb, 0))) ∧ f.tm.get 8 = some (.ptr (some (wb, 0))) ∧ f.tm.get 11 = some (.int .i64 s) ∧ H.n ≤ g.n ∧ (∀ b, b < H.n → g.get b = H.get b) ∧ ∃ i : Nat, i + k = 32 ∧ f.tm.get 12 = some (.int .i64 i)) 32 ?_ ?_
  · exact ⟨rfl, rfl, u5, u8, u11, gn, hold, 0, by omega, u12⟩
  clear u5 u8 u11 u12 gn hold
  clear g tr
  rintro k ⟨⟨n', tr⟩, mks'⟩ g ⟨hmk, hn', t5, t8, t11, gn, hold, i, hik, t12⟩
  simp only [Tm.get_mk] at hmk hn' t5 t8 t11 t12
  subst hmk hn'
  by_cases hi : i < 32
  · have h1 : (i : Int) < 32 := by omega
    by_cases h3 : s = 3
    · have hq : ((s : Int) != 3) = false := by simp [h3]
      simp -implicitDefEqProofs (disch := (first | omega | (simp -implicitDefEqProofs only [szs, ne_eq] <;> omega) | fail)) only [go_sem, Nat.reduceAdd, Nat.reduceSub, Nat.reduceMul, Nat.reduceLT, Nat.reduceMod, Nat.reduceDiv, Nat.reduceEqDiff, Nat.reduceBEq, Nat.reduceLeDiff, ↓reduceIte, reduceCtorEq, Int.reduceAdd, Int.reduceSub, Int.reduceLT, Int.reduceLE, Int.reduceBEq, Int.reduceEq, Int.reduceToNat, ir3_l1, t5, t8, t11, t12, h1, hq, undefV]
      exact hk _ _ gn hold (by simp -implicitDefEqProofs (disch := (first | omega | (simp -implicitDefEqProofs only [szs, ne_eq] <;> omega) | fail)) only [go_sem, Nat.reduceAdd, Nat.reduceSub, Nat.reduceMul, Nat.reduceLT, Nat.reduceMod, Nat.reduceDiv, Nat.reduceEqDiff, Nat.reduceBEq, Nat.reduceLeDiff, ↓reduceIte, reduceCtorEq, Int.reduceAdd, Int.reduceSub, Int.reduceLT, Int.reduceLE, Int.reduceBEq, Int.reduceEq, Int.reduceToNat, t5]) (by simp -implicitDefEqProofs (disch := (first | omega | (simp -implicitDefEqProofs only [szs, ne_eq] <;> omega) | fail)) only [go_sem, Nat.reduceAdd, Nat.reduceSub, Nat.reduceMul, Nat.reduceLT, Nat.reduceMod, Nat.reduceDiv, Nat.reduceEqDiff, Nat.reduceBEq, Nat.reduceLeDiff, ↓reduceIte, reduceCtorEq, Int.reduceAdd, Int.reduceSub, Int.reduceLT, Int.reduceLE, Int.reduceBEq, Int.reduceEq, Int.reduceToNat, t8]) (by simp -implicitDefEqProofs (disch := (first | omega | (simp -implicitDefEqProofs only [szs, ne_eq] <;> omega) | fail)) only [go_sem, Nat.reduceAdd, Nat.reduceSub, Nat.reduceMul, Nat.reduceLT, Nat.reduceMod, Nat.reduceDiv, Nat.reduceEqDiff, Nat.reduceBEq, Nat.reduceLeDiff, ↓reduceIte, reduceCtorEq, Int.reduceAdd, Int.reduceSub, Int.reduceLT, Int.reduceLE, Int.reduceBEq, Int.reduceEq, Int.reduceToNat, t11])
    · have hq : ((s : Int) != 3) = true := by simpa using (show (s : Int) ≠ 3 by omega)
      simp -implicitDefEqProofs (disch := (first | omega | (simp -implicitDefEqProofs only [szs, ne_eq] <;> omega) | fail)) only [go_sem, Nat.reduceAdd, Nat.reduceSub, Nat.reduceMul, Nat.reduceLT, Nat.reduceMod, Nat.reduceDiv, Nat.reduceEqDiff, Nat.reduceBEq, Nat.reduceLeDiff, ↓reduceIte, reduceCtorEq, Int.reduceAdd, Int.reduceSub, Int.reduceLT, Int.reduceLE, Int.reduceBEq, Int.reduceEq, Int.reduceToNat, ir3_l1, t5, t8, t11, t12, h1, hq, undefV]
      refine GCall.of (get_ok (ht.old hold) trivial (s : Int) (i : Int)).any ?_
      rintro v g1 ⟨rfl, n1, k1⟩
      obtain ⟨g2, e2, n2, ⟨d, b2, db, d0, d1, d2, d3⟩, k2⟩ := ent_heap g1 (getC T (s : Int) (i : Int))
      have hg := getC_row hT (s := (s : Int)) (p := (i : Int)) (by omega) (by omega)
      generalize hx : getC T (s : Int) (i : Int) = x at *
      have hW1 := hW g1.n (by omega)
      have hw2 : TabAt g2 wb wr T' := (hw.old hold).old fun b hb => by rw [k2 b (by omega), k1 b (by omega)]
      simp -implicitDefEqProofs (disch := (first | omega | (simp -implicitDefEqProofs only [szs, ne_eq] <;> omega) | fail)) only [go_sem, Nat.reduceAdd, Nat.reduceSub, Nat.reduceMul, Nat.reduceLT, Nat.reduceMod, Nat.reduceDiv, Nat.reduceEqDiff, Nat.reduceBEq, Nat.reduceLeDiff, ↓reduceIte, reduceCtorEq, Int.reduceAdd, Int.reduceSub, Int.reduceLT, Int.reduceLE, Int.reduceBEq, Int.reduceEq, Int.reduceToNat, Ce.v, e2, hW1, t5, t8, t11, t12]
      refine GCall.of (get_ok hw2 trivial (s : Int) (i : Int)).any ?_
      rintro v g3 ⟨rfl, n3, k3⟩
      rw [← hg]
      obtain ⟨g4, e4, n4, ⟨d', b4, db', d0', d1', d2', d3'⟩, k4⟩ := ent_heap g3 x
      have hW3 := hW g3.n (by omega)
      have b2' := (k4 g1.n (by omega)).trans ((k3 g1.n (by omega)).trans b2)
      have heq := ent_eq x
      have hbb : (x.isSome != x.isSome) = false := by cases x.isSome <;> rfl
      simp -implicitDefEqProofs (disch := (first | omega | (simp -implicitDefEqProofs only [szs, ne_eq] <;> omega) | fail)) only [go_sem, Nat.reduceAdd, Nat.reduceSub, Nat.reduceMul, Nat.reduceLT, Nat.reduceMod, Nat.reduceDiv, Nat.reduceEqDiff, Nat.reduceBEq, Nat.reduceLeDiff, ↓reduceIte, reduceCtorEq, Int.reduceAdd, Int.reduceSub, Int.reduceLT, Int.reduceLE, Int.reduceBEq, Int.reduceEq, Int.reduceToNat, Ce.v, e4, hW3, t5, t8, t11, t12, b2', db, d0, d1, d2, d3, b4, db', d0', d1', d2', d3', ↓eg_34, heq, undefV, hbb]
      exact ⟨k - 1, by omega, by omega, fun b hb => by rw [k4 b (by omega), k3 b (by omega), k2 b (by omega), k1 b (by omega)]; exact hold b hb, i + 1, by omega, by simp⟩
  · have h1 : ¬ (i : Int) < 32 := by omega
    simp -implicitDefEqProofs (disch := (first | omega | (simp -implicitDefEqProofs only [szs, ne_eq] <;> omega) | fail)) only [go_sem, Nat.reduceAdd, Nat.reduceSub, Nat.reduceMul, Nat.reduceLT, Nat.reduceMod, Nat.reduceDiv, Nat.reduceEqDiff, Nat.reduceBEq, Nat.reduceLeDiff, ↓reduceIte, reduceCtorEq, Int.reduceAdd, Int.reduceSub, Int.reduceLT, Int.reduceLE, Int.reduceBEq, Int.reduceEq, Int.reduceToNat, ir3_l1, t5, t8, t11, t12, h1, undefV]
    exact hk _ _ gn hold (by simp -implicitDefEqProofs (disch := (first | omega | (simp -implicitDefEqProofs only [szs, ne_eq] <;> omega) | fail)) only [go_sem, Nat.reduceAdd, Nat.reduceSub, Nat.reduceMul, Nat.reduceLT, Nat.reduceMod, Nat.reduceDiv, Nat.reduceEqDiff, Nat.reduceBEq, Nat.reduceLeDiff, ↓reduceIte, reduceCtorEq, Int.reduceAdd, Int.reduceSub, Int.reduceLT, Int.reduceLE, Int.reduceBEq, Int.reduceEq, Int.reduceToNat, t5]) (by simp -implicitDefEqProofs (disch := (first | omega | (simp -implicitDefEqProofs only [szs, ne_eq] <;> omega) | fail)) only [go_sem, Nat.reduceAdd, Nat.reduceSub, Nat.reduceMul, Nat.reduceLT, Nat.reduceMod, Nat.reduceDiv, Nat.reduceEqDiff, Nat.reduceBEq, Nat.reduceLeDiff, ↓reduceIte, reduceCtorEq, Int.reduceAdd, Int.reduceSub, Int.reduceLT, Int.reduceLE, Int.reduceBEq, Int.reduceEq, Int.reduceToNat, t8]) (by simp -implicitDefEqProofs (disch := (first | omega | (simp -implicitDefEqProofs only [szs, ne_eq] <;> omega) | fail)) only [go_sem, Nat.reduceAdd, Nat.reduceSub, Nat.reduceMul, Nat.reduceLT, Nat.reduceMod, Nat.reduceDiv, Nat.reduceEqDiff, Nat.reduceBEq, Nat.reduceLeDiff, ↓reduceIte, reduceCtorEq, Int.reduceAdd, Int.reduceSub, Int.reduceLT, Int.reduceLE, Int.reduceBEq, Int.reduceEq, Int.reduceToNat, t11])
/-- Where the two tables stand, in PagesApart. -/
structure AI (H g : Heap) (tb r wb wr : Nat) (T T' : Tb) : Prop where
  t : TabAt g tb r T
  c : TabAt g wb wr T'
  e : rowsEq T T'
  lo : H.n ≤ tb ∧ H.n ≤ r
  ne : wb ≠ tb ∧ wb ≠ r ∧ wr ≠ tb ∧ wr ≠ r
  n : H.n ≤ g.n
  old : ∀ b, b < H.n → g.get b = H.get b
theorem AI.old' {H g g' : Heap} {tb r wb wr : Nat} {T T' : Tb} (z : AI H g tb r wb wr T T') (hn : g.n ≤ g'.n) (hk : ∀ b, b < g.n → g'.get b = g.get b) : AI H g' tb r wb wr T T' :=
  ⟨z.t.old hk, z.c.old hk, z.e, z.lo, z.ne, by have := z.n; omega, fun b hb => by rw [hk b (by have := z.n; omega)]; exact z.old b hb⟩
set_option maxHeartbeats 4000000 in
theorem apart_law {H : Heap} {v0 v1 : V} {m0 m1 : Nat} {S0 S1 : Nat → St} (hv0 : StepsV H v0 m0 S0) (hv1 : StepsV H v1 m1 S1) :
    SF ⟨Try.prog, true⟩ 3 [v0, v1] H (fun _ => True) (WH H) fun v _ => v = .bool true := by
  have hl1 := hv1.lenV
  have hml := hv1.len
  refine SF.go hm Try.func3 ir3_eq ?_
  simp -implicitDefEqProofs (disch := (first | omega | (simp -implicitDefEqProofs only [szs, ne_eq] <;> omega) | fail)) only [go_sem, Nat.reduceAdd, Nat.reduceSub, Nat.reduceMul, Nat.reduceLT, Nat.reduceMod, Nat.reduceDiv, Nat.reduceEqDiff, Nat.reduceBEq, Nat.reduceLeDiff, ↓reduceIte, reduceCtorEq, Int.reduceAdd, Int.reduceSub, Int.reduceLT, Int.reduceLE, Int.reduceBEq, Int.reduceEq, Int.reduceToNat, ir3]
  refine GCall.of (grown_dem hv0 (fun _ => trivial) (fun b hb => .inl hb)) ?_
  rintro v g1 ⟨tb, r, rd, T, rfl, z⟩
  simp -implicitDefEqProofs (disch := (first | omega | (simp -implicitDefEqProofs only [szs, ne_eq] <;> omega) | fail)) only [go_sem, Nat.reduceAdd, Nat.reduceSub, Nat.reduceMul, Nat.reduceLT, Nat.reduceMod, Nat.reduceDiv, Nat.reduceEqDiff, Nat.reduceBEq, Nat.reduceLeDiff, ↓reduceIte, reduceCtorEq, Int.reduceAdd, Int.reduceSub, Int.reduceLT, Int.reduceLE, Int.reduceBEq, Int.reduceEq, Int.reduceToNat, undefV]
  refine GCall.of (copy_dem z.t (fun _ => trivial)) ?_
  rintro v g2 ⟨rfl, hc, n2, k2⟩
  have hlt := z.t.lt
  have hzlo := z.lo
  have a0 : AI H g2 tb r (g1.n + 1) g1.n T T := ⟨z.t.old k2, hc, fun _ _ _ => rfl, by omega, by omega, by have := z.n; omega, fun b hb => by rw [k2 b (by have := z.n; omega)]; exact z.old b hb⟩
  generalize g1.n + 1 = wb at *
  generalize g1.n = wr at *
  simp -implicitDefEqProofs (disch := (first | omega | (simp -implicitDefEqProofs only [szs, ne_eq] <;> omega) | fail)) only [go_sem, Nat.reduceAdd, Nat.reduceSub, Nat.reduceMul, Nat.reduceLT, Nat.reduceMod, Nat.reduceDiv, Nat.reduceEqDiff, Nat.reduceBEq, Nat.reduceLeDiff, ↓reduceIte, reduceCtorEq, Int.reduceAdd, Int.reduceSub, Int.reduceLT, Int.reduceLE, Int.reduceBEq, Int.reduceEq, Int.reduceToNat, undefV]
  refine GLoop.inv hm (fun k f g => f.mks = [] ∧ f.tm.n = 89 ∧ f.tm.get 1 = some v1 ∧ f.tm.get 5 = some (.ptr (some (tb, 0))) ∧ f.tm.get 8 = some (.ptr (some (wb, 0))) ∧ ∃ (i : Nat) (T1 : Tb), i + k = m1 ∧ f.tm.get 9 = some (.int .i64 i) ∧ AI H g tb r wb wr T1 T) m1 ?_ ?_
  · exact ⟨rfl, rfl, by simp -implicitDefEqProofs (disch := (first | omega | (simp -implicitDefEqProofs only [szs, ne_eq] <;> omega) | fail)) only [go_sem, Nat.reduceAdd, Nat.reduceSub, Nat.reduceMul, Nat.reduceLT, Nat.reduceMod, Nat.reduceDiv, Nat.reduceEqDiff, Nat.reduceBEq, Nat.reduceLeDiff, ↓reduceIte, reduceCtorEq, Int.reduceAdd, Int.reduceSub, Int.reduceLT, Int.reduceLE, Int.reduceBEq, Int.reduceEq, Int.reduceToNat], by simp -implicitDefEqProofs (disch := (first | omega | (simp -implicitDefEqProofs only [szs, ne_eq] <;> omega) | fail)) only [go_sem, Nat.reduceAdd, Nat.reduceSub, Nat.reduceMul, Nat.reduceLT, Nat.reduceMod, Nat.reduceDiv, Nat.reduceEqDiff, Nat.reduceBEq, Nat.reduceLeDiff, ↓reduceIte, reduceCtorEq, Int.reduceAdd, Int.reduceSub, Int.reduceLT, Int.reduceLE, Int.reduceBEq, Int.reduceEq, Int.reduceToNat], by simp -implicitDefEqProofs (disch := (first | omega | (simp -implicitDefEqProofs only [szs, ne_eq] <;> omega) | fail)) only [go_sem, Nat.reduceAdd, Nat.reduceSub, Nat.reduceMul, Nat.reduceLT, Nat.reduceMod, Nat.reduceDiv, Nat.reduceEqDiff, Nat.reduceBEq, Nat.reduceLeDiff, ↓reduceIte, reduceCtorEq, Int.reduceAdd, Int.reduceSub, Int.reduceLT, Int.reduceLE, Int.reduceBEq, Int.reduceEq, Int.reduceToNat], 0, T, by omega, by simp -implicitDefEqProofs (disch := (first | omega | (simp -implicitDefEqProofs only [szs, ne_eq] <;> omega) | fail)) only [go_sem, Nat.reduceAdd, Nat.reduceSub, Nat.reduceMul, Nat.reduceLT, Nat.reduceMod, Nat.reduceDiv, Nat.reduceEqDiff, Nat.reduceBEq, Nat.reduceLeDiff, ↓reduceIte, reduceCtorEq, Int.reduceAdd, Int.reduceSub, Int.reduceLT, Int.reduceLE, Int.reduceBEq, Int.reduceEq, Int.reduceToNat]; rfl, a0⟩
  clear a0 hc k2 n2
  clear g2
  rintro k ⟨⟨n', tr⟩, mks⟩ g ⟨hmk, hn', u1, t5, t8, i, T1, hik, t9, a⟩
  simp only [Tm.get_mk] at hmk hn' u1 t5 t8 t9
  subst hmk hn'
  have hend : ∀ (tr : Tr V), tr.get 5 = some (.ptr (some (tb, 0))) → tr.get 8 = some (.ptr (some (wb, 0))) → tr.get 11 = some (.int .i64 0) → GLoop ⟨Try.prog, true⟩ (fun _ => True) (fun b => H.n ≤ b ∨ WH H b) none (Vm.Fin ⟨Try.prog, true⟩ (fun _ => True) (fun b => H.n ≤ b ∨ WH H b) [ResultVar.tmp 4] fun v x => v = V.bool true) ir3_l2 [It.blk 2, It.code ((LC.ops [⟨some 88, Op.call { callee := Callee.value (Operand.func 14), args := #[], argTypes := #[] }, none⟩, ⟨some 4, Op.assign (Operand.tmp 88), none⟩]).seq LC.ret)] ⟨⟨89, tr⟩, []⟩ g := by
    intro tr q5 q8 q11
    refine GLoop.inv hm (fun k f g' => f.mks = [] ∧ f.tm.n = 89 ∧ f.tm.get 5 = some (.ptr (some (tb, 0))) ∧ f.tm.get 8 = some (.ptr (some (wb, 0))) ∧ g.n ≤ g'.n ∧ (∀ b, b < g.n → g'.get b = g.get b) ∧ ∃ s : Nat, s + k = 16 ∧ f.tm.get 11 = some (.int .i64 s)) 16 ?_ ?_
    · exact ⟨rfl, rfl, q5, q8, Nat.le_refl _, fun _ _ => rfl, 0, by omega, q11⟩
    clear q5 q8 q11
    clear tr
    rintro k ⟨⟨n', tr⟩, mks⟩ g' ⟨hmk, hn', t5, t8, gn, hold, s, hsk, t11⟩
    simp only [Tm.get_mk] at hmk hn' t5 t8 t11
    subst hmk hn'
    by_cases hs : s < 16
    · have h1 : (s : Int) < 16 := by omega
      have han := a.n
      simp -implicitDefEqProofs (disch := (first | omega | (simp -implicitDefEqProofs only [szs, ne_eq] <;> omega) | fail)) only [go_sem, Nat.reduceAdd, Nat.reduceSub, Nat.reduceMul, Nat.reduceLT, Nat.reduceMod, Nat.reduceDiv, Nat.reduceEqDiff, Nat.reduceBEq, Nat.reduceLeDiff, ↓reduceIte, reduceCtorEq, Int.reduceAdd, Int.reduceSub, Int.reduceLT, Int.reduceLE, Int.reduceBEq, Int.reduceEq, Int.reduceToNat, ir3_l2, t5, t8, t11, h1]
      refine apart_cmp a.t a.c a.e (fun b hb => .inl (by omega)) gn hold s (by simp -implicitDefEqProofs (disch := (first | omega | (simp -implicitDefEqProofs only [szs, ne_eq] <;> omega) | fail)) only [go_sem, Nat.reduceAdd, Nat.reduceSub, Nat.reduceMul, Nat.reduceLT, Nat.reduceMod, Nat.reduceDiv, Nat.reduceEqDiff, Nat.reduceBEq, Nat.reduceLeDiff, ↓reduceIte, reduceCtorEq, Int.reduceAdd, Int.reduceSub, Int.reduceLT, Int.reduceLE, Int.reduceBEq, Int.reduceEq, Int.reduceToNat, t5]) (by simp -implicitDefEqProofs (disch := (first | omega | (simp -implicitDefEqProofs only [szs, ne_eq] <;> omega) | fail)) only [go_sem, Nat.reduceAdd, Nat.reduceSub, Nat.reduceMul, Nat.reduceLT, Nat.reduceMod, Nat.reduceDiv, Nat.reduceEqDiff, Nat.reduceBEq, Nat.reduceLeDiff, ↓reduceIte, reduceCtorEq, Int.reduceAdd, Int.reduceSub, Int.reduceLT, Int.reduceLE, Int.reduceBEq, Int.reduceEq, Int.reduceToNat, t8]) (by simp -implicitDefEqProofs (disch := (first | omega | (simp -implicitDefEqProofs only [szs, ne_eq] <;> omega) | fail)) only [go_sem, Nat.reduceAdd, Nat.reduceSub, Nat.reduceMul, Nat.reduceLT, Nat.reduceMod, Nat.reduceDiv, Nat.reduceEqDiff, Nat.reduceBEq, Nat.reduceLeDiff, ↓reduceIte, reduceCtorEq, Int.reduceAdd, Int.reduceSub, Int.reduceLT, Int.reduceLE, Int.reduceBEq, Int.reduceEq, Int.reduceToNat, t11]) (by simp -implicitDefEqProofs (disch := (first | omega | (simp -implicitDefEqProofs only [szs, ne_eq] <;> omega) | fail)) only [go_sem, Nat.reduceAdd, Nat.reduceSub, Nat.reduceMul, Nat.reduceLT, Nat.reduceMod, Nat.reduceDiv, Nat.reduceEqDiff, Nat.reduceBEq, Nat.reduceLeDiff, ↓reduceIte, reduceCtorEq, Int.reduceAdd, Int.reduceSub, Int.reduceLT, Int.reduceLE, Int.reduceBEq, Int.reduceEq, Int.reduceToNat]) ?_
      clear t5 t8 t11
      intro tr g3 n3 k3 t5 t8 t11
      simp -implicitDefEqProofs (disch := (first | omega | (simp -implicitDefEqProofs only [szs, ne_eq] <;> omega) | fail)) only [go_sem, Nat.reduceAdd, Nat.reduceSub, Nat.reduceMul, Nat.reduceLT, Nat.reduceMod, Nat.reduceDiv, Nat.reduceEqDiff, Nat.reduceBEq, Nat.reduceLeDiff, ↓reduceIte, reduceCtorEq, Int.reduceAdd, Int.reduceSub, Int.reduceLT, Int.reduceLE, Int.reduceBEq, Int.reduceEq, Int.reduceToNat, t5, t8, t11]
      exact ⟨k - 1, by omega, n3, k3, s + 1, by omega, by simp⟩
    · have h1 : ¬ (s : Int) < 16 := by omega
      simp -implicitDefEqProofs (disch := (first | omega | (simp -implicitDefEqProofs only [szs, ne_eq] <;> omega) | fail)) only [go_sem, Nat.reduceAdd, Nat.reduceSub, Nat.reduceMul, Nat.reduceLT, Nat.reduceMod, Nat.reduceDiv, Nat.reduceEqDiff, Nat.reduceBEq, Nat.reduceLeDiff, ↓reduceIte, reduceCtorEq, Int.reduceAdd, Int.reduceSub, Int.reduceLT, Int.reduceLE, Int.reduceBEq, Int.reduceEq, Int.reduceToNat, ir3_l2, t5, t8, t11, h1]
      refine GCall.of (known_dem (fun _ => trivial)) ?_
      rintro v g6 rfl
      simp -implicitDefEqProofs (disch := (first | omega | (simp -implicitDefEqProofs only [szs, ne_eq] <;> omega) | fail)) only [go_sem, Nat.reduceAdd, Nat.reduceSub, Nat.reduceMul, Nat.reduceLT, Nat.reduceMod, Nat.reduceDiv, Nat.reduceEqDiff, Nat.reduceBEq, Nat.reduceLeDiff, ↓reduceIte, reduceCtorEq, Int.reduceAdd, Int.reduceSub, Int.reduceLT, Int.reduceLE, Int.reduceBEq, Int.reduceEq, Int.reduceToNat, undefV]
  by_cases hi : i < m1 ∧ i < 60
  · have p1 : (i : Int) < (m1 : Int) := by omega
    have p2 : (i : Int) < 60 := by omega
    rcases hv1.at' with ⟨h0, _⟩ | ⟨b, o, cap, c, ce, rfl, hb, hsz, hcc⟩
    · omega
    obtain ⟨c0, c1, c2, c3, c4, c5, c6⟩ := hcc i hi.1
    have hb1 := (a.old b (Heap.lt_of_get hb)).trans hb
    have p0 : (0 : Int) ≤ (i : Int) := by omega
    obtain ⟨g3, e1, n1, ⟨d, bd, ds, dr, d0, d1, d2, d3, d4, d5⟩, k1⟩ := st_heap g (S1 i)
    have han := a.n
    have hgl := Heap.lt_of_get bd
    have a1 : AI H (g3.set g.n (O.cells (d.set 1 (V.int IntKind.i64 3)) 30)) tb r wb wr T1 T := a.old' (by rw [Heap.n_set]; omega) fun b hb => by rw [w_set_ne hgl (by omega)]; exact k1 b hb
    have hlt1 := a.t.lt
    by_cases h6 : (S1 i).k = 6
    · have q6 : ((S1 i).k == 6) = true := by simp [h6]
      simp -implicitDefEqProofs (disch := (first | omega | (simp -implicitDefEqProofs only [szs, ne_eq] <;> omega) | fail)) only [go_sem, Nat.reduceAdd, Nat.reduceSub, Nat.reduceMul, Nat.reduceLT, Nat.reduceMod, Nat.reduceDiv, Nat.reduceEqDiff, Nat.reduceBEq, Nat.reduceLeDiff, ↓reduceIte, reduceCtorEq, Int.reduceAdd, Int.reduceSub, Int.reduceLT, Int.reduceLE, Int.reduceBEq, Int.reduceEq, Int.reduceToNat, ir3_l0, u1, t5, t8, t9, ↓hl1, p0, p1, p2, undefV, hb1, c0, c1, c2, c3, c4, c5, e1, bd, ds, dr, d0, d1, d2, d3, d4, d5, q6]
      repeat (refine ⟨Or.inl (by omega), ?_⟩)
      exact ⟨k - 1, by omega, i + 1, T1, by omega, by simp, a1⟩
    · have q6 : ((S1 i).k == 6) = false := by simpa using h6
      by_cases h8 : (S1 i).k = 8
      · have q8 : ((S1 i).k == 8) = true := by simp [h8]
        simp -implicitDefEqProofs (disch := (first | omega | (simp -implicitDefEqProofs only [szs, ne_eq] <;> omega) | fail)) only [go_sem, Nat.reduceAdd, Nat.reduceSub, Nat.reduceMul, Nat.reduceLT, Nat.reduceMod, Nat.reduceDiv, Nat.reduceEqDiff, Nat.reduceBEq, Nat.reduceLeDiff, ↓reduceIte, reduceCtorEq, Int.reduceAdd, Int.reduceSub, Int.reduceLT, Int.reduceLE, Int.reduceBEq, Int.reduceEq, Int.reduceToNat, ir3_l0, u1, t5, t8, t9, ↓hl1, p0, p1, p2, undefV, hb1, c0, c1, c2, c3, c4, c5, e1, bd, ds, dr, d0, d1, d2, d3, d4, d5, q6, q8]
        repeat (refine ⟨Or.inl (by omega), ?_⟩)
        exact ⟨k - 1, by omega, i + 1, T1, by omega, by simp, a1⟩
      · have q8 : ((S1 i).k == 8) = false := by simpa using h8
        simp -implicitDefEqProofs (disch := (first | omega | (simp -implicitDefEqProofs only [szs, ne_eq] <;> omega) | fail)) only [go_sem, Nat.reduceAdd, Nat.reduceSub, Nat.reduceMul, Nat.reduceLT, Nat.reduceMod, Nat.reduceDiv, Nat.reduceEqDiff, Nat.reduceBEq, Nat.reduceLeDiff, ↓reduceIte, reduceCtorEq, Int.reduceAdd, Int.reduceSub, Int.reduceLT, Int.reduceLE, Int.reduceBEq, Int.reduceEq, Int.reduceToNat, ir3_l0, u1, t5, t8, t9, ↓hl1, p0, p1, p2, undefV, hb1, c0, c1, c2, c3, c4, c5, e1, bd, ds, dr, d0, d1, d2, d3, d4, d5, q6, q8]
        repeat (refine ⟨Or.inl (by omega), ?_⟩)
        refine GCallD.of (R' := fun _ => False) (W' := fun _ => False) rnew_ok ?_
        rintro v h5 ⟨rfl, hr5, n5, k5⟩
        have a5 : AI H h5 tb r wb wr T1 T := a1.old' (by omega) k5
        have b5 : h5.get g.n = some (O.cells (d.set 1 (V.int IntKind.i64 3)) 30) := (k5 g.n (by rw [Heap.n_set]; omega)).trans (w_set_eq hgl rfl _)
        rw [Heap.n_set] at hr5 n5 k5
        simp -implicitDefEqProofs (disch := (first | omega | (simp -implicitDefEqProofs only [szs, ne_eq] <;> omega) | fail)) only [go_sem, Nat.reduceAdd, Nat.reduceSub, Nat.reduceMul, Nat.reduceLT, Nat.reduceMod, Nat.reduceDiv, Nat.reduceEqDiff, Nat.reduceBEq, Nat.reduceLeDiff, ↓reduceIte, reduceCtorEq, Int.reduceAdd, Int.reduceSub, Int.reduceLT, Int.reduceLE, Int.reduceBEq, Int.reduceEq, Int.reduceToNat, b5, ds, d0, d1, d2, d3, d4, d5]
        refine GCallD.of (R' := fun _ => True) (W' := fun b => b = tb ∨ b = r ∨ b = g3.n) ((do_any (dm := false) (R := fun b => True) (W := fun b => b = tb ∨ b = r ∨ b = g3.n) a5.t hr5 (fun _ => trivial) (fun b hb => hb) ⟨(S1 i).k, 3, (S1 i).b, (S1 i).c, (S1 i).d, (S1 i).ad⟩ c6 h6 h8).kept) ?_
        rintro v h6' ⟨⟨tb', r', ok, rfl, ht6, hr6, _, htb⟩, vf⟩
        have nv := vf.n
        obtain ⟨rfl, rfl⟩ := htb.resolve_right fun h => h8 h.1
        have hlo := a.lo
        have hane := a.ne
        have hcl := a5.c.lt
        have h3n : g3.n ≠ wb ∧ g3.n ≠ wr := by have := a.c.lt; omega
        have a6 : AI H h6' tb' r' wb wr (stT T1 ⟨(S1 i).k, 3, (S1 i).b, (S1 i).c, (S1 i).d, (S1 i).ad⟩) T := ⟨ht6, a5.c.same fun b hb => vf.get b (by omega) (by omega), fun s p hs => (st_row (x := ⟨(S1 i).k, 3, (S1 i).b, (S1 i).c, (S1 i).d, (S1 i).ad⟩) h6 hs).trans (a5.e s p hs), hlo, hane, by omega, fun b hb => by rw [vf.get b (by omega) (by omega)]; exact a5.old b hb⟩
        simp -implicitDefEqProofs (disch := (first | omega | (simp -implicitDefEqProofs only [szs, ne_eq] <;> omega) | fail)) only [go_sem, Nat.reduceAdd, Nat.reduceSub, Nat.reduceMul, Nat.reduceLT, Nat.reduceMod, Nat.reduceDiv, Nat.reduceEqDiff, Nat.reduceBEq, Nat.reduceLeDiff, ↓reduceIte, reduceCtorEq, Int.reduceAdd, Int.reduceSub, Int.reduceLT, Int.reduceLE, Int.reduceBEq, Int.reduceEq, Int.reduceToNat, u1, t5, t8, t9]
        refine ⟨?_, ?_, k - 1, by omega, i + 1, _, by omega, by simp, a6⟩
        · simp only [List.not_mem_nil, or_false, false_or, and_false, false_and, false_implies, implies_true, not_false_eq_true, List.mem_singleton, List.mem_cons, and_true, true_and]
          all_goals (try and_intros)
          all_goals (intros; omega)
        · simp only [List.not_mem_nil, or_false, false_or, and_false, false_and, false_implies, implies_true, not_false_eq_true, List.mem_singleton, List.mem_cons, and_true, true_and]
          all_goals (try and_intros)
          all_goals (intros; first | exact .inl (by omega) | omega)
  · by_cases hi1 : i < m1
    · have p1 : (i : Int) < (m1 : Int) := by omega
      have p2 : ¬ (i : Int) < 60 := by omega
      simp -implicitDefEqProofs (disch := (first | omega | (simp -implicitDefEqProofs only [szs, ne_eq] <;> omega) | fail)) only [go_sem, Nat.reduceAdd, Nat.reduceSub, Nat.reduceMul, Nat.reduceLT, Nat.reduceMod, Nat.reduceDiv, Nat.reduceEqDiff, Nat.reduceBEq, Nat.reduceLeDiff, ↓reduceIte, reduceCtorEq, Int.reduceAdd, Int.reduceSub, Int.reduceLT, Int.reduceLE, Int.reduceBEq, Int.reduceEq, Int.reduceToNat, ir3_l0, u1, t5, t8, t9, ↓hl1, p1, p2, undefV]
      exact hend _ (by simp -implicitDefEqProofs (disch := (first | omega | (simp -implicitDefEqProofs only [szs, ne_eq] <;> omega) | fail)) only [go_sem, Nat.reduceAdd, Nat.reduceSub, Nat.reduceMul, Nat.reduceLT, Nat.reduceMod, Nat.reduceDiv, Nat.reduceEqDiff, Nat.reduceBEq, Nat.reduceLeDiff, ↓reduceIte, reduceCtorEq, Int.reduceAdd, Int.reduceSub, Int.reduceLT, Int.reduceLE, Int.reduceBEq, Int.reduceEq, Int.reduceToNat, t5]) (by simp -implicitDefEqProofs (disch := (first | omega | (simp -implicitDefEqProofs only [szs, ne_eq] <;> omega) | fail)) only [go_sem, Nat.reduceAdd, Nat.reduceSub, Nat.reduceMul, Nat.reduceLT, Nat.reduceMod, Nat.reduceDiv, Nat.reduceEqDiff, Nat.reduceBEq, Nat.reduceLeDiff, ↓reduceIte, reduceCtorEq, Int.reduceAdd, Int.reduceSub, Int.reduceLT, Int.reduceLE, Int.reduceBEq, Int.reduceEq, Int.reduceToNat, t8]) (by simp -implicitDefEqProofs (disch := (first | omega | (simp -implicitDefEqProofs only [szs, ne_eq] <;> omega) | fail)) only [go_sem, Nat.reduceAdd, Nat.reduceSub, Nat.reduceMul, Nat.reduceLT, Nat.reduceMod, Nat.reduceDiv, Nat.reduceEqDiff, Nat.reduceBEq, Nat.reduceLeDiff, ↓reduceIte, reduceCtorEq, Int.reduceAdd, Int.reduceSub, Int.reduceLT, Int.reduceLE, Int.reduceBEq, Int.reduceEq, Int.reduceToNat])
    · have p1 : ¬ (i : Int) < (m1 : Int) := by omega
      simp -implicitDefEqProofs (disch := (first | omega | (simp -implicitDefEqProofs only [szs, ne_eq] <;> omega) | fail)) only [go_sem, Nat.reduceAdd, Nat.reduceSub, Nat.reduceMul, Nat.reduceLT, Nat.reduceMod, Nat.reduceDiv, Nat.reduceEqDiff, Nat.reduceBEq, Nat.reduceLeDiff, ↓reduceIte, reduceCtorEq, Int.reduceAdd, Int.reduceSub, Int.reduceLT, Int.reduceLE, Int.reduceBEq, Int.reduceEq, Int.reduceToNat, ir3_l0, u1, t5, t8, t9, ↓hl1, p1, undefV]
      exact hend _ (by simp -implicitDefEqProofs (disch := (first | omega | (simp -implicitDefEqProofs only [szs, ne_eq] <;> omega) | fail)) only [go_sem, Nat.reduceAdd, Nat.reduceSub, Nat.reduceMul, Nat.reduceLT, Nat.reduceMod, Nat.reduceDiv, Nat.reduceEqDiff, Nat.reduceBEq, Nat.reduceLeDiff, ↓reduceIte, reduceCtorEq, Int.reduceAdd, Int.reduceSub, Int.reduceLT, Int.reduceLE, Int.reduceBEq, Int.reduceEq, Int.reduceToNat, t5]) (by simp -implicitDefEqProofs (disch := (first | omega | (simp -implicitDefEqProofs only [szs, ne_eq] <;> omega) | fail)) only [go_sem, Nat.reduceAdd, Nat.reduceSub, Nat.reduceMul, Nat.reduceLT, Nat.reduceMod, Nat.reduceDiv, Nat.reduceEqDiff, Nat.reduceBEq, Nat.reduceLeDiff, ↓reduceIte, reduceCtorEq, Int.reduceAdd, Int.reduceSub, Int.reduceLT, Int.reduceLE, Int.reduceBEq, Int.reduceEq, Int.reduceToNat, t8]) (by simp -implicitDefEqProofs (disch := (first | omega | (simp -implicitDefEqProofs only [szs, ne_eq] <;> omega) | fail)) only [go_sem, Nat.reduceAdd, Nat.reduceSub, Nat.reduceMul, Nat.reduceLT, Nat.reduceMod, Nat.reduceDiv, Nat.reduceEqDiff, Nat.reduceBEq, Nat.reduceLeDiff, ↓reduceIte, reduceCtorEq, Int.reduceAdd, Int.reduceSub, Int.reduceLT, Int.reduceLE, Int.reduceBEq, Int.reduceEq, Int.reduceToNat])
end Go.Proofs.Ytkfhdaimememiaa
