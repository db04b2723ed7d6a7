/- Keeps of the program; two lists compared. -/
import Derived.Test.YthdkhbhicimpdaaF4
set_option linter.unusedVariables false
set_option maxRecDepth 100000
namespace Go.Proofs.Ythdkhbhicimpdaa
open Go Go.Vm
attribute [-go_sem] sz_113
set_option maxHeartbeats 2000000 in
theorem xkeeps_ok {h : Heap} {R W Rk : Set'} {bx bd : Nat} {tb : Nat → Nat} {X : XS} (hx : ExtAt h bx bd tb X) (hR : ∀ b, R b) {i : Nat} (hi : i < X.n) {w : V} {m : Nat} {ks kw : Nat → Int} (hv : KeepV h Rk w m ks kw) (hm8 : m ≤ 10000000) :
    SF Try.prog 47 [.ptr (some (bx, 0)), .int .i64 i, w] h R W fun r h' => KeepsQ h h' (X.first i) (X.count i) m ks kw r := by
  have hlv := hv.len
  have hfit := hx.fit i hi
  obtain ⟨c, x1, sz, ro, c0, cp, c25⟩ := hx.x
  obtain ⟨p0, p1, xw, p2⟩ := cp i hi
  have hRx := hR bx
  have hp8 := hx.pos
  have lx := Heap.lt_of_get x1
  refine SF.go hm Try.func47 ir47_eq ?_
  simp -implicitDefEqProofs (disch := (first | omega | (simp -implicitDefEqProofs only [szs, ne_eq] <;> omega) | fail)) only [go_sem, Nat.reduceAdd, Nat.reduceSub, Nat.reduceLT, Nat.reduceMod, Nat.reduceDiv, ↓reduceIte, reduceCtorEq, ir47]
  refine GCall.of (of_ok hx (.inr hRx) hi) ?_
  rintro v h1 ⟨rfl, rfl⟩
  simp -implicitDefEqProofs (disch := (first | omega | (simp -implicitDefEqProofs only [szs, ne_eq] <;> omega) | fail)) only [go_sem, Nat.reduceAdd, Nat.reduceSub, Nat.reduceLT, Nat.reduceMod, Nat.reduceDiv, ↓reduceIte, reduceCtorEq, ↓hlv]
  refine GLoop.inv hm (fun k f g => f.mks = [] ∧ f.tm.n = 54 ∧ f.tm.get 8 = some (.ptr (some (bx, 1 + i * 3))) ∧ f.tm.get 22 = some w ∧ f.tm.get 23 = some (.int .i64 m) ∧ h1.n ≤ g.n ∧ (∀ b, b < h1.n → g.get b = h1.get b) ∧ ∃ (j : Nat) (v : V), j + k = m ∧ f.tm.get 24 = some (.int .i64 j) ∧ f.tm.get 10 = some v ∧ keepOk (X.count i) ks j ∧ OwnS 2 h1.n g v j (keepF (X.first i) ks kw j) 125) m ?_ ?_
  · exact ⟨rfl, rfl, by simp -implicitDefEqProofs (disch := (first | omega | (simp -implicitDefEqProofs only [szs, ne_eq] <;> omega) | fail)) only [go_sem, Nat.reduceSub, Nat.reduceMod, Nat.reduceDiv, ↓reduceIte, reduceCtorEq], by simp -implicitDefEqProofs (disch := (first | omega | (simp -implicitDefEqProofs only [szs, ne_eq] <;> omega) | fail)) only [go_sem, Nat.reduceSub, Nat.reduceMod, Nat.reduceDiv, ↓reduceIte, reduceCtorEq], by simp -implicitDefEqProofs (disch := (first | omega | (simp -implicitDefEqProofs only [szs, ne_eq] <;> omega) | fail)) only [go_sem, Nat.reduceSub, Nat.reduceMod, Nat.reduceDiv, ↓reduceIte, reduceCtorEq], Nat.le_refl _, fun _ _ => rfl, 0, _, by omega, by simp -implicitDefEqProofs (disch := (first | omega | (simp -implicitDefEqProofs only [szs, ne_eq] <;> omega) | fail)) only [go_sem, Nat.reduceSub, Nat.reduceMod, Nat.reduceDiv, ↓reduceIte, reduceCtorEq]; rfl, by simp -implicitDefEqProofs (disch := (first | omega | (simp -implicitDefEqProofs only [szs, ne_eq] <;> omega) | fail)) only [go_sem, Nat.reduceSub, Nat.reduceMod, Nat.reduceDiv, ↓reduceIte, reduceCtorEq], fun j hj => by omega, OwnS.nil _ _ _ _⟩
  rintro k ⟨⟨n', tr⟩, mks⟩ g ⟨hmk, hn', t8, t22, t23, gn, hold, j, v, hj, t24, t10, hok, ho⟩
  simp only [Tm.get_mk] at hmk hn' t8 t22 t23 t24 t10
  subst hmk hn'
  have x1g := (hold bx lx).trans x1
  by_cases hjm : j < m
  · rcases hv.2 with ⟨h0, _⟩ | ⟨b, o, cap, ex, cb, ce, rfl, hRk, hb', hsz, hget⟩
    · omega
    obtain ⟨g0, g1⟩ := hget j hjm
    have hbg := (hold b (Heap.lt_of_get hb')).trans hb'
    have hRb := hR b
    have hW0 : h1.n ≤ g.n ∨ W g.n := .inl gn
    have hR0 : h1.n ≤ g.n ∨ R g.n := .inl gn
    obtain ⟨ga, ea⟩ : ∃ ga, (g.push (O.cells (Blk.of [V.int IntKind.i64 0, V.int IntKind.i64 0]) 125)).set g.n (O.cells (((Blk.of [V.int IntKind.i64 0, V.int IntKind.i64 0]).set 0 (V.int IntKind.i64 (ks j))).set 1 (V.int IntKind.i64 (kw j))) 125) = ga := ⟨_, rfl⟩
    have na : ga.n = g.n + 1 := by rw [← ea]; simp
    have ka : ∀ b, b < g.n → ga.get b = g.get b := fun b hb => by rw [← ea, w_set_ne (by simp) (by omega), w_push_ne (by omega)]
    by_cases h0 : ks j < 0
    · simp -implicitDefEqProofs (disch := (first | omega | (simp -implicitDefEqProofs only [szs, ne_eq] <;> omega) | fail)) only [go_sem, Nat.reduceAdd, Nat.reduceLT, Nat.reduceEqDiff, ↓reduceIte, ir47_l0, t22, t23, t24, hbg, g0, g1, hRb]
      rw [ea]
      have hq : KeepsQ h1 ga (X.first i) (X.count i) m ks kw (.tuple [.slice none 0 0 true, .int .i64 2]) := ⟨by omega, fun b hb => by rw [ka b (by omega)]; exact hold b hb, .inl ⟨fun hh => by have := hh j hjm; omega, rfl⟩⟩
      try simp only [false_implies, implies_true, and_true]
      and_intros
      all_goals first | exact hq | exact hq.1 | exact hq.2.1 | exact hq.2.2 | exact hW0 | (intros; first | exact hR0 | exact hW0 | omega | exact .inl (by omega) | exact .inr (hR _) | exact False.elim ‹False› | trace_state)
    · by_cases h2 : ks j ≥ X.count i
      · have h2' : (X.count i : Int) ≤ ks j := h2
        simp -implicitDefEqProofs (disch := (first | omega | (simp -implicitDefEqProofs only [szs, ne_eq] <;> omega) | fail)) only [go_sem, Nat.reduceAdd, Nat.reduceLT, Nat.reduceEqDiff, ↓reduceIte, ir47_l0, t8, t22, t23, t24, hbg, g0, g1, hRb, x1g, sz, p1, hRx]
        rw [ea]
        have hq : KeepsQ h1 ga (X.first i) (X.count i) m ks kw (.tuple [.slice none 0 0 true, .int .i64 2]) := ⟨by omega, fun b hb => by rw [ka b (by omega)]; exact hold b hb, .inl ⟨fun hh => by have := hh j hjm; omega, rfl⟩⟩
        try simp only [List.not_mem_nil, or_false, false_or, and_false, false_and, false_implies, implies_true, not_false_eq_true, List.mem_singleton, List.mem_cons, and_true, true_and]
        and_intros
        all_goals first | exact hq | exact hq.1 | exact hq.2.1 | exact hq.2.2 | exact hW0 | (intros; first | exact hR0 | exact hW0 | omega | exact .inl (by omega) | exact .inr (hR _) | exact False.elim ‹False› | trace_state)
      · have h3 : ks j < X.count i := by omega
        have hok' : keepOk (X.count i) ks (j + 1) := fun a ha => by
          by_cases e : a = j
          · subst e; exact ⟨by omega, h3⟩
          · exact hok a (by omega)
        obtain ⟨gb, eb⟩ : ∃ gb, ((g.push (O.cells (Blk.of [V.int IntKind.i64 0, V.int IntKind.i64 0]) 125)).set g.n (O.cells (((Blk.of [V.int IntKind.i64 0, V.int IntKind.i64 0]).set 0 (V.int IntKind.i64 (ks j))).set 1 (V.int IntKind.i64 (kw j))) 125)).set g.n (O.cells ((((Blk.of [V.int IntKind.i64 0, V.int IntKind.i64 0]).set 0 (V.int IntKind.i64 (ks j))).set 1 (V.int IntKind.i64 (kw j))).set 0 (V.int IntKind.i64 (ks j + (X.first i : Int)))) 125) = gb := ⟨_, rfl⟩
        have nb : gb.n = g.n + 1 := by rw [← eb]; simp
        have kb : ∀ b, b < g.n → gb.get b = g.get b := fun b hb => by rw [← eb, w_set_ne (by simp) (by omega), w_set_ne (by simp) (by omega), w_push_ne (by omega)]
        obtain ⟨v2, h2', r, w', a1, a2, a3, a4, a5, a6⟩ := app_pair (x := ks j + (X.first i : Int)) (y := kw j) (ho.old kb) (by omega) (by omega)
        obtain ⟨cc, z1, z2, z3, z4⟩ : ∃ cc, gb.get g.n = some (.cells cc 125) ∧ cc.size = 2 ∧ cc.get 0 = .int .i64 (ks j + (X.first i : Int)) ∧ cc.get 1 = .int .i64 (kw j) := ⟨_, by rw [← eb, w_set_eq (by simp) rfl], rfl, rfl, rfl⟩
        have hr' : allB (fun b => h1.n ≤ b ∨ R b) r := allB_of fun b hb => .inl (a5 b hb)
        have hw' : allB (fun b => h1.n ≤ b ∨ W b) w' := allB_of fun b hb => .inl (a6 b hb)
        simp -implicitDefEqProofs (disch := (first | omega | (simp -implicitDefEqProofs only [szs, ne_eq] <;> omega) | fail)) only [go_sem, Nat.reduceAdd, Nat.reduceLT, Nat.reduceEqDiff, ↓reduceIte, ir47_l0, t8, t22, t23, t24, t10, hbg, g0, g1, hRb, x1g, sz, p0, p1, hRx, appendV_of ap_46, hW0, hR0, eb, z1, z2, z3, z4, ↓a1, hr', hw']
        try simp only [List.not_mem_nil, or_false, false_or, and_false, false_and, false_implies, implies_true, not_false_eq_true, List.mem_singleton, List.mem_cons, and_true, true_and]
        have hkf : keepF (X.first i) ks kw (j + 1) = keepF (X.first i) ks kw j ++ [.int .i64 (ks j + (X.first i : Int)), .int .i64 (kw j)] := by simp only [keepF]; rw [Int.add_comm]
        have fin : h1.n ≤ h2'.n ∧ (∀ b, b < h1.n → h2'.get b = h1.get b) := ⟨by omega, fun b hb => by rw [a3 b hb, kb b (by omega)]; exact hold b hb⟩
        exact ⟨k - 1, by omega, fin.1, fin.2, j + 1, v2, by omega, congrArg _ (by omega), rfl, hok', by rw [hkf]; exact a4⟩
  · have : j = m := by omega
    subst this
    simp -implicitDefEqProofs (disch := (first | omega | (simp -implicitDefEqProofs only [szs, ne_eq] <;> omega) | fail)) only [go_sem, Nat.reduceAdd, Nat.reduceLT, Nat.reduceEqDiff, ↓reduceIte, ir47_l0, t23, t24, t10]
    exact ⟨gn, hold, .inr ⟨hok, _, rfl, ho⟩⟩
end Go.Proofs.Ythdkhbhicimpdaa
