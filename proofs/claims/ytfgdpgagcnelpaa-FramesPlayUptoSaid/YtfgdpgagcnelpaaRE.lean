/- FramesPlay: stands, the rest. -/
import Derived.Test.YtfgdpgagcnelpaaRD
set_option linter.unusedVariables false
set_option linter.unusedSimpArgs false
set_option linter.unusedSimpArgs false
set_option maxRecDepth 100000
set_option linter.unusedVariables false
set_option linter.unusedSimpArgs false
namespace Go.Proofs.Ytfgdpgagcnelpaa
open Go Go.Vm
set_option maxHeartbeats 4000000 in
theorem stands_dem {h : Heap} {R W : Set'} {bp n0 rd : Nat} {L : PL} {rl : RL} {S : PS} {bv : Nat → V} (hp : PoolAt h bp L S) (hr : RPool h n0 rd rl S bv) (w : WF S) (hR : ∀ b, R b) (leave : Int) :
    SF ⟨Try.prog, true⟩ 24 [.ptr (some (bp, 0)), .ptr (some (rd, 0)), .int .i64 leave] h R W fun v h' => v = .bool true ∧ h.n ≤ h'.n ∧ ∀ b, b < h.n → h'.get b = h.get b := by
  have hwn := w.n
  have hxl : ((heldI S S.n).length : Int) = S.n - cnt (fun i => decide (S.ho i = 0)) S.n := heldI_length S S.n
  have hxn : (heldI S S.n).length ≤ 256 := Nat.le_trans (heldI_len S S.n) hwn
  have hcnt := cnt_in (fun i => decide (S.ho i = 0)) S.n
  obtain ⟨h0, e0, n0', b1, b2, b3, k0⟩ : ∃ h0, ((h.push (.cells (Blk.of [V.ptr (some (rd, 0))]) 52)).push (.cells (Blk.of [V.int .i64 leave]) 3)).push (.cells (Blk.of [V.bool false]) 4) = h0 ∧ h0.n = h.n + 3 ∧ h0.get h.n = some (.cells (Blk.of [V.ptr (some (rd, 0))]) 52) ∧ h0.get (h.n + 1) = some (.cells (Blk.of [V.int .i64 leave]) 3) ∧ h0.get (h.n + 1 + 1) = some (.cells (Blk.of [V.bool false]) 4) ∧ ∀ b, b < h.n → h0.get b = h.get b :=
    ⟨_, rfl, by simp, by simp -implicitDefEqProofs (disch := (first | omega | (simp -implicitDefEqProofs only [szs, ne_eq] <;> omega) | fail)) only [go_sem, Nat.reduceAdd, Nat.reduceSub, Nat.reduceMul, Nat.reduceLT, Nat.reduceMod, Nat.reduceDiv, Nat.reduceEqDiff, Nat.reduceBEq, Nat.reduceLeDiff, ↓reduceIte, reduceCtorEq, Int.reduceAdd, Int.reduceSub, Int.reduceLT, Int.reduceLE, Int.reduceBEq, Int.reduceEq, Int.reduceToNat], by simp -implicitDefEqProofs (disch := (first | omega | (simp -implicitDefEqProofs only [szs, ne_eq] <;> omega) | fail)) only [go_sem, Nat.reduceAdd, Nat.reduceSub, Nat.reduceMul, Nat.reduceLT, Nat.reduceMod, Nat.reduceDiv, Nat.reduceEqDiff, Nat.reduceBEq, Nat.reduceLeDiff, ↓reduceIte, reduceCtorEq, Int.reduceAdd, Int.reduceSub, Int.reduceLT, Int.reduceLE, Int.reduceBEq, Int.reduceEq, Int.reduceToNat], by simp -implicitDefEqProofs (disch := (first | omega | (simp -implicitDefEqProofs only [szs, ne_eq] <;> omega) | fail)) only [go_sem, Nat.reduceAdd, Nat.reduceSub, Nat.reduceMul, Nat.reduceLT, Nat.reduceMod, Nat.reduceDiv, Nat.reduceEqDiff, Nat.reduceBEq, Nat.reduceLeDiff, ↓reduceIte, reduceCtorEq, Int.reduceAdd, Int.reduceSub, Int.reduceLT, Int.reduceLE, Int.reduceBEq, Int.reduceEq, Int.reduceToNat], fun b hb => by simp -implicitDefEqProofs (disch := (first | omega | (simp -implicitDefEqProofs only [szs, ne_eq] <;> omega) | fail)) only [go_sem, Nat.reduceAdd, Nat.reduceSub, Nat.reduceMul, Nat.reduceLT, Nat.reduceMod, Nat.reduceDiv, Nat.reduceEqDiff, Nat.reduceBEq, Nat.reduceLeDiff, ↓reduceIte, reduceCtorEq, Int.reduceAdd, Int.reduceSub, Int.reduceLT, Int.reduceLE, Int.reduceBEq, Int.reduceEq, Int.reduceToNat]⟩
  have hp0 := hp.old k0
  have hr0 := hr.old (by omega) k0
  refine SF.go hm Try.func24 ir24_eq ?_
  simp -implicitDefEqProofs (disch := (first | omega | (simp -implicitDefEqProofs only [szs, ne_eq] <;> omega) | fail)) only [go_sem, Nat.reduceAdd, Nat.reduceSub, Nat.reduceMul, Nat.reduceLT, Nat.reduceMod, Nat.reduceDiv, Nat.reduceEqDiff, Nat.reduceBEq, Nat.reduceLeDiff, ↓reduceIte, reduceCtorEq, Int.reduceAdd, Int.reduceSub, Int.reduceLT, Int.reduceLE, Int.reduceBEq, Int.reduceEq, Int.reduceToNat, ir24, e0]
  clear e0
  refine stands_l0 (x4 := h.n) hp0 hr0 w (fun b => .inr (hR b)) b1 (by simp -implicitDefEqProofs (disch := (first | omega | (simp -implicitDefEqProofs only [szs, ne_eq] <;> omega) | fail)) only [go_sem, Nat.reduceAdd, Nat.reduceSub, Nat.reduceMul, Nat.reduceLT, Nat.reduceMod, Nat.reduceDiv, Nat.reduceEqDiff, Nat.reduceBEq, Nat.reduceLeDiff, ↓reduceIte, reduceCtorEq, Int.reduceAdd, Int.reduceSub, Int.reduceLT, Int.reduceLE, Int.reduceBEq, Int.reduceEq, Int.reduceToNat]) (by simp -implicitDefEqProofs (disch := (first | omega | (simp -implicitDefEqProofs only [szs, ne_eq] <;> omega) | fail)) only [go_sem, Nat.reduceAdd, Nat.reduceSub, Nat.reduceMul, Nat.reduceLT, Nat.reduceMod, Nat.reduceDiv, Nat.reduceEqDiff, Nat.reduceBEq, Nat.reduceLeDiff, ↓reduceIte, reduceCtorEq, Int.reduceAdd, Int.reduceSub, Int.reduceLT, Int.reduceLE, Int.reduceBEq, Int.reduceEq, Int.reduceToNat]) (by simp -implicitDefEqProofs (disch := (first | omega | (simp -implicitDefEqProofs only [szs, ne_eq] <;> omega) | fail)) only [go_sem, Nat.reduceAdd, Nat.reduceSub, Nat.reduceMul, Nat.reduceLT, Nat.reduceMod, Nat.reduceDiv, Nat.reduceEqDiff, Nat.reduceBEq, Nat.reduceLeDiff, ↓reduceIte, reduceCtorEq, Int.reduceAdd, Int.reduceSub, Int.reduceLT, Int.reduceLE, Int.reduceBEq, Int.reduceEq, Int.reduceToNat]; rfl) (by simp -implicitDefEqProofs (disch := (first | omega | (simp -implicitDefEqProofs only [szs, ne_eq] <;> omega) | fail)) only [go_sem, Nat.reduceAdd, Nat.reduceSub, Nat.reduceMul, Nat.reduceLT, Nat.reduceMod, Nat.reduceDiv, Nat.reduceEqDiff, Nat.reduceBEq, Nat.reduceLeDiff, ↓reduceIte, reduceCtorEq, Int.reduceAdd, Int.reduceSub, Int.reduceLT, Int.reduceLE, Int.reduceBEq, Int.reduceEq, Int.reduceToNat]; rfl) (by simp -implicitDefEqProofs (disch := (first | omega | (simp -implicitDefEqProofs only [szs, ne_eq] <;> omega) | fail)) only [go_sem, Nat.reduceAdd, Nat.reduceSub, Nat.reduceMul, Nat.reduceLT, Nat.reduceMod, Nat.reduceDiv, Nat.reduceEqDiff, Nat.reduceBEq, Nat.reduceLeDiff, ↓reduceIte, reduceCtorEq, Int.reduceAdd, Int.reduceSub, Int.reduceLT, Int.reduceLE, Int.reduceBEq, Int.reduceEq, Int.reduceToNat]) ?_
  intro tr t0 t4 t5 t6
  simp -implicitDefEqProofs (disch := (first | omega | (simp -implicitDefEqProofs only [szs, ne_eq] <;> omega) | fail)) only [go_sem, Nat.reduceAdd, Nat.reduceSub, Nat.reduceMul, Nat.reduceLT, Nat.reduceMod, Nat.reduceDiv, Nat.reduceEqDiff, Nat.reduceBEq, Nat.reduceLeDiff, ↓reduceIte, reduceCtorEq, Int.reduceAdd, Int.reduceSub, Int.reduceLT, Int.reduceLE, Int.reduceBEq, Int.reduceEq, Int.reduceToNat, t0, t4, t5, t6]
  refine GCall.of (SF.any (M := (⟨Try.prog, true⟩ : MP)) (all_ok (S := S) (L := L) (bp := bp) hp0 (fun b => Or.inr (hR b)))) ?_
  rintro v ha ⟨rfl, hn, hG, ka⟩
  rw [heldL_flat] at hG
  have hpa := hp0.old ka
  have hra := hr0.old (by omega) ka
  simp -implicitDefEqProofs (disch := (first | omega | (simp -implicitDefEqProofs only [szs, ne_eq] <;> omega) | fail)) only [go_sem, Nat.reduceAdd, Nat.reduceSub, Nat.reduceMul, Nat.reduceLT, Nat.reduceMod, Nat.reduceDiv, Nat.reduceEqDiff, Nat.reduceBEq, Nat.reduceLeDiff, ↓reduceIte, reduceCtorEq, Int.reduceAdd, Int.reduceSub, Int.reduceLT, Int.reduceLE, Int.reduceBEq, Int.reduceEq, Int.reduceToNat, t0, t4, t5, t6, undefV]
  refine GCallD.of (R' := fun _ => True) (W' := fun _ => False) (free_count hpa trivial trivial (fun a ha => by
    have h1 := w.us a ha
    have h2 := cnt_in (fun i => decide (S.ho i ≠ 0 ∧ S.ow i = (a : Nat))) S.n
    omega)).any ?_
  rintro v g1 ⟨rfl, rfl⟩
  rw [w.free_eq]
  have a1 := (ka h.n (by omega)).trans b1
  have a2 := (ka (h.n + 1) (by omega)).trans b2
  have a3 := (ka (h.n + 1 + 1) (by omega)).trans b3
  have hRn := hR h.n
  simp -implicitDefEqProofs (disch := (first | omega | (simp -implicitDefEqProofs only [szs, ne_eq] <;> omega) | fail)) only [go_sem, Nat.reduceAdd, Nat.reduceSub, Nat.reduceMul, Nat.reduceLT, Nat.reduceMod, Nat.reduceDiv, Nat.reduceEqDiff, Nat.reduceBEq, Nat.reduceLeDiff, ↓reduceIte, reduceCtorEq, Int.reduceAdd, Int.reduceSub, Int.reduceLT, Int.reduceLE, Int.reduceBEq, Int.reduceEq, Int.reduceToNat, t0, t4, t5, t6, a1, hRn, undefV]
  refine GCallD.of (R' := fun _ => True) (W' := fun _ => False) (rfree_ok hra w (fun _ => trivial)).any ?_
  rintro v g2 ⟨rfl, rfl⟩
  have hne : ∀ x : Int, (x != x) = false := fun x => by simp
  have hold : ∀ b, b < h.n → g2.get b = h.get b := fun b hb => by rw [ka b (by omega)]; exact k0 b hb
  obtain ⟨g4, e4, n4, b6, k4⟩ : ∃ g4, (g2.push (.cells (Blk.of [V.int .i64 0]) 3)).set g2.n (.cells ((Blk.of [V.int .i64 0]).set 0 (.int .i64 0)) 3) = g4 ∧ g4.n = g2.n + 1 ∧ g4.get g2.n = some (.cells ((Blk.of [V.int .i64 0]).set 0 (.int .i64 0)) 3) ∧ ∀ b, b < g2.n → g4.get b = g2.get b := ⟨_, rfl, by simp, w_set_eq (by simp) rfl _, fun b hb => by rw [w_set_ne (by simp) (by omega), w_push_ne (by omega)]⟩
  simp -implicitDefEqProofs (disch := (first | omega | (simp -implicitDefEqProofs only [szs, ne_eq] <;> omega) | fail)) only [go_sem, Nat.reduceAdd, Nat.reduceSub, Nat.reduceMul, Nat.reduceLT, Nat.reduceMod, Nat.reduceDiv, Nat.reduceEqDiff, Nat.reduceBEq, Nat.reduceLeDiff, ↓reduceIte, reduceCtorEq, Int.reduceAdd, Int.reduceSub, Int.reduceLT, Int.reduceLE, Int.reduceBEq, Int.reduceEq, Int.reduceToNat, t0, t4, t5, t6, a1, hRn, hne, undefV, e4]
  refine ⟨?_, ⟨fun b _ _ => .inr (hR b), fun b _ h => h.elim, fun b _ _ => .inr (hR b), fun b _ h => h.elim⟩, .inl (by omega), ?_⟩
  · simp only [List.not_mem_nil, or_false, false_or, and_false, false_and, false_implies, implies_true, not_false_eq_true, List.mem_singleton, List.mem_cons, and_true, true_and]
    all_goals (try and_intros)
    all_goals (intros; omega)
  refine GLoop.inv hm (fun k f g => (f.mks.Nodup ∧ ∀ m ∈ f.mks, g2.n ≤ m ∧ g.get m = some (.deferred true)) ∧ f.tm.n = 125 ∧ f.tm.get 0 = some (.ptr (some (bp, 0))) ∧ f.tm.get 4 = some (.ptr (some (h.n, 0))) ∧ f.tm.get 5 = some (.ptr (some (h.n + 1, 0))) ∧ f.tm.get 6 = some (.ptr (some (h.n + 1 + 1, 0))) ∧ f.tm.get 8 = some (.func 54 [] [.ptr (some (h0.n, 0))]) ∧ g2.n ≤ g.n ∧ (∀ b, b < g2.n → g.get b = g2.get b) ∧
    ∃ (u bt : Nat) (ct : Blk), u + k = 2 ∧ f.tm.get 9 = some (.ptr (some (bt, 0))) ∧ g2.n ≤ bt ∧ g.get bt = some (.cells ct 3) ∧ ct.size = 1 ∧ ct.ro = false ∧ ct.get 0 = .int .i64 u) 2 ?_ ?_
  · exact ⟨⟨List.nodup_nil, fun m hm => by cases hm⟩, rfl, by simp -implicitDefEqProofs (disch := (first | omega | (simp -implicitDefEqProofs only [szs, ne_eq] <;> omega) | fail)) only [go_sem, Nat.reduceAdd, Nat.reduceSub, Nat.reduceMul, Nat.reduceLT, Nat.reduceMod, Nat.reduceDiv, Nat.reduceEqDiff, Nat.reduceBEq, Nat.reduceLeDiff, ↓reduceIte, reduceCtorEq, Int.reduceAdd, Int.reduceSub, Int.reduceLT, Int.reduceLE, Int.reduceBEq, Int.reduceEq, Int.reduceToNat, t0], by simp -implicitDefEqProofs (disch := (first | omega | (simp -implicitDefEqProofs only [szs, ne_eq] <;> omega) | fail)) only [go_sem, Nat.reduceAdd, Nat.reduceSub, Nat.reduceMul, Nat.reduceLT, Nat.reduceMod, Nat.reduceDiv, Nat.reduceEqDiff, Nat.reduceBEq, Nat.reduceLeDiff, ↓reduceIte, reduceCtorEq, Int.reduceAdd, Int.reduceSub, Int.reduceLT, Int.reduceLE, Int.reduceBEq, Int.reduceEq, Int.reduceToNat, t4], by simp -implicitDefEqProofs (disch := (first | omega | (simp -implicitDefEqProofs only [szs, ne_eq] <;> omega) | fail)) only [go_sem, Nat.reduceAdd, Nat.reduceSub, Nat.reduceMul, Nat.reduceLT, Nat.reduceMod, Nat.reduceDiv, Nat.reduceEqDiff, Nat.reduceBEq, Nat.reduceLeDiff, ↓reduceIte, reduceCtorEq, Int.reduceAdd, Int.reduceSub, Int.reduceLT, Int.reduceLE, Int.reduceBEq, Int.reduceEq, Int.reduceToNat, t5], by simp -implicitDefEqProofs (disch := (first | omega | (simp -implicitDefEqProofs only [szs, ne_eq] <;> omega) | fail)) only [go_sem, Nat.reduceAdd, Nat.reduceSub, Nat.reduceMul, Nat.reduceLT, Nat.reduceMod, Nat.reduceDiv, Nat.reduceEqDiff, Nat.reduceBEq, Nat.reduceLeDiff, ↓reduceIte, reduceCtorEq, Int.reduceAdd, Int.reduceSub, Int.reduceLT, Int.reduceLE, Int.reduceBEq, Int.reduceEq, Int.reduceToNat, t6], by simp -implicitDefEqProofs (disch := (first | omega | (simp -implicitDefEqProofs only [szs, ne_eq] <;> omega) | fail)) only [go_sem, Nat.reduceAdd, Nat.reduceSub, Nat.reduceMul, Nat.reduceLT, Nat.reduceMod, Nat.reduceDiv, Nat.reduceEqDiff, Nat.reduceBEq, Nat.reduceLeDiff, ↓reduceIte, reduceCtorEq, Int.reduceAdd, Int.reduceSub, Int.reduceLT, Int.reduceLE, Int.reduceBEq, Int.reduceEq, Int.reduceToNat], by omega, k4, 0, g2.n, _, by omega, by simp -implicitDefEqProofs (disch := (first | omega | (simp -implicitDefEqProofs only [szs, ne_eq] <;> omega) | fail)) only [go_sem, Nat.reduceAdd, Nat.reduceSub, Nat.reduceMul, Nat.reduceLT, Nat.reduceMod, Nat.reduceDiv, Nat.reduceEqDiff, Nat.reduceBEq, Nat.reduceLeDiff, ↓reduceIte, reduceCtorEq, Int.reduceAdd, Int.reduceSub, Int.reduceLT, Int.reduceLE, Int.reduceBEq, Int.reduceEq, Int.reduceToNat], Nat.le_refl _, b6, rfl, rfl, rfl⟩
  clear t0 t4 t5 t6
  clear tr
  rintro k ⟨⟨n', tr⟩, mks⟩ g ⟨⟨hmn, hmm⟩, hn', t0, t4, t5, t6, t8, hgn, hgo, u, bt, ct, huk, t9, hbt1, hbt2, hbt3, hbt4, hbt5⟩
  simp only [Tm.get_mk] at hmn hmm hn' t0 t4 t5 t6 t8 t9
  subst hn'
  obtain ⟨d1, d2, d3, d4, d5⟩ := hra.blocks
  obtain ⟨cp, p1, p2, p3, p4⟩ := hra.p
  have hRd := hR rd
  by_cases hu : u < 2
  · obtain ⟨gA, eA, nA, bA, bB, kA⟩ : ∃ gA, (((g.push (O.cells (Blk.of [V.int IntKind.i64 0]) 3)).push (O.cells (Blk.of [V.int IntKind.i64 0]) 3)).set g.n (O.cells ((Blk.of [V.int IntKind.i64 0]).set 0 (V.int IntKind.i64 0)) 3)).set (g.n + 1) (O.cells ((Blk.of [V.int IntKind.i64 0]).set 0 (V.int IntKind.i64 (-1))) 3) = gA ∧ gA.n = g.n + 2 ∧ gA.get g.n = some (O.cells ((Blk.of [V.int IntKind.i64 0]).set 0 (V.int IntKind.i64 0)) 3) ∧ gA.get (g.n + 1) = some (O.cells ((Blk.of [V.int IntKind.i64 0]).set 0 (V.int IntKind.i64 (-1))) 3) ∧ ∀ b, b < g.n → gA.get b = g.get b := ⟨_, rfl, by simp, by rw [w_set_ne (by simp) (by omega), w_set_eq (by simp; omega) rfl], w_set_eq (by simp) rfl _, fun b hb => by rw [w_set_ne (by simp) (by omega), w_set_ne (by simp; omega) (by omega), w_push_ne (by simp; omega), w_push_ne (by omega)]⟩
    have hRt := hR bt
    have hu2 : (u : Int) < 2 := by omega
    simp -implicitDefEqProofs (disch := (first | omega | (simp -implicitDefEqProofs only [szs, ne_eq] <;> omega) | fail)) only [go_sem, Nat.reduceAdd, Nat.reduceSub, Nat.reduceMul, Nat.reduceLT, Nat.reduceMod, Nat.reduceDiv, Nat.reduceEqDiff, Nat.reduceBEq, Nat.reduceLeDiff, ↓reduceIte, reduceCtorEq, Int.reduceAdd, Int.reduceSub, Int.reduceLT, Int.reduceLE, Int.reduceBEq, Int.reduceEq, Int.reduceToNat, ir24_l1, t0, t4, t5, t6, t8, t9, hbt2, hbt3, hbt5, hRt, hu2, eA]
    refine ⟨.inl (by omega), .inl (by omega), ?_⟩
    have hgA : ∀ b, b < g2.n → gA.get b = g2.get b := fun b hb => by rw [kA b (by omega)]; exact hgo b hb
    have hml : ∀ m ∈ mks, m < g.n := fun m hm => Heap.lt_of_get (hmm m hm).2
    obtain ⟨xs, exs⟩ : ∃ xs, xs = heldI S S.n := ⟨_, rfl⟩
    rw [← exs] at hG hxl hxn
    have hasc : xs.Pairwise (· < ·) := by rw [exs]; exact heldI_asc S S.n
    have hheld : ∀ x ∈ xs, x < S.n ∧ S.ho x ≠ 0 := by rw [exs]; exact heldI_lt S S.n
    refine range54 (P := 56) (X := 12) (cb := ir24_b1) (hA := g2) (b1 := h0.n) (S := S) (xs := xs) (fun b => b = g.n ∨ b = g.n + 1)
      (fun p g' => gA.n ≤ g'.n ∧ (∀ b, b < g.n → g'.get b = g.get b) ∧ (∃ c, g'.get g.n = some (.cells c 3) ∧ c.size = 1 ∧ c.ro = false ∧ c.get 0 = .int .i64 (p : Nat)) ∧ ∃ c, g'.get (g.n + 1) = some (.cells c 3) ∧ c.size = 1 ∧ c.ro = false ∧ c.get 0 = .int .i64 (lastOf xs p))
      (fun e g' => e = .exit 6 ∧ gA.n ≤ g'.n ∧ (∀ b, b < g.n → g'.get b = g.get b) ∧ (∃ c, g'.get g.n = some (.cells c 3) ∧ c.size = 1 ∧ c.ro = false ∧ c.get 0 = .int .i64 leave) ∧ u = 0)
      (by simp -implicitDefEqProofs (disch := (first | omega | (simp -implicitDefEqProofs only [szs, ne_eq] <;> omega) | fail)) only [go_sem, Nat.reduceAdd, Nat.reduceSub, Nat.reduceMul, Nat.reduceLT, Nat.reduceMod, Nat.reduceDiv, Nat.reduceEqDiff, Nat.reduceBEq, Nat.reduceLeDiff, ↓reduceIte, reduceCtorEq, Int.reduceAdd, Int.reduceSub, Int.reduceLT, Int.reduceLE, Int.reduceBEq, Int.reduceEq, Int.reduceToNat, t8]) hG (by omega) (fun b _ hb => hgA b hb) hxn (fun b => .inr (hR b)) (fun b hb => by rcases hb with hb | rfl | rfl <;> exact .inl (by omega)) ⟨Nat.le_refl _, kA, ⟨_, bA, rfl, rfl, rfl⟩, ⟨_, bB, rfl, rfl, rfl⟩⟩
      (fun p g' g'' ⟨i1, i2, ⟨c, i3, i5⟩, ⟨c', i6, i7⟩⟩ j1 j2 => ⟨by omega, fun b hb => by rw [j2 b (by omega) (by omega) (by omega)]; exact i2 b hb, ⟨c, by rw [j2 _ (by omega) (by omega) (by omega)]; exact i3, i5⟩, ⟨c', by rw [j2 _ (by omega) (by omega) (by omega)]; exact i6, i7⟩⟩)
      (fun e g' g'' ⟨i1, i2, i3, ⟨c, i4, i5⟩, i6⟩ j1 j2 => ⟨i1, by omega, fun b hb => by rw [j2 b (by omega) (by omega) (by omega)]; exact i3 b hb, ⟨c, by rw [j2 _ (by omega) (by omega) (by omega)]; exact i4, i5⟩, i6⟩)
      (fun p g' ⟨i1, i2, _, _⟩ => ⟨by omega, fun b _ hb => by rw [i2 b (by omega)]; exact hgo b hb⟩)
      ir24_a1_eq ir24_b1_eq (by simp) (by show 56 < 125; omega) (by show 12 < 125; omega) ?_ ?_ ?_
    · rintro R' W' Q1 p c gg sb x rr r1 r2 hcp ⟨i1, i2, ⟨cn, v1, v2, v3, v4⟩, ⟨cl, l1, l2, l3, l4⟩⟩ ng2 hx hdm hdl s0 s1 q0 q1 q2 hnorm hex
      have hR' : ∀ b, R' b := fun b => rr b (.inr (hR b))
      obtain ⟨hcn, hc0⟩ := hheld c (List.mem_of_getElem? hcp)
      have how : Owned S (c : Int) := ⟨by omega, by omega, hc0⟩
      have h2a : ∀ b, b < g2.n → gg.get b = g2.get b := fun b hb => by rw [i2 b (by omega)]; exact hgo b hb
      have hrg := hra.old (by omega) h2a
      have z1 := (h2a h.n (by omega)).trans a1
      have zl := (h2a (h.n + 1) (by omega)).trans a2
      have zt := (i2 bt (Heap.lt_of_get hbt2)).trans hbt2
      have hpl := (List.getElem?_eq_some_iff.1 hcp).1
      have rx := hR' x
      have rn := hR' g.n
      have rn1 := hR' (g.n + 1)
      have rh := hR' h.n
      have rh1 := hR' (h.n + 1)
      have rt := hR' bt
      have wn := r2 g.n (.inl rfl)
      have wn1 := r2 (g.n + 1) (.inr rfl)
      have hbtl := Heap.lt_of_get hbt2
      simp -implicitDefEqProofs (disch := (first | omega | (simp -implicitDefEqProofs only [szs, ne_eq] <;> omega) | fail)) only [go_sem, Nat.reduceAdd, Nat.reduceSub, Nat.reduceMul, Nat.reduceLT, Nat.reduceMod, Nat.reduceDiv, Nat.reduceEqDiff, Nat.reduceBEq, Nat.reduceLeDiff, ↓reduceIte, reduceCtorEq, Int.reduceAdd, Int.reduceSub, Int.reduceLT, Int.reduceLE, Int.reduceBEq, Int.reduceEq, Int.reduceToNat, ir24_b1, t0, t4, t5, t6, t8, t9, z1, rh, s0, s1, q0, rx]
      refine GCallD.of (R' := fun _ => True) (W' := fun _ => False) (rowned_ok hrg w (fun _ => trivial) c).any ?_
      rintro v gx ⟨rfl, rfl⟩
      rw [decide_eq_true how]
      simp -implicitDefEqProofs (disch := (first | omega | (simp -implicitDefEqProofs only [szs, ne_eq] <;> omega) | fail)) only [go_sem, Nat.reduceAdd, Nat.reduceSub, Nat.reduceMul, Nat.reduceLT, Nat.reduceMod, Nat.reduceDiv, Nat.reduceEqDiff, Nat.reduceBEq, Nat.reduceLeDiff, ↓reduceIte, reduceCtorEq, Int.reduceAdd, Int.reduceSub, Int.reduceLT, Int.reduceLE, Int.reduceBEq, Int.reduceEq, Int.reduceToNat, undefV, t4, z1, rh, s0, s1, q0, q1, q2, rx]
      refine GCallD.of (R' := fun _ => True) (W' := fun _ => False) (rof_ok hrg (fun _ => trivial) hcn).any ?_
      rintro v g5 ⟨rfl, n5, k5⟩
      have heq := fr_eq (c : Int) (S.ow c) (S.ho c)
      have hlt := lastOf_lt hasc hcp
      have hle : ¬ (c : Int) ≤ lastOf xs p := by omega
      have s05 := (k5 x (by omega)).trans s0
      have v15 := (k5 _ (Heap.lt_of_get v1)).trans v1
      have l15 := (k5 _ (Heap.lt_of_get l1)).trans l1
      have zl5 := (k5 (h.n + 1) (Heap.lt_of_get zl)).trans zl
      have zt5 := (k5 bt (Heap.lt_of_get zt)).trans zt
      have hln := Heap.lt_of_get v15
      have hll := Heap.lt_of_get l15
      have hu01 : u = 0 ∨ u = 1 := by omega
      have hKeep : ∀ (y z : O) b, b < g.n → ((g5.set (g.n + 1) y).set g.n z).get b = g.get b := fun y z b hb => by rw [w_set_ne (by simpa using hln) (by omega), w_set_ne hll (by omega), k5 b (by have := Heap.lt_of_get v1; omega)]; exact i2 b hb
      have hOth : ∀ (y z : O) b, b ≠ g.n → b ≠ g.n + 1 → b < gx.n → ((g5.set (g.n + 1) y).set g.n z).get b = gx.get b := fun y z b hb hb2 hb3 => by rw [w_set_ne (by simpa using hln) hb, w_set_ne hll hb2]; exact k5 b hb3
      rcases hu01 with rfl | rfl
      · by_cases hle2 : (p : Int) + 1 = leave
        · have hb : ((p : Int) + 1 == leave) = true := by simp [hle2]
          simp -implicitDefEqProofs (disch := (first | omega | (simp -implicitDefEqProofs only [szs, ne_eq] <;> omega) | fail)) only [go_sem, Nat.reduceAdd, Nat.reduceSub, Nat.reduceMul, Nat.reduceLT, Nat.reduceMod, Nat.reduceDiv, Nat.reduceEqDiff, Nat.reduceBEq, Nat.reduceLeDiff, ↓reduceIte, reduceCtorEq, Int.reduceAdd, Int.reduceSub, Int.reduceLT, Int.reduceLE, Int.reduceBEq, Int.reduceEq, Int.reduceToNat, t4, t5, t9, s05, s1, q0, rx, undefV, ↓eg_46, heq, l15, l2, l3, l4, rn1, wn1, hle, v15, v2, v3, v4, rn, wn, zt5, hbt3, hbt5, rt, zl5, rh1, hb]
          refine ⟨?_, ⟨fun _ => rh, fun b _ _ => hR' b, fun b _ h => h.elim, fun _ => rh, fun b _ _ => hR' b, fun b _ h => h.elim⟩, ?_⟩
          · simp only [List.not_mem_nil, or_false, false_or, and_false, false_and, false_implies, implies_true, not_false_eq_true, List.mem_singleton, List.mem_cons, and_true, true_and]
            all_goals (try and_intros)
            all_goals (intros; omega)
          exact hex (.exit 6) _ _ (by simp) (by simp; omega) (hOth _ _ _ (by omega) (by omega) (by omega)) (hOth _ _ _ (by omega) (by omega) (by omega)) ⟨rfl, by simp; omega, hKeep _ _, ⟨_, w_set_eq (by simpa using hln) rfl _, by rw [Blk.size_set]; exact v2, by rw [Blk.ro_set]; exact v3, by rw [w_bset_eq rfl, hle2]⟩, rfl⟩
        · have hb : ((p : Int) + 1 == leave) = false := by simpa using hle2
          simp -implicitDefEqProofs (disch := (first | omega | (simp -implicitDefEqProofs only [szs, ne_eq] <;> omega) | fail)) only [go_sem, Nat.reduceAdd, Nat.reduceSub, Nat.reduceMul, Nat.reduceLT, Nat.reduceMod, Nat.reduceDiv, Nat.reduceEqDiff, Nat.reduceBEq, Nat.reduceLeDiff, ↓reduceIte, reduceCtorEq, Int.reduceAdd, Int.reduceSub, Int.reduceLT, Int.reduceLE, Int.reduceBEq, Int.reduceEq, Int.reduceToNat, t4, t5, t9, s05, s1, q0, rx, undefV, ↓eg_46, heq, l15, l2, l3, l4, rn1, wn1, hle, v15, v2, v3, v4, rn, wn, zt5, hbt3, hbt5, rt, zl5, rh1, hb]
          refine ⟨?_, ⟨fun _ => rh, fun b _ _ => hR' b, fun b _ h => h.elim, fun _ => rh, fun b _ _ => hR' b, fun b _ h => h.elim⟩, ?_⟩
          · simp only [List.not_mem_nil, or_false, false_or, and_false, false_and, false_implies, implies_true, not_false_eq_true, List.mem_singleton, List.mem_cons, and_true, true_and]
            all_goals (try and_intros)
            all_goals (intros; omega)
          exact hnorm _ _ (by simp; omega) (hOth _ _ _ (by omega) (by omega) (by omega)) (hOth _ _ _ (by omega) (by omega) (by omega)) ⟨by simp; omega, hKeep _ _, ⟨_, w_set_eq (by simpa using hln) rfl _, by rw [Blk.size_set]; exact v2, by rw [Blk.ro_set]; exact v3, by rw [w_bset_eq rfl]; simp⟩, ⟨_, by rw [w_set_ne (by simpa using hln) (by omega)]; exact w_set_eq hll rfl _, by rw [Blk.size_set]; exact l2, by rw [Blk.ro_set]; exact l3, by rw [w_bset_eq rfl, lastOf_succ hcp]⟩⟩
      · simp -implicitDefEqProofs (disch := (first | omega | (simp -implicitDefEqProofs only [szs, ne_eq] <;> omega) | fail)) only [go_sem, Nat.reduceAdd, Nat.reduceSub, Nat.reduceMul, Nat.reduceLT, Nat.reduceMod, Nat.reduceDiv, Nat.reduceEqDiff, Nat.reduceBEq, Nat.reduceLeDiff, ↓reduceIte, reduceCtorEq, Int.reduceAdd, Int.reduceSub, Int.reduceLT, Int.reduceLE, Int.reduceBEq, Int.reduceEq, Int.reduceToNat, t4, t5, t9, s05, s1, q0, rx, undefV, ↓eg_46, heq, l15, l2, l3, l4, rn1, wn1, hle, v15, v2, v3, v4, rn, wn, zt5, hbt3, hbt5, rt]
        refine ⟨?_, ⟨fun _ => rh, fun b _ _ => hR' b, fun b _ h => h.elim, fun _ => rh, fun b _ _ => hR' b, fun b _ h => h.elim⟩, ?_⟩
        · simp only [List.not_mem_nil, or_false, false_or, and_false, false_and, false_implies, implies_true, not_false_eq_true, List.mem_singleton, List.mem_cons, and_true, true_and]
          all_goals (try and_intros)
          all_goals (intros; omega)
        exact hnorm _ _ (by simp; omega) (hOth _ _ _ (by omega) (by omega) (by omega)) (hOth _ _ _ (by omega) (by omega) (by omega)) ⟨by simp; omega, hKeep _ _, ⟨_, w_set_eq (by simpa using hln) rfl _, by rw [Blk.size_set]; exact v2, by rw [Blk.ro_set]; exact v3, by rw [w_bset_eq rfl]; simp⟩, ⟨_, by rw [w_set_ne (by simpa using hln) (by omega)]; exact w_set_eq hll rfl _, by rw [Blk.size_set]; exact l2, by rw [Blk.ro_set]; exact l3, by rw [w_bset_eq rfl, lastOf_succ hcp]⟩⟩
    · rintro gC ⟨i1, i2, ⟨cn, v1, v2, v3, v4⟩, _⟩ hn hd
      have h2a : ∀ b, b < g2.n → gC.get b = g2.get b := fun b hb => by rw [i2 b (by omega)]; exact hgo b hb
      have hrC := hra.old (by omega) h2a
      have z1 := (h2a h.n (by omega)).trans a1
      have zl := (h2a (h.n + 1) (by omega)).trans a2
      have p1C := (h2a rd d1).trans p1
      have zt := (i2 bt (Heap.lt_of_get hbt2)).trans hbt2
      have hRg := hR g.n
      have hRh := hR h.n
      have hRl := hR (h.n + 1)
      have hu01 : u = 0 ∨ u = 1 := by omega
      obtain ⟨gN, eN, nN, ⟨cN, bN, bN1, bN2, bN3⟩, kN⟩ := turn_heap gC u
      have fin2 : ((gA.n :: mks).Nodup ∧ ∀ m, m ∈ gA.n :: mks → g2.n ≤ m ∧ gN.get m = some (O.deferred true)) := ⟨List.nodup_cons.2 ⟨fun hm => by have := hml _ hm; omega, hmn⟩, fun m hm => by
        rcases List.mem_cons.1 hm with rfl | hm
        · exact ⟨by omega, by rw [kN _ (by omega)]; exact hd⟩
        · have := hml m hm
          exact ⟨(hmm m hm).1, by rw [kN m (by omega), i2 m (by omega)]; exact (hmm m hm).2⟩⟩
      have fin3 : ∀ b, b < g2.n → gN.get b = g2.get b := fun b hb => by rw [kN b (by omega)]; exact h2a b hb
      simp -implicitDefEqProofs (disch := (first | omega | (simp -implicitDefEqProofs only [szs, ne_eq] <;> omega) | fail)) only [go_sem, Nat.reduceAdd, Nat.reduceSub, Nat.reduceMul, Nat.reduceLT, Nat.reduceMod, Nat.reduceDiv, Nat.reduceEqDiff, Nat.reduceBEq, Nat.reduceLeDiff, ↓reduceIte, reduceCtorEq, Int.reduceAdd, Int.reduceSub, Int.reduceLT, Int.reduceLE, Int.reduceBEq, Int.reduceEq, Int.reduceToNat, t4, v1, v2, v4, hRg, z1, hRh, p1C, p2, p3, hRd]
      refine GCallD.of (R' := fun _ => True) (W' := fun _ => False) (rfree_ok hrC w (fun _ => trivial)).any ?_
      rintro v gx ⟨rfl, rfl⟩
      have hnl : (((xs.length : Nat) : Int) != (S.n : Int) - cnt (fun i => decide (S.ho i = 0)) S.n) = false := by simp; omega
      simp -implicitDefEqProofs (disch := (first | omega | (simp -implicitDefEqProofs only [szs, ne_eq] <;> omega) | fail)) only [go_sem, Nat.reduceAdd, Nat.reduceSub, Nat.reduceMul, Nat.reduceLT, Nat.reduceMod, Nat.reduceDiv, Nat.reduceEqDiff, Nat.reduceBEq, Nat.reduceLeDiff, ↓reduceIte, reduceCtorEq, Int.reduceAdd, Int.reduceSub, Int.reduceLT, Int.reduceLE, Int.reduceBEq, Int.reduceEq, Int.reduceToNat, t9, hnl, undefV, hRt, zt, hbt3, hbt5, eN]
      refine ⟨?_, ?_, .inl (by omega), .inl (by omega), .inl (by omega), k - 1, by omega, fin2, t0, t4, t5, t6, t8, by omega, fin3, _, gx.n, cN, by omega, rfl, by omega, bN, bN1, bN2, bN3⟩
      · simp only [List.not_mem_nil, or_false, false_or, and_false, false_and, false_implies, implies_true, not_false_eq_true, List.mem_singleton, List.mem_cons, and_true, true_and]
        all_goals (try and_intros)
        all_goals (intros; omega)
      · and_intros
        all_goals (intros; first | exact .inr (hR _) | exact False.elim ‹False›)
    · rintro e gC ⟨rfl, i1, i2, ⟨cn, v1, v2, v3, v4⟩, rfl⟩ _ hn hd
      have h2a : ∀ b, b < g2.n → gC.get b = g2.get b := fun b hb => by rw [i2 b (by omega)]; exact hgo b hb
      have hrC := hra.old (by omega) h2a
      have z1 := (h2a h.n (by omega)).trans a1
      have zl := (h2a (h.n + 1) (by omega)).trans a2
      have p1C := (h2a rd d1).trans p1
      have zt := (i2 bt (Heap.lt_of_get hbt2)).trans hbt2
      have hRg := hR g.n
      have hRh := hR h.n
      have hRl := hR (h.n + 1)
      obtain ⟨gN, eN, nN, ⟨cN, bN, bN1, bN2, bN3⟩, kN⟩ := turn_heap gC 0
      have fin2 : ((gA.n :: mks).Nodup ∧ ∀ m, m ∈ gA.n :: mks → g2.n ≤ m ∧ gN.get m = some (O.deferred true)) := ⟨List.nodup_cons.2 ⟨fun hm => by have := hml _ hm; omega, hmn⟩, fun m hm => by
        rcases List.mem_cons.1 hm with rfl | hm
        · exact ⟨by omega, by rw [kN _ (by omega)]; exact hd⟩
        · have := hml m hm
          exact ⟨(hmm m hm).1, by rw [kN m (by omega), i2 m (by omega)]; exact (hmm m hm).2⟩⟩
      have fin3 : ∀ b, b < g2.n → gN.get b = g2.get b := fun b hb => by rw [kN b (by omega)]; exact h2a b hb
      simp -implicitDefEqProofs (disch := (first | omega | (simp -implicitDefEqProofs only [szs, ne_eq] <;> omega) | fail)) only [go_sem, Nat.reduceAdd, Nat.reduceSub, Nat.reduceMul, Nat.reduceLT, Nat.reduceMod, Nat.reduceDiv, Nat.reduceEqDiff, Nat.reduceBEq, Nat.reduceLeDiff, ↓reduceIte, reduceCtorEq, Int.reduceAdd, Int.reduceSub, Int.reduceLT, Int.reduceLE, Int.reduceBEq, Int.reduceEq, Int.reduceToNat, t4, v1, v2, v4, hRg, z1, hRh, p1C, p2, p3, hRd]
      refine GCallD.of (R' := fun _ => True) (W' := fun _ => False) (rfree_ok hrC w (fun _ => trivial)).any ?_
      rintro v gx ⟨rfl, rfl⟩
      by_cases hll : leave = (S.n : Int) - cnt (fun i => decide (S.ho i = 0)) S.n
      · have hnl : (leave != (S.n : Int) - cnt (fun i => decide (S.ho i = 0)) S.n) = false := by simp [hll]
        simp -implicitDefEqProofs (disch := (first | omega | (simp -implicitDefEqProofs only [szs, ne_eq] <;> omega) | fail)) only [go_sem, Nat.reduceAdd, Nat.reduceSub, Nat.reduceMul, Nat.reduceLT, Nat.reduceMod, Nat.reduceDiv, Nat.reduceEqDiff, Nat.reduceBEq, Nat.reduceLeDiff, ↓reduceIte, reduceCtorEq, Int.reduceAdd, Int.reduceSub, Int.reduceLT, Int.reduceLE, Int.reduceBEq, Int.reduceEq, Int.reduceToNat, t9, hnl, undefV, hRt, zt, hbt3, hbt5, eN]
        refine ⟨?_, ?_, .inl (by omega), .inl (by omega), .inl (by omega), k - 1, by omega, fin2, t0, t4, t5, t6, t8, by omega, fin3, _, gx.n, cN, by omega, rfl, by omega, bN, bN1, bN2, bN3⟩
        · simp only [List.not_mem_nil, or_false, false_or, and_false, false_and, false_implies, implies_true, not_false_eq_true, List.mem_singleton, List.mem_cons, and_true, true_and]
          all_goals (try and_intros)
          all_goals (intros; omega)
        · and_intros
          all_goals (intros; first | exact .inr (hR _) | exact False.elim ‹False›)
      · have hnl : (leave != (S.n : Int) - cnt (fun i => decide (S.ho i = 0)) S.n) = true := by simpa using hll
        simp -implicitDefEqProofs (disch := (first | omega | (simp -implicitDefEqProofs only [szs, ne_eq] <;> omega) | fail)) only [go_sem, Nat.reduceAdd, Nat.reduceSub, Nat.reduceMul, Nat.reduceLT, Nat.reduceMod, Nat.reduceDiv, Nat.reduceEqDiff, Nat.reduceBEq, Nat.reduceLeDiff, ↓reduceIte, reduceCtorEq, Int.reduceAdd, Int.reduceSub, Int.reduceLT, Int.reduceLE, Int.reduceBEq, Int.reduceEq, Int.reduceToNat, t5, t9, hnl, undefV, hRt, zt, hbt3, hbt5, eN, v1, v2, v4, hRg, zl, hRl, hne]
        refine ⟨?_, ?_, .inl (by omega), .inl (by omega), .inl (by omega), k - 1, by omega, fin2, t0, t4, t6, t8, by omega, fin3, _, gx.n, cN, by omega, rfl, by omega, bN, bN1, bN2, bN3⟩
        · simp only [List.not_mem_nil, or_false, false_or, and_false, false_and, false_implies, implies_true, not_false_eq_true, List.mem_singleton, List.mem_cons, and_true, true_and]
          all_goals (try and_intros)
          all_goals (intros; omega)
        · and_intros
          all_goals (intros; first | exact .inr (hR _) | exact False.elim ‹False›)
  · obtain rfl : u = 2 := by omega
    have z1 := (hgo h.n (by omega)).trans a1
    have z3 := (hgo (h.n + 1 + 1) (by omega)).trans a3
    have p1g := (hgo rd d1).trans p1
    have hlp := Heap.lt_of_get z3
    have hRt := hR bt
    have hRh := hR h.n
    simp -implicitDefEqProofs (disch := (first | omega | (simp -implicitDefEqProofs only [szs, ne_eq] <;> omega) | fail)) only [go_sem, Nat.reduceAdd, Nat.reduceSub, Nat.reduceMul, Nat.reduceLT, Nat.reduceMod, Nat.reduceDiv, Nat.reduceEqDiff, Nat.reduceBEq, Nat.reduceLeDiff, ↓reduceIte, reduceCtorEq, Int.reduceAdd, Int.reduceSub, Int.reduceLT, Int.reduceLE, Int.reduceBEq, Int.reduceEq, Int.reduceToNat, ir24_l1, t0, t4, t5, t6, t8, t9, hbt2, hbt3, hbt5, hRt, z1, hRh]
    refine GCallD.of (R' := fun _ => True) (W' := fun _ => False) (frame_ok (hpa.old hgo) (hra.old hgn hgo) w (fun _ => trivial) (-1)).any ?_
    rintro v f1 ⟨rfl, n1, k1⟩
    have z11 := (k1 h.n (by omega)).trans z1
    have p11 := (k1 rd (by omega)).trans p1g
    have k1' : ∀ b, b < g2.n → f1.get b = g2.get b := fun b hb => by rw [k1 b (by omega)]; exact hgo b hb
    simp -implicitDefEqProofs (disch := (first | omega | (simp -implicitDefEqProofs only [szs, ne_eq] <;> omega) | fail)) only [go_sem, Nat.reduceAdd, Nat.reduceSub, Nat.reduceMul, Nat.reduceLT, Nat.reduceMod, Nat.reduceDiv, Nat.reduceEqDiff, Nat.reduceBEq, Nat.reduceLeDiff, ↓reduceIte, reduceCtorEq, Int.reduceAdd, Int.reduceSub, Int.reduceLT, Int.reduceLE, Int.reduceBEq, Int.reduceEq, Int.reduceToNat, t0, t4, z11, hRh, p11, p2, p3, hRd, undefV]
    refine GCallD.of (R' := fun _ => True) (W' := fun _ => False) (frame_ok (hpa.old k1') (hra.old (by omega) k1') w (fun _ => trivial) S.n).any ?_
    rintro v f2 ⟨rfl, n2, k2⟩
    have z12 := (k2 h.n (by omega)).trans z11
    have k2' : ∀ b, b < g2.n → f2.get b = g2.get b := fun b hb => by rw [k2 b (by omega)]; exact k1' b hb
    simp -implicitDefEqProofs (disch := (first | omega | (simp -implicitDefEqProofs only [szs, ne_eq] <;> omega) | fail)) only [go_sem, Nat.reduceAdd, Nat.reduceSub, Nat.reduceMul, Nat.reduceLT, Nat.reduceMod, Nat.reduceDiv, Nat.reduceEqDiff, Nat.reduceBEq, Nat.reduceLeDiff, ↓reduceIte, reduceCtorEq, Int.reduceAdd, Int.reduceSub, Int.reduceLT, Int.reduceLE, Int.reduceBEq, Int.reduceEq, Int.reduceToNat, t0, t4, z12, hRh, undefV]
    refine GCallD.of (R' := fun _ => True) (W' := fun _ => False) (pages_ok (hpa.old k2') (hra.old (by omega) k2') w (fun _ => trivial)).any ?_
    rintro v f3 ⟨rfl, n3, k3⟩
    have z33 : f3.get (h.n + 1 + 1) = _ := (k3 _ (by omega)).trans ((k2' _ (by omega)).trans a3)
    simp -implicitDefEqProofs (disch := (first | omega | (simp -implicitDefEqProofs only [szs, ne_eq] <;> omega) | fail)) only [go_sem, Nat.reduceAdd, Nat.reduceSub, Nat.reduceMul, Nat.reduceLT, Nat.reduceMod, Nat.reduceDiv, Nat.reduceEqDiff, Nat.reduceBEq, Nat.reduceLeDiff, ↓reduceIte, reduceCtorEq, Int.reduceAdd, Int.reduceSub, Int.reduceLT, Int.reduceLE, Int.reduceBEq, Int.reduceEq, Int.reduceToNat, t6, undefV, z33]
    refine ⟨?_, fin_all hmn (fun m hm => ?_) fun h' en ek => ?_⟩
    · and_intros
      all_goals (intros; first | exact .inr (hR _) | exact False.elim ‹False› | exact .inl (by omega))
    · have := Heap.lt_of_get (hmm m hm).2
      exact ⟨by rw [w_set_ne (by omega) (by have := (hmm m hm).1; omega), k3 m (by omega), k2 m (by omega), k1 m (by omega)]; exact (hmm m hm).2, .inl (by have := (hmm m hm).1; omega)⟩
    · have p5 : h'.get (h.n + 1 + 1) = _ := (ek (h.n + 1 + 1) (fun hm => by have := (hmm _ hm).1; omega)).trans (w_set_eq (by omega) rfl _)
      rw [fin_ret]
      simp -implicitDefEqProofs (disch := (first | omega | (simp -implicitDefEqProofs only [szs, ne_eq] <;> omega) | fail)) only [go_sem, Nat.reduceAdd, Nat.reduceSub, Nat.reduceMul, Nat.reduceLT, Nat.reduceMod, Nat.reduceDiv, Nat.reduceEqDiff, Nat.reduceBEq, Nat.reduceLeDiff, ↓reduceIte, reduceCtorEq, Int.reduceAdd, Int.reduceSub, Int.reduceLT, Int.reduceLE, Int.reduceBEq, Int.reduceEq, Int.reduceToNat, t6, p5]
      rw [Heap.n_set] at en
      refine ⟨.inl (by omega), by omega, fun b hb => ?_⟩
      rw [ek b (fun hm => by have := (hmm _ hm).1; omega), w_set_ne (by omega) (by omega), k3 b (by omega), k2' b (by omega)]
      exact hold b hb
end Go.Proofs.Ytfgdpgagcnelpaa
