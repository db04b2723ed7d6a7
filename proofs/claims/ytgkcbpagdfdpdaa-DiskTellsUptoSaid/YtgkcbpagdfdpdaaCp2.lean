/- Copy as a whole. -/
import Derived.Test.YtgkcbpagdfdpdaaCp
set_option linter.unusedVariables false
set_option linter.unusedSimpArgs false
set_option linter.unusedSimpArgs false
set_option maxRecDepth 100000
set_option linter.unusedVariables false
set_option linter.unusedSimpArgs false
namespace Go.Proofs.Ytgkcbpagdfdpdaa
open Go Go.Vm
attribute [-go_sem] sz_67
theorem cp_range {n0 : Nat} {h0 g : Heap} {R W : Set'} {Q' : Ex → Fr → Heap → Prop} {t : List It} {bd : Nat} {L L0 : DL} {D : DS} (hn0 : h0.n = n0) (hd : DiskAt h0 bd L D) (hR : ∀ b, R b) (hW : ∀ b, n0 ≤ b → W b) (gn : g.n = n0 + 6) (hold : ∀ b, b < n0 → g.get b = h0.get b)
    (hb : ∃ c, g.get (n0 + 4) = some (.cells c 26) ∧ c.size = 1 ∧ c.get 0 = .ptr (some (n0 + 3, 0))) (hd0 : DiskAt g (n0 + 3) L0 (cpD D [])) (hL0 : L0.fb = n0 + 1 ∧ L0.mb = n0 + 2) (hkb : ∃ c, g.get (n0 + 5) = some (.cells c 52) ∧ c.size = 1 ∧ c.get 0 = .map (some L.mb))
    {tr : Tr V} (hk : ∀ g3 L', n0 + 8 ≤ g3.n → (∀ b, b < n0 → g3.get b = h0.get b) → (∃ c, g3.get (n0 + 4) = some (.cells c 26) ∧ c.size = 1 ∧ c.get 0 = .ptr (some (n0 + 3, 0))) → g3.get (n0 + 6) = some (.deferred true) → DiskAt g3 (n0 + 3) L' D → (∀ b, Foot (n0 + 3) L' D b → n0 ≤ b ∧ b < g3.n ∧ b ≠ n0 + 6) → GO ⟨Try.prog, true⟩ R W none Q' t ⟨⟨36, tr⟩, [n0 + 6]⟩ g3)
    (t3 : tr.get 3 = some (.ptr (some (n0 + 4, 0)))) (t25 : tr.get 25 = some (.func 55 [] [.ptr (some (n0 + 5, 0))])) : GRange ⟨Try.prog, true⟩ R W none Q' (Operand.tmp 25) #[26, 27] (rc41 0).1 (rc41 0).2 t ⟨⟨36, tr⟩, []⟩ g := by
  refine GRange.outer (k := 55) (xs := []) (ys := [.ptr (some (n0 + 5, 0))]) (by simp -implicitDefEqProofs (disch := (first | omega | (simp -implicitDefEqProofs only [szs, ne_eq] <;> omega) | fail)) only [go_sem, Nat.reduceAdd, Nat.reduceSub, Nat.reduceMul, Nat.reduceLT, Nat.reduceMod, Nat.reduceDiv, Nat.reduceEqDiff, Nat.reduceBEq, Nat.reduceLeDiff, ↓reduceIte, reduceCtorEq, Int.reduceAdd, Int.reduceSub, Int.reduceLT, Int.reduceLE, Int.reduceBEq, Int.reduceEq, Int.reduceToNat, t25]) ca_55 ?_
  obtain ⟨c, b1, b2⟩ := hb
  obtain ⟨ck, k1, k2⟩ := hkb
  rw [gn]
  refine SF.mono (cp_dem (n0 := n0) (h0 := h0) (kb := n0 + 5) (tr := tr) hn0 hd ⟨by simp; omega, fun x hx => by rw [w_push_ne (by simp; omega), w_push_ne (by omega)]; exact hold x hx, ⟨c, by rw [w_push_ne (by simp; omega), w_push_ne (by omega)]; exact b1, b2⟩, by rw [w_push_ne (by simp; omega), w_push_eq (by omega)], by rw [w_push_eq (by simp; omega)], L0, hd0.old fun b hb => by rw [w_push_ne (by simp; omega), w_push_ne (by omega)], hL0.1, hL0.2, fun x hx => absurd rfl hx⟩ (by simp; omega) t3 rfl ⟨ck, by rw [w_push_ne (by simp; omega), w_push_ne (by omega)]; exact k1, k2⟩ hR hW) ?_
  rintro v g2 ⟨l, hc, hpe⟩
  have n := hc.n
  obtain ⟨L', d1, d2, d3, d4⟩ := hc.disk
  have hcd : cpD D l = D := by
    show DS.mk D.n D.fl (cpD D l).pe D.wr = D
    rw [show (cpD D l).pe = D.pe from funext hpe]
  rw [hcd] at d1 d4
  have l7 : n0 + 7 < g2.n := by omega
  refine ⟨_, hc.loop, by simp, hW _ (by omega), ?_⟩
  have hf : ∀ b, Foot (n0 + 3) L' D b → n0 ≤ b ∧ b < g2.n ∧ b ≠ n0 + 6 ∧ b ≠ n0 + 7 := fun b hb => by
    rcases hb with rfl | rfl | rfl | ⟨y, hy, rfl⟩
    · omega
    · omega
    · omega
    · have := d4 y hy; omega
  obtain ⟨c', x1, x2⟩ := hc.box
  exact hk _ L' (by rw [Heap.n_set]; omega) (fun b hb => by rw [w_set_ne l7 (by omega)]; exact hc.old b hb) ⟨c', by rw [w_set_ne l7 (by omega)]; exact x1, x2⟩ (by rw [w_set_ne l7 (by omega)]; exact hc.mark) (d1.same fun b hb _ => w_set_ne l7 (hf b hb).2.2.2 _) (fun b hb => ⟨(hf b hb).1, by rw [Heap.n_set]; exact (hf b hb).2.1, (hf b hb).2.2.1⟩)
set_option maxHeartbeats 1000000 in
theorem copy_ok {h : Heap} {R W : Set'} {bd : Nat} {L : DL} {D : DS} (hd : DiskAt h bd L D) (hR : ∀ b, R b) :
    SF ⟨Try.prog, true⟩ 41 [.ptr (some (bd, 0))] h R W fun v h' => ∃ bd' L', v = .ptr (some (bd', 0)) ∧ DiskAt h' bd' L' D ∧ (∀ b, Foot bd' L' D b → h.n ≤ b ∧ b < h'.n) ∧ h.n ≤ h'.n ∧ ∀ b, b < h.n → h'.get b = h.get b := by
  obtain ⟨c, h1, sz, ro, c0, c1, c2⟩ := hd.d
  obtain ⟨f0, f1, fs, fro, fg⟩ := hd.f
  have hp := hd.pos
  have hR1 := hR bd
  have hlt1 := Heap.lt_of_get h1
  have hN := secN_eq
  refine SF.go hm Try.func41 ir41_eq ?_
  simp -implicitDefEqProofs (disch := (first | omega | (simp -implicitDefEqProofs only [szs, ne_eq] <;> omega) | fail)) only [go_sem, Nat.reduceAdd, Nat.reduceSub, Nat.reduceMul, Nat.reduceLT, Nat.reduceMod, Nat.reduceDiv, Nat.reduceEqDiff, Nat.reduceBEq, Nat.reduceLeDiff, ↓reduceIte, reduceCtorEq, Int.reduceAdd, Int.reduceSub, Int.reduceLT, Int.reduceLE, Int.reduceBEq, Int.reduceEq, Int.reduceToNat, ir41]
  refine GCall.of (there_ok hd (.inr hR1)).any ?_
  rintro w h' ⟨rfl, rfl⟩
  simp -implicitDefEqProofs (disch := (first | omega | (simp -implicitDefEqProofs only [szs, ne_eq] <;> omega) | fail)) only [go_sem, Nat.reduceAdd, Nat.reduceSub, Nat.reduceMul, Nat.reduceLT, Nat.reduceMod, Nat.reduceDiv, Nat.reduceEqDiff, Nat.reduceBEq, Nat.reduceLeDiff, ↓reduceIte, reduceCtorEq, Int.reduceAdd, Int.reduceSub, Int.reduceLT, Int.reduceLE, Int.reduceBEq, Int.reduceEq, Int.reduceToNat, undefV, h1, c0]
  refine GCallD.of (R' := fun b => b = L.fb) (W' := fun _ => False) (clone_ok (ce := 67) f1 (by omega) (by omega) (by omega) rfl) ?_
  rintro w h2 ⟨rfl, eh2⟩
  have n2 : h2.n = h'.n + 2 := by rw [eh2]; simp
  have k2 : ∀ b, b < h'.n → h2.get b = h'.get b := fun b hb => by rw [eh2, w_push_ne (by simp; omega), w_push_ne (by omega)]
  have c2' : h2.get (h'.n + 1) = some (.cells (Blk.of (f0.gets 0 (D.n * 128))) 67) := by rw [eh2]; exact w_push_eq (by simp) _
  have h1' := (k2 bd hlt1).trans h1
  clear eh2
  simp -implicitDefEqProofs (disch := (first | omega | (simp -implicitDefEqProofs only [szs, ne_eq] <;> omega) | fail)) only [go_sem, Nat.reduceAdd, Nat.reduceSub, Nat.reduceMul, Nat.reduceLT, Nat.reduceMod, Nat.reduceDiv, Nat.reduceEqDiff, Nat.reduceBEq, Nat.reduceLeDiff, ↓reduceIte, reduceCtorEq, Int.reduceAdd, Int.reduceSub, Int.reduceLT, Int.reduceLE, Int.reduceBEq, Int.reduceEq, Int.reduceToNat, h1', c1, c2, hR1]
  obtain ⟨g, eg, gn, hold, gm, gs, gb, g1⟩ : ∃ g, ((((h2.push (O.map [] 0)).push (O.cells (Blk.of [V.slice (some (h'.n + 1, 0)) D.n D.n false, V.map (some h2.n), V.int IntKind.i64 D.wr]) 54)).push (O.cells (Blk.of [V.ptr none]) 26)).set (h2.n + 1 + 1) (O.cells ((Blk.of [V.ptr none]).set 0 (V.ptr (some (h2.n + 1, 0)))) 26)) = g ∧ g.n = h'.n + 5 ∧ (∀ b, b < h'.n → g.get b = h'.get b) ∧ g.get (h'.n + 2) = some (.map [] 0) ∧ g.get (h'.n + 3) = some (O.cells (Blk.of [V.slice (some (h'.n + 1, 0)) D.n D.n false, V.map (some (h'.n + 2)), V.int IntKind.i64 D.wr]) 54) ∧ (∃ c, g.get (h'.n + 4) = some (.cells c 26) ∧ c.size = 1 ∧ c.get 0 = .ptr (some (h'.n + 3, 0))) ∧ g.get (h'.n + 1) = some (.cells (Blk.of (f0.gets 0 (D.n * 128))) 67) := by
    refine ⟨_, rfl, by simp; omega, fun b hb => ?_, ?_, ?_, ⟨_, by rw [n2]; exact w_set_eq (by simp; omega) (by omega) _, rfl, ?_⟩, ?_⟩
    · rw [w_set_ne (by simp) (by omega), w_push_ne (by simp; omega), w_push_ne (by simp; omega), w_push_ne (by omega), k2 b hb]
    · rw [w_set_ne (by simp) (by omega), w_push_ne (by simp; omega), w_push_ne (by simp; omega), w_push_eq (by omega)]
    · rw [w_set_ne (by simp) (by omega), w_push_ne (by simp; omega), w_push_eq (by simp; omega), n2]
    · rw [w_bset_eq rfl]
    · rw [w_set_ne (by simp) (by omega), w_push_ne (by simp; omega), w_push_ne (by simp; omega), w_push_ne (by omega), c2']
  rw [eg]
  refine ⟨by (try simp only [List.not_mem_nil, or_false, false_or, and_false, false_and, false_implies, implies_true, not_false_eq_true, List.mem_singleton, List.mem_cons, and_true, true_and, forall_const]; try and_intros; all_goals (try trivial); all_goals (intro b hb; first | omega | (intro hc; first | omega | (rcases hb with hb | hb <;> first | omega)))), ?_, ?_⟩
  · and_intros
    all_goals (intros; first | exact .inr (hR _) | exact (by assumption : False).elim | exact .inl (by omega))
  have h1g := (hold bd hlt1).trans h1
  simp -implicitDefEqProofs (disch := (first | omega | (simp -implicitDefEqProofs only [szs, ne_eq] <;> omega) | fail)) only [go_sem, Nat.reduceAdd, Nat.reduceSub, Nat.reduceMul, Nat.reduceLT, Nat.reduceMod, Nat.reduceDiv, Nat.reduceEqDiff, Nat.reduceBEq, Nat.reduceLeDiff, ↓reduceIte, reduceCtorEq, Int.reduceAdd, Int.reduceSub, Int.reduceLT, Int.reduceLE, Int.reduceBEq, Int.reduceEq, Int.reduceToNat, h1g, c1, hR1, n2]
  refine GCall.of all_ok.any ?_
  rintro v g2 ⟨rfl, eg2⟩
  have n3 : g2.n = h'.n + 6 := by rw [eg2]; simp; omega
  have k3 : ∀ b, b < g.n → g2.get b = g.get b := fun b hb => by rw [eg2]; exact w_push_ne (by omega) _
  have c3 : g2.get (h'.n + 5) = some (.cells (Blk.of [.map (some L.mb)]) 52) := by rw [eg2]; exact w_push_eq (by omega) _
  rw [gn]
  simp -implicitDefEqProofs (disch := (first | omega | (simp -implicitDefEqProofs only [szs, ne_eq] <;> omega) | fail)) only [go_sem, Nat.reduceAdd, Nat.reduceSub, Nat.reduceMul, Nat.reduceLT, Nat.reduceMod, Nat.reduceDiv, Nat.reduceEqDiff, Nat.reduceBEq, Nat.reduceLeDiff, ↓reduceIte, reduceCtorEq, Int.reduceAdd, Int.reduceSub, Int.reduceLT, Int.reduceLE, Int.reduceBEq, Int.reduceEq, Int.reduceToNat]
  have hd0 : DiskAt g2 (h'.n + 3) (crL h'.n D) (cpD D []) := DiskAt.crashed (f := D.fl) hp ⟨_, by rw [k3 _ (by omega)]; exact gs, rfl, rfl, rfl, rfl, rfl⟩ ⟨_, by rw [k3 _ (by omega)]; exact g1, by rw [w_of_size, Blk.length_gets], rfl, fun s hs => ?_⟩ (by rw [k3 _ (by omega)]; exact gm) hd.fl
  · refine cp_range (n0 := h'.n) (L0 := crL h'.n D) rfl hd (fun b => .inr (hR b)) (fun b hb => .inl hb) n3 (fun b hb => by rw [k3 b (by omega)]; exact hold b hb) ?_ hd0 ⟨rfl, rfl⟩ ⟨_, c3, rfl, rfl⟩ ?_ (by simp -implicitDefEqProofs (disch := (first | omega | (simp -implicitDefEqProofs only [szs, ne_eq] <;> omega) | fail)) only [go_sem, Nat.reduceAdd, Nat.reduceSub, Nat.reduceMul, Nat.reduceLT, Nat.reduceMod, Nat.reduceDiv, Nat.reduceEqDiff, Nat.reduceBEq, Nat.reduceLeDiff, ↓reduceIte, reduceCtorEq, Int.reduceAdd, Int.reduceSub, Int.reduceLT, Int.reduceLE, Int.reduceBEq, Int.reduceEq, Int.reduceToNat]) (by simp -implicitDefEqProofs (disch := (first | omega | (simp -implicitDefEqProofs only [szs, ne_eq] <;> omega) | fail)) only [go_sem, Nat.reduceAdd, Nat.reduceSub, Nat.reduceMul, Nat.reduceLT, Nat.reduceMod, Nat.reduceDiv, Nat.reduceEqDiff, Nat.reduceBEq, Nat.reduceLeDiff, ↓reduceIte, reduceCtorEq, Int.reduceAdd, Int.reduceSub, Int.reduceLT, Int.reduceLE, Int.reduceBEq, Int.reduceEq, Int.reduceToNat])
    · obtain ⟨cb, x1, x2⟩ := gb
      exact ⟨cb, by rw [k3 _ (by omega)]; exact x1, x2⟩
    · intro g3 L' n4 hold4 ⟨cb, x1, x2, x3⟩ hmk hdk hft
      have hlm := Heap.lt_of_get hmk
      simp -implicitDefEqProofs (disch := (first | omega | (simp -implicitDefEqProofs only [szs, ne_eq] <;> omega) | fail)) only [go_sem, Nat.reduceAdd, Nat.reduceSub, Nat.reduceMul, Nat.reduceLT, Nat.reduceMod, Nat.reduceDiv, Nat.reduceEqDiff, Nat.reduceBEq, Nat.reduceLeDiff, ↓reduceIte, reduceCtorEq, Int.reduceAdd, Int.reduceSub, Int.reduceLT, Int.reduceLE, Int.reduceBEq, Int.reduceEq, Int.reduceToNat, x1, x2, x3, takeH, hmk]
      exact ⟨.inl (by omega), h'.n + 3, L', rfl, hdk.same fun b hb _ => w_set_ne hlm (hft b hb).2.2 _, fun b hb => ⟨(hft b hb).1, (hft b hb).2.1⟩, by omega, fun b hb => by rw [w_set_ne hlm (by omega)]; exact hold4 b hb⟩
  · have hle := hd.fl s hs
    rw [← fg s hs]
    refine Blk.gets_ext (fun j hj => ?_) (by rw [Blk.length_gets])
    rw [Blk.length_gets] at hj
    rw [Blk.get_of _ _ (by rw [Blk.length_gets]; omega), List.getD_eq_getElem?_getD, Blk.gets_get _ _ _ _ (by omega), List.getD_eq_getElem?_getD, Blk.gets_get _ _ _ _ hj, Nat.zero_add]
end Go.Proofs.Ytgkcbpagdfdpdaa
