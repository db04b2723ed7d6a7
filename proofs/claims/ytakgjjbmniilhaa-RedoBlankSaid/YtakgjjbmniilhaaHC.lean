/- The log: a round of load, whole. -/
import Derived.Test.YtakgjjbmniilhaaHB
set_option linter.unusedVariables false
set_option linter.unusedSimpArgs false
set_option linter.unusedSimpArgs false
set_option maxRecDepth 100000
set_option linter.unusedVariables false
set_option linter.unusedSimpArgs false
namespace Go.Proofs.Ytakgjjbmniilhaa
open Go Go.Vm
attribute [-go_sem] sz_101
variable {h g : Heap} {R W M : Set'} {bd lp fr ct : Nat} {D : DS}
theorem LdM.keep {bw n0 : Nat} {v10 v11 : V} {H : Hd} {s : LS} (hl : LdM h lp bd fr ct bw n0 v10 v11 H s) (hk : ∀ k c e, h.get k = some (.cells c e) → g.get k = some (.cells c e)) : LdM g lp bd fr ct bw n0 v10 v11 H s := by
  obtain ⟨c, cw, cr, cn, rv, v, vs, l1, l2, l3, k0, k1, k2, k3, k8, k9, k10, k11, k12, w1, w2, w3, a0, a1, a2, a3, r1, r2, r3, r4, rd, n1, n2, n3, n4, vd, vl, ve⟩ := hl
  refine ⟨c, cw, cr, cn, rv, v, vs, hk _ _ _ l1, l2, l3, k0, k1, k2, k3, k8, k9, k10, k11, k12, hk _ _ _ w1, w2, w3, a0, a1, a2, a3, hk _ _ _ r1, r2, r3, r4, rd.keep fun b c => hk b c _, hk _ _ _ n1, n2, n3, n4, vd.keep fun b c => hk b c _, vl, fun i l hi => ?_⟩
  refine ((ve i l hi).same fun b hb _ => ?_).mono fun b _ ⟨h1, h2, c, h3⟩ => ⟨h1, h2, c, hk _ _ _ h3⟩
  obtain ⟨_, _, c, h3⟩ := hb
  rw [h3, hk _ _ _ h3]
noncomputable def lvL (tr : Tr V) (mk : Nat) : Loopv := ⟨.ready, none, ⟨211, tr⟩, [103, 104], (rc35 0).1, (rc35 0).2, mk⟩
set_option maxHeartbeats 8000000 in
theorem ld_round {y bw xb n0 mk : Nat} {cx : Blk} {r : Rc} {s : LS} {H : Hd} {tr : Tr V} {v10 v11 dv : V} {S : Set'}
    (hlo : lp < bw ∧ xb < bw ∧ xb ≠ lp ∧ bw + 2 < y ∧ y + 1 = n0 ∧ n0 ≤ g.n)
    (hy : g.get y = some (.loop (lvL tr mk)))
    (t1 : tr.get 1 = some (.ptr (some (xb, 0)))) (t8 : tr.get 8 = some (.ptr (some (bw, 0)))) (t9 : tr.get 9 = some (.ptr (some (bw + 1, 0)))) (t10 : tr.get 10 = some (.ptr (some (bw + 2, 0))))
    (x1 : g.get xb = some (.cells cx 32)) (x2 : cx.size = 1) (x3 : cx.get 0 = .ptr (some (lp, 0)))
    (hd : LR g S dv r.dat) (hS : ∀ b, S b → b ≠ y) (hdb : Byt r.dat) (hl : LdM g lp bd fr ct bw n0 v10 v11 H s)
    (hof : r.pl < r.of ∧ r.of ≤ 64) (hdl : r.dat.length ≤ 108) (hrl : s.rc.length ≤ 1000000) (hrb : Byt s.rc) (hvl : s.rs.length ≤ 10000) (hn1 : s.nx + 1 < 9223372036854775808) (hn2 : s.cn ≤ 10000 ∧ s.at' ≤ 10000) :
    SY ⟨Try.prog, true⟩ y [.agg r.v, dv] g (fun _ => True) (fun k => n0 ≤ k ∨ (k = y ∨ k = lp ∨ k = bw ∨ k = bw + 1 ∨ k = bw + 2)) fun x g' => LdF g (g'.set y (.loop (lvL tr mk))) lp bw n0 ∧
      (x = .bool true ∧ ¬ badL H.ep s r ∧ LdM g' lp bd fr ct bw n0 v10 v11 H (goodL s r) ∧ g'.get y = some (.loop (lvL tr mk)) ∨ x = .bool false ∧ badL H.ep s r ∧ LdM g' lp bd fr ct bw n0 v10 v11 H s ∧ g'.get y = some (.loop { lvL tr mk with state := .done, pending := some (.exit 2) })) := by
  obtain ⟨hlb, hxb, hxl, hby, hyn, hng⟩ := hlo
  simp only [lvL] at hy ⊢
  have hone := hd.one
  have hll := Heap.lt_of_get hy
  refine SY.go Go.Proofs.Ytakgjjbmniilhaa.hm hy trivial (.inr (.inl rfl)) rfl ir35_a0_eq ir35_b0_eq ?_
  rw [ir35_b0_c_eq]
  simp -implicitDefEqProofs (disch := (first | omega | (simp -implicitDefEqProofs only [szs, ne_eq] <;> omega) | fail)) only [go_sem, seval, ↓reduceIte, reduceCtorEq, ir35_a0, Rc.v, ↓hone]
  refine ⟨.inl (by omega), _, hy, rfl, ?_⟩
  obtain ⟨cm, ecm⟩ : ∃ cm, cm = ((((Blk.of [V.int IntKind.u64 0, V.int IntKind.u64 0, V.int IntKind.u8 0, V.int IntKind.u8 0]).set 0 (V.int IntKind.u64 ↑r.num)).set 1 (V.int IntKind.u64 ↑r.ep)).set 2 (V.int IntKind.u8 ↑r.pl)).set 3 (V.int IntKind.u8 ↑r.of) := ⟨_, rfl⟩
  have m2 : cm.size = 4 := by rw [ecm]; simp only [Blk.size_set]; rfl
  have b0 : cm.get 0 = .int .u64 (r.num : Int) := by rw [ecm]; simp -implicitDefEqProofs (disch := (first | omega | (simp -implicitDefEqProofs only [szs, ne_eq] <;> omega) | fail)) only [go_sem, seval, ↓reduceIte, reduceCtorEq]
  have b1 : cm.get 1 = .int .u64 (r.ep : Int) := by rw [ecm]; simp -implicitDefEqProofs (disch := (first | omega | (simp -implicitDefEqProofs only [szs, ne_eq] <;> omega) | fail)) only [go_sem, seval, ↓reduceIte, reduceCtorEq]
  have b2 : cm.get 2 = .int .u8 (r.pl : Int) := by rw [ecm]; simp -implicitDefEqProofs (disch := (first | omega | (simp -implicitDefEqProofs only [szs, ne_eq] <;> omega) | fail)) only [go_sem, seval, ↓reduceIte, reduceCtorEq]
  have b3 : cm.get 3 = .int .u8 (r.of : Int) := by rw [ecm]; simp -implicitDefEqProofs (disch := (first | omega | (simp -implicitDefEqProofs only [szs, ne_eq] <;> omega) | fail)) only [go_sem, seval, ↓reduceIte, reduceCtorEq]
  rw [← ecm]
  clear ecm
  obtain ⟨G, eG⟩ : ∃ G, G = ((g.push (O.cells (Blk.of [V.int IntKind.u64 0, V.int IntKind.u64 0, V.int IntKind.u8 0, V.int IntKind.u8 0]) 90)).set g.n (O.cells cm 90)).set y (O.loop ⟨.busy, none, ⟨211, tr⟩, [103, 104], (rc35 0).1, (rc35 0).2, mk⟩) := ⟨_, rfl⟩
  rw [← eG]
  have nG : G.n = g.n + 1 := by rw [eG]; simp
  have kG : ∀ b, b < g.n → b ≠ y → G.get b = g.get b := fun b hb h1 => by rw [eG, w_set_ne (by simp; omega) h1, w_set_ne (by simp) (by omega), w_push_ne (by omega)]
  have mG : G.get g.n = some (.cells cm 90) := by rw [eG, w_set_ne (by simp; omega) (by omega)]; exact w_set_eq (by simp) rfl _
  have lG : G.get y = some (.loop ⟨.busy, none, ⟨211, tr⟩, [103, 104], (rc35 0).1, (rc35 0).2, mk⟩) := by rw [eG]; exact w_set_eq (by simp; omega) rfl _
  clear eG
  have nel : ∀ {k c e}, g.get k = some (.cells c e) → k ≠ y := fun hk e => by rw [e, hy] at hk; cases hk
  have hlG : LdM G lp bd fr ct bw n0 v10 v11 H s := hl.keep fun k c e hk => (kG k (Heap.lt_of_get hk) (nel hk)).trans hk
  have hdG : LR G S dv r.dat := hd.same fun b hb hlt => kG b hlt (hS b hb)
  have X1 := (kG xb (by omega) (by omega)).trans x1
  have hlG' := hlG
  obtain ⟨c, cw, cr, cn, rv, v, vs, hl'⟩ := hlG
  have l3 : c.get 3 = .int .u64 (H.ep : Int) := hd_get hl'.k3 (j := 0) (by omega)
  have fin : ∀ (o : LoopState) (p : Option Code) g2, g2.n ≥ g.n → g2.get y = some (.loop ⟨.busy, none, ⟨211, tr⟩, [103, 104], (rc35 0).1, (rc35 0).2, mk⟩) → LdF G g2 lp bw n0 → LdF g ((g2.set y (.loop ⟨o, p, ⟨211, tr⟩, [103, 104], (rc35 0).1, (rc35 0).2, mk⟩)).set y (.loop ⟨.ready, none, ⟨211, tr⟩, [103, 104], (rc35 0).1, (rc35 0).2, mk⟩)) lp bw n0 := fun o p g2 hn h1 h2 => by
    refine ⟨by simp only [Heap.n_set]; omega, fun k q1 q2 q3 q4 q5 q6 => ?_⟩
    by_cases hky : k = y
    · rw [hky, hy]; exact w_set_eq (by simp only [Heap.n_set]; exact Heap.lt_of_get h1) rfl _
    · rw [w_set_ne (by simp only [Heap.n_set]; exact Heap.lt_of_get h1) hky, w_set_ne (Heap.lt_of_get h1) hky, h2.2 k (by omega) q2 q3 q4 q5 (q6.imp id fun h c => by rw [kG k q1 hky]; exact h c), kG k q1 hky]
  have keepL : ∀ {s' : LS} (o : O) g2, (∃ l, g2.get y = some (.loop l)) → LdM g2 lp bd fr ct bw n0 v10 v11 H s' → LdM (g2.set y o) lp bd fr ct bw n0 v10 v11 H s' := fun o g2 ⟨l, hl⟩ h => h.keep fun k c e hk => by
    rw [w_set_ne (Heap.lt_of_get hl) fun e => by rw [e, hl] at hk; cases hk]; exact hk
  simp -implicitDefEqProofs (disch := (first | omega | (simp -implicitDefEqProofs only [szs, ne_eq] <;> omega) | fail)) only [go_sem, seval, ↓reduceIte, reduceCtorEq, ir35_b0_c]
  refine t1_ok (fun _ => trivial) (by simp -implicitDefEqProofs (disch := (first | omega | (simp -implicitDefEqProofs only [szs, ne_eq] <;> omega) | fail)) only [go_sem, seval, ↓reduceIte, reduceCtorEq, t1]) (by simp -implicitDefEqProofs (disch := (first | omega | (simp -implicitDefEqProofs only [szs, ne_eq] <;> omega) | fail)) only [go_sem, seval, ↓reduceIte, reduceCtorEq, t8]) (by simp -implicitDefEqProofs (disch := (first | omega | (simp -implicitDefEqProofs only [szs, ne_eq] <;> omega) | fail)) only [go_sem, seval, ↓reduceIte, reduceCtorEq]) X1 x2 x3 hl'.l1 hl'.l2 l3 mG m2 b0 b1 b2 b3 hl'.w1 hl'.w2 hl'.a0 hl'.a1 hl'.a2 hl'.a3 (fun hb tr' => ?_) fun hb tr' ht => ?_
  · simp -implicitDefEqProofs (disch := (first | omega | (simp -implicitDefEqProofs only [szs, ne_eq] <;> omega) | fail)) only [go_sem, seval, ↓reduceIte, reduceCtorEq]
    refine ⟨_, lG, fin _ _ G (by omega) lG ⟨Nat.le_refl _, fun _ _ _ _ _ _ _ => rfl⟩, .inr ⟨rfl, hb, keepL _ G ⟨_, lG⟩ hlG', rfl⟩⟩
  · simp -implicitDefEqProofs (disch := (first | omega | (simp -implicitDefEqProofs only [szs, ne_eq] <;> omega) | fail)) only [go_sem, seval, ↓reduceIte, reduceCtorEq]
    refine f1_ok (S := S) (dv := dv) (r := r) (fun _ => trivial) (fun k hk => .inl hk) (.inr (.inr (.inl rfl))) ⟨.inr (.inr (.inr (.inl rfl))), .inr (.inr (.inr (.inr (.inl rfl)))), .inr (.inr (.inr (.inr (.inr rfl))))⟩ ⟨hlb, hxb, hxl, by omega, hng, by omega⟩ ((ht 1 (by simp)).trans (by simp -implicitDefEqProofs (disch := (first | omega | (simp -implicitDefEqProofs only [szs, ne_eq] <;> omega) | fail)) only [go_sem, seval, ↓reduceIte, reduceCtorEq, t1])) ((ht 8 (by simp)).trans (by simp -implicitDefEqProofs (disch := (first | omega | (simp -implicitDefEqProofs only [szs, ne_eq] <;> omega) | fail)) only [go_sem, seval, ↓reduceIte, reduceCtorEq, t8])) ((ht 9 (by simp)).trans (by simp -implicitDefEqProofs (disch := (first | omega | (simp -implicitDefEqProofs only [szs, ne_eq] <;> omega) | fail)) only [go_sem, seval, ↓reduceIte, reduceCtorEq, t9])) ((ht 10 (by simp)).trans (by simp -implicitDefEqProofs (disch := (first | omega | (simp -implicitDefEqProofs only [szs, ne_eq] <;> omega) | fail)) only [go_sem, seval, ↓reduceIte, reduceCtorEq, t10])) ((ht 11 (by simp)).trans (by simp -implicitDefEqProofs (disch := (first | omega | (simp -implicitDefEqProofs only [szs, ne_eq] <;> omega) | fail)) only [go_sem, seval, ↓reduceIte, reduceCtorEq])) ((ht 12 (by simp)).trans (by simp -implicitDefEqProofs (disch := (first | omega | (simp -implicitDefEqProofs only [szs, ne_eq] <;> omega) | fail)) only [go_sem, seval, ↓reduceIte, reduceCtorEq])) X1 x2 x3 mG m2 b0 b1 b2 b3 hdG hdb hl' hof hdl hrl hrb (by rw [hl'.vl]; exact hvl) hn1 hn2 fun tr2 g2 q1 q2 => ?_
    have lG2 := (q2.2 y (by omega) (by omega) (by omega) (by omega) (by omega) (.inl (by omega))).trans lG
    have := q2.1
    simp -implicitDefEqProofs (disch := (first | omega | (simp -implicitDefEqProofs only [szs, ne_eq] <;> omega) | fail)) only [go_sem, seval, ↓reduceIte, reduceCtorEq]
    exact ⟨_, lG2, fin _ _ g2 (by omega) lG2 q2, .inl ⟨rfl, hb, keepL _ g2 ⟨_, lG2⟩ q1, rfl⟩⟩
end Go.Proofs.Ytakgjjbmniilhaa
