/- The document's Step (printed by genED.py). -/
import Derived.Test.YtmkdbninmimndaaEC
set_option linter.unusedVariables false
set_option maxRecDepth 100000
namespace Go.Proofs.Ytmkdbninmimndaa
open Go Go.Vm
variable {h0 g : Heap} {tr : Tr V} {sp ip k4 k5 rm n1 N : Nat} {vB vr : V} {L Q : List V} {q : Nat → Int} {rs : Regs} {pc : BitVec 32} {op d a b : Nat} {m : Int} {W : Set'}
theorem rexec28 (h28 : 1 ≤ op ∧ op ≤ 28) (C : RCtx tr g sp ip k4 k5 rm n1 N vB vr L Q q rs pc op d a b m W) : Goal28 h0 g tr rm n1 vB vr L rs pc W (execO q L rs pc op d a b m) := by
  rcases (show op = 1 ∨ op = 2 ∨ op = 3 ∨ op = 4 ∨ op = 5 ∨ op = 6 ∨ op = 7 ∨ op = 8 ∨ op = 9 ∨ op = 10 ∨ op = 11 ∨ op = 12 ∨ op = 13 ∨ op = 14 ∨ op = 15 ∨ op = 16 ∨ op = 17 ∨ op = 18 ∨ op = 19 ∨ op = 20 ∨ op = 21 ∨ op = 22 ∨ op = 23 ∨ op = 24 ∨ op = 25 ∨ op = 26 ∨ op = 27 ∨ op = 28 by omega) with rfl | rfl | rfl | rfl | rfl | rfl | rfl | rfl | rfl | rfl | rfl | rfl | rfl | rfl | rfl | rfl | rfl | rfl | rfl | rfl | rfl | rfl | rfl | rfl | rfl | rfl | rfl | rfl
  · exact rx_1 C
  · exact rx_2 C
  · exact rx_3 C
  · exact rx_4 C
  · exact rx_5 C
  · exact rx_6 C
  · exact rx_7 C
  · exact rx_8 C
  · exact rx_9 C
  · exact rx_10 C
  · exact rx_11 C
  · exact rx_12 C
  · exact rx_13 C
  · exact rx_14 C
  · exact rx_15 C
  · exact rx_16 C
  · exact rx_17 C
  · exact rx_18 C
  · exact rx_19 C
  · exact rx_20 C
  · exact rx_21 C
  · exact rx_22 C
  · exact rx_23 C
  · exact rx_24 C
  · exact rx_25 C
  · exact rx_26 C
  · exact rx_27 C
  · exact rx_28 C
set_option maxHeartbeats 40000000 in
theorem mid28 {c ci c4 c5 : Blk} {w : Nat} (hacc : accW w = true) (i3 : g.get ip = some (.cells ci 50)) (z5 : ci.size = 5) (q0 : ci.get 0 = .int .i64 (w % 256 : Nat)) (q1 : ci.get 1 = .int .i64 (dW w)) (q2 : ci.get 2 = .int .i64 (aW w)) (q3 : ci.get 3 = .int .i64 (bW w)) (q4 : ci.get 4 = .int .i64 (mW w))
    (x3 : g.get sp = some (.cells c 28)) (hc : SC c rs pc) (h4 : g.get k4 = some (.cells c4 28)) (hc4 : c4.size = 17 ∧ c4.ro = false) (h5 : g.get k5 = some (.cells c5 38)) (hc5 : c5.size = 5 ∧ c5.ro = false) (ne : sp ≠ k4 ∧ sp ≠ k5 ∧ k4 ≠ k5) (hmem : RM g rm n1 vB vr L) (rig : LV g vr Q ∧ L.length = Q.length * 256 ∧ Q.length ≤ 32 ∧ (∀ i, i < Q.length → Q[i]? = some (.int .i64 (q i))) ∧ BytL L) (Ws : W sp ∧ W k4 ∧ W k5) (Wm : ∀ b, b = sblk vB → n1 ≤ b → W b) (lt : n1 ≤ g.n)
    (t1 : tr.get 1 = some (.ptr (some (rm, 0)))) (t2 : tr.get 2 = some (.ptr (some (sp, 0)))) (t4 : tr.get 4 = some (.ptr (some (k4, 0)))) (t5 : tr.get 5 = some (.ptr (some (k5, 0)))) (t8 : tr.get 8 = some (.ptr (some (ip, 0)))) :
    GO (Try.prog : MP) (fun _ => True) W none (Vm.Fin (Try.prog : MP) (fun _ => True) W [ResultVar.cell 4 28, ResultVar.cell 5 38] (RStepQ h0 rm n1 vB vr L rs pc (execO q L rs pc (w % 256) (dW w) (aW w) (bW w) (mW w)))) [.code ir28_r6] ⟨⟨297, tr⟩, []⟩ g := by
  have hs := hc.size; have hr := hc.ro; have hpc := hc.pc
  obtain ⟨b16, o1, o28⟩ := acc_in hacc
  have d16 := dW_lt w; have a16 := aW_lt w
  generalize w % 256 = op at *
  generalize dW w = d at *
  generalize aW w = a at *
  generalize bW w = b at *
  generalize mW w = m at *
  have hra := hc.reg a a16
  have hrb := hc.reg b b16
  have a23 : a < 17 := by omega
  have b23 : b < 17 := by omega
  have him := i_im m
  simp -implicitDefEqProofs (disch := (first | omega | fail)) only [go_sem, seval, ↓reduceIte, ir28_r6_eq, ir28_s6, t2, t8, i3, z5, q2, q3, x3, hs, hra, hrb]
  simp -implicitDefEqProofs (disch := (first | omega | fail)) only [go_sem, seval, ↓reduceIte, ir28_r7_eq, ir28_s7, t8, i3, z5, q4, ↓cv3_21, c3_21, ↓cv21_25, c21_25, him, ↓b_add]
  simp -implicitDefEqProofs (disch := (first | omega | fail)) only [go_sem, seval, ↓reduceIte, ir28_r8_eq, ir28_s8, t2, t8, i3, z5, q4, x3, hs, hpc, ↓cv3_21, c3_21, ↓cv21_25, c21_25, him, ↓k_mul4, ↓b_add]
  simp -implicitDefEqProofs (disch := (first | omega | fail)) only [go_sem, seval, ↓reduceIte, ir28_r9_eq, ir28_s9, t2, x3, hs, hpc, ↓k_add4]
  refine rexec28 (op := op) (N := 0) (ip := ip) (sp := sp) (k4 := k4) (k5 := k5) (Q := Q) ⟨o1, o28⟩ ⟨by simp -implicitDefEqProofs (disch := (first | omega | fail)) only [go_sem, seval, ↓reduceIte, t1], by simp -implicitDefEqProofs (disch := (first | omega | fail)) only [go_sem, seval, ↓reduceIte, t2], by simp -implicitDefEqProofs (disch := (first | omega | fail)) only [go_sem, seval, ↓reduceIte, t4], by simp -implicitDefEqProofs (disch := (first | omega | fail)) only [go_sem, seval, ↓reduceIte, t5], by simp -implicitDefEqProofs (disch := (first | omega | fail)) only [go_sem, seval, ↓reduceIte, t8], by simp -implicitDefEqProofs (disch := (first | omega | fail)) only [go_sem, seval, ↓reduceIte], by simp -implicitDefEqProofs (disch := (first | omega | fail)) only [go_sem, seval, ↓reduceIte], by simp -implicitDefEqProofs (disch := (first | omega | fail)) only [go_sem, seval, ↓reduceIte], by simp -implicitDefEqProofs (disch := (first | omega | fail)) only [go_sem, seval, ↓reduceIte], by simp -implicitDefEqProofs (disch := (first | omega | fail)) only [go_sem, seval, ↓reduceIte], ⟨ci, i3, z5, q0, q1, q4⟩, ⟨c, x3, hc⟩, ⟨c4, h4, hc4⟩, ⟨c5, h5, hc5⟩, hmem, rig, d16, ne, Ws, Wm, lt⟩

set_option maxHeartbeats 40000000 in
theorem pre28 {c c4 c5 : Blk} (hx : g.get sp = some (.cells c 28)) (hc : SC c rs pc) (h4 : g.get k4 = some (.cells c4 28)) (hc4 : c4.size = 17 ∧ c4.ro = false) (h5 : g.get k5 = some (.cells c5 38)) (hc5 : c5.size = 5 ∧ c5.ro = false) (ne : sp ≠ k4 ∧ sp ≠ k5 ∧ k4 ≠ k5) (hmem : RM g rm n1 vB vr L) (rig : LV g vr Q ∧ L.length = Q.length * 256 ∧ Q.length ≤ 32 ∧ (∀ i, i < Q.length → Q[i]? = some (.int .i64 (q i))) ∧ BytL L) (Ws : W sp ∧ W k4 ∧ W k5) (Wm : ∀ b, b = sblk vB → n1 ≤ b → W b) (Wn : ∀ b, g.n ≤ b → W b) (lt : n1 ≤ g.n)
    (t1 : tr.get 1 = some (.ptr (some (rm, 0)))) (t2 : tr.get 2 = some (.ptr (some (sp, 0)))) (t4 : tr.get 4 = some (.ptr (some (k4, 0)))) (t5 : tr.get 5 = some (.ptr (some (k5, 0)))) :
    GO (Try.prog : MP) (fun _ => True) W none (Vm.Fin (Try.prog : MP) (fun _ => True) W [ResultVar.cell 4 28, ResultVar.cell 5 38] (RStepQ h0 rm n1 vB vr L rs pc (stepO q L rs pc))) [.code ir28_r1] ⟨⟨297, tr⟩, []⟩ g := by
  have hs := hc.size; have hr := hc.ro; have hpc := hc.pc
  obtain ⟨s4, q4⟩ := hc4
  obtain ⟨s5, q5⟩ := hc5
  obtain ⟨e1, e2, e3⟩ := ne
  obtain ⟨w1, w2, w3⟩ := Ws
  have e1' := e1.symm; have e2' := e2.symm; have e3' := e3.symm
  have l1 := Heap.lt_of_get hx; have l4 := Heap.lt_of_get h4; have l5 := Heap.lt_of_get h5
  obtain ⟨hrg, hLl, hfew, hint, hbyt⟩ := rig
  have p4 := p_rem4 pc
  have a0 := hc.reg 0 (by omega)
  have a1 := hc.reg 1 (by omega)
  have a2 := hc.reg 2 (by omega)
  have a3 := hc.reg 3 (by omega)
  have a4 := hc.reg 4 (by omega)
  have a5 := hc.reg 5 (by omega)
  have a6 := hc.reg 6 (by omega)
  have a7 := hc.reg 7 (by omega)
  have a8 := hc.reg 8 (by omega)
  have a9 := hc.reg 9 (by omega)
  have a10 := hc.reg 10 (by omega)
  have a11 := hc.reg 11 (by omega)
  have a12 := hc.reg 12 (by omega)
  have a13 := hc.reg 13 (by omega)
  have a14 := hc.reg 14 (by omega)
  have a15 := hc.reg 15 (by omega)
  unfold stepO
  by_cases h4p : pc.toNat % 4 = 0
  · rw [if_pos h4p]
    rw [h4p] at p4
    simp -implicitDefEqProofs (disch := (first | omega | (simp -implicitDefEqProofs only [szs, ne_eq] <;> omega) | fail)) only [go_sem, seval, ↓reduceIte, ir28_r1_eq, ir28_s1, ir28_r2_eq, ir28_s2, t1, t2, hx, hs, hpc, ↓p4]
    refine GCall.of (rfirst_ok (R := fun _ => True) (W := W) hmem.1 hrg hint hfew (fun _ => trivial) (a := pc.toNat) (n := 4) (by omega) 4) ?_
    rintro r g1 ⟨rfl, hg1⟩
    rw [hg1, ← hLl]
    cases hF : fst (fun x => mayB q L.length x 4) pc.toNat 0 4 with
    | some x =>
      simp -implicitDefEqProofs (disch := (first | omega | (simp -implicitDefEqProofs only [szs, ne_eq] <;> omega) | fail)) only [go_sem, seval, ↓reduceIte, fstT, ir28_r3_eq, ir28_s3, undefV, t2, t4, t5, hx, hs, hpc, h4, s4, q4, h5, s5, q5, w2, w3, a0, a1, a2, a3, a4, a5, a6, a7, a8, a9, a10, a11, a12, a13, a14, a15]
      have hp : ∀ j, j < 17 → (c4.putA 0 [U (rs 0), U (rs 1), U (rs 2), U (rs 3), U (rs 4), U (rs 5), U (rs 6), U (rs 7), U (rs 8), U (rs 9), U (rs 10), U (rs 11), U (rs 12), U (rs 13), U (rs 14), U (rs 15), U pc]).get j = [U (rs 0), U (rs 1), U (rs 2), U (rs 3), U (rs 4), U (rs 5), U (rs 6), U (rs 7), U (rs 8), U (rs 9), U (rs 10), U (rs 11), U (rs 12), U (rs 13), U (rs 14), U (rs 15), U pc].getD j undefV := fun j hj => get_put17 s4 _ rfl j hj
      rw [hp 0 (by omega), hp 1 (by omega), hp 2 (by omega), hp 3 (by omega), hp 4 (by omega), hp 5 (by omega), hp 6 (by omega), hp 7 (by omega), hp 8 (by omega), hp 9 (by omega), hp 10 (by omega), hp 11 (by omega), hp 12 (by omega), hp 13 (by omega), hp 14 (by omega), hp 15 (by omega), hp 16 (by omega)]
      have y2 : ∀ o, (g.set k4 o).get k5 = some (.cells c5 38) := fun o => by rw [w_set_ne l4 e3']; exact h5
      exact ⟨rfl, hmem.keep fun b d e n1 n2 n3 hb => set_e (y2 _) b d e n2 (set_e h4 b d e n1 hb)⟩
    | none =>
      simp -implicitDefEqProofs (disch := (first | omega | (simp -implicitDefEqProofs only [szs, ne_eq] <;> omega) | fail)) only [go_sem, seval, ↓reduceIte, fstT, ir28_r3_eq, ir28_s3, ir28_r4_eq, ir28_s4, t1, t2, hx, hs, hpc]
      refine GCall.of (rword50_ok (R := fun _ => True) (W := W) hmem.1 hmem.2.lv hbyt (a := pc.toNat) (fst_len hF) (by omega) (fun _ _ => trivial)) ?_
      rintro r g2 ⟨rfl, hg2⟩
      rw [hg2]
      have hw32 : wN L pc.toNat < 4294967296 := wd_lt fun i _ => (bN_eq hbyt _).2
      generalize hwN : wN L pc.toNat = w at *
      simp -implicitDefEqProofs (disch := (first | omega | (simp -implicitDefEqProofs only [szs, ne_eq] <;> omega) | fail)) only [go_sem, seval, ↓reduceIte]
      refine GCall.of (((rof_ok hw32 _).kept).foot (fun _ h => h.elim) (fun _ h => h.elim)) ?_
      rintro r g3 ⟨rfl, vf⟩
      have old : ∀ b, b < g.n → g3.get b = g.get b := fun b hb => vf.get b hb (by simp)
      have hgn := vf.n
      have w3n : W g3.n := Wn g3.n hgn
      unfold decV
      cases hacc : accW w with
      | false =>
        simp only [Bool.false_eq_true, if_false]
        simp -implicitDefEqProofs (disch := (first | omega | (simp -implicitDefEqProofs only [szs, ne_eq] <;> omega) | fail)) only [go_sem, seval, ↓reduceIte, undefV, w3n]
        rw [show ((((((Blk.of [.int .i64 0, .int .i64 0, .int .i64 0, .int .i64 0, .int .i64 0]).set 0 (.int .i64 0)).set 1 (.int .i64 0)).set 2 (.int .i64 0)).set 3 (.int .i64 0)).set 4 (.int .i64 0)) = insC 0 0 0 0 0 from rfl]
        obtain ⟨g4, hg4⟩ : ∃ g4, g4 = (g3.push (.cells (Blk.of [.int .i64 0, .int .i64 0, .int .i64 0, .int .i64 0, .int .i64 0]) 50)).set g3.n (.cells (insC 0 0 0 0 0) 50) := ⟨_, rfl⟩
        rw [← hg4]
        have o4 : ∀ b, b < g3.n → g4.get b = g3.get b := fun b hb => by rw [hg4, w_set_ne (by simp) (by omega), w_push_ne (by omega)]
        have i4 : g4.get g3.n = some (.cells (insC 0 0 0 0 0) 50) := by rw [hg4]; exact w_set_eq (by simp) rfl _
        have hn4 : g4.n = g3.n + 1 := by rw [hg4]; simp
        clear hg4
        have old4 : ∀ b, b < g.n → g4.get b = g.get b := fun b hb => (o4 b (by omega)).trans (old b hb)
        replace hx := (old4 sp l1).trans hx
        replace h4 := (old4 k4 l4).trans h4
        replace h5 := (old4 k5 l5).trans h5
        replace hmem : RM g4 rm n1 vB vr L := hmem.keep fun b d e _ _ _ hb => (old4 b (Heap.lt_of_get hb)).trans hb
        replace l4 := Heap.lt_of_get h4
        simp -implicitDefEqProofs (disch := (first | omega | (simp -implicitDefEqProofs only [szs, ne_eq] <;> omega) | fail)) only [go_sem, seval, ↓reduceIte, ir28_r5_eq, ir28_s5, undefV, t2, t4, t5, hx, hs, hpc, h4, s4, q4, h5, s5, q5, w2, w3, a0, a1, a2, a3, a4, a5, a6, a7, a8, a9, a10, a11, a12, a13, a14, a15]
        have hp : ∀ j, j < 17 → (c4.putA 0 [U (rs 0), U (rs 1), U (rs 2), U (rs 3), U (rs 4), U (rs 5), U (rs 6), U (rs 7), U (rs 8), U (rs 9), U (rs 10), U (rs 11), U (rs 12), U (rs 13), U (rs 14), U (rs 15), U pc]).get j = [U (rs 0), U (rs 1), U (rs 2), U (rs 3), U (rs 4), U (rs 5), U (rs 6), U (rs 7), U (rs 8), U (rs 9), U (rs 10), U (rs 11), U (rs 12), U (rs 13), U (rs 14), U (rs 15), U pc].getD j undefV := fun j hj => get_put17 s4 _ rfl j hj
        rw [hp 0 (by omega), hp 1 (by omega), hp 2 (by omega), hp 3 (by omega), hp 4 (by omega), hp 5 (by omega), hp 6 (by omega), hp 7 (by omega), hp 8 (by omega), hp 9 (by omega), hp 10 (by omega), hp 11 (by omega), hp 12 (by omega), hp 13 (by omega), hp 14 (by omega), hp 15 (by omega), hp 16 (by omega)]
        have y2 : ∀ o, (g4.set k4 o).get k5 = some (.cells c5 38) := fun o => by rw [w_set_ne l4 e3']; exact h5
        exact ⟨rfl, hmem.keep fun b d e n1 n2 n3 hb => set_e (y2 _) b d e n2 (set_e h4 b d e n1 hb)⟩
      | true =>
        simp only [if_true]
        simp -implicitDefEqProofs (disch := (first | omega | (simp -implicitDefEqProofs only [szs, ne_eq] <;> omega) | fail)) only [go_sem, seval, ↓reduceIte, undefV, w3n]
        rw [show ((((((Blk.of [.int .i64 0, .int .i64 0, .int .i64 0, .int .i64 0, .int .i64 0]).set 0 (.int .i64 (w % 256 : Nat))).set 1 (.int .i64 (dW w))).set 2 (.int .i64 (aW w))).set 3 (.int .i64 (bW w))).set 4 (.int .i64 (mW w))) = insC (w % 256 : Nat) (dW w) (aW w) (bW w) (mW w) from rfl]
        obtain ⟨g4, hg4⟩ : ∃ g4, g4 = (g3.push (.cells (Blk.of [.int .i64 0, .int .i64 0, .int .i64 0, .int .i64 0, .int .i64 0]) 50)).set g3.n (.cells (insC (w % 256 : Nat) (dW w) (aW w) (bW w) (mW w)) 50) := ⟨_, rfl⟩
        rw [← hg4]
        have o4 : ∀ b, b < g3.n → g4.get b = g3.get b := fun b hb => by rw [hg4, w_set_ne (by simp) (by omega), w_push_ne (by omega)]
        have i4 : g4.get g3.n = some (.cells (insC (w % 256 : Nat) (dW w) (aW w) (bW w) (mW w)) 50) := by rw [hg4]; exact w_set_eq (by simp) rfl _
        have hn4 : g4.n = g3.n + 1 := by rw [hg4]; simp
        clear hg4
        have old4 : ∀ b, b < g.n → g4.get b = g.get b := fun b hb => (o4 b (by omega)).trans (old b hb)
        replace hx := (old4 sp l1).trans hx
        replace h4 := (old4 k4 l4).trans h4
        replace h5 := (old4 k5 l5).trans h5
        replace hmem : RM g4 rm n1 vB vr L := hmem.keep fun b d e _ _ _ hb => (old4 b (Heap.lt_of_get hb)).trans hb
        replace l4 := Heap.lt_of_get h4
        simp -implicitDefEqProofs (disch := (first | omega | (simp -implicitDefEqProofs only [szs, ne_eq] <;> omega) | fail)) only [go_sem, seval, ↓reduceIte, ir28_r5_eq, ir28_s5]
        exact mid28 hacc i4 (insC_size ..) (insC_0 ..) (insC_1 ..) (insC_2 ..) (insC_3 ..) (insC_4 ..) hx hc h4 ⟨s4, q4⟩ h5 ⟨s5, q5⟩ ⟨e1, e2, e3⟩ hmem ⟨hrg.old old4, hLl, hfew, hint, hbyt⟩ ⟨w1, w2, w3⟩ Wm (by omega) (by simp -implicitDefEqProofs (disch := (first | omega | (simp -implicitDefEqProofs only [szs, ne_eq] <;> omega) | fail)) only [go_sem, seval, ↓reduceIte, t1]) (by simp -implicitDefEqProofs (disch := (first | omega | (simp -implicitDefEqProofs only [szs, ne_eq] <;> omega) | fail)) only [go_sem, seval, ↓reduceIte, t2]) (by simp -implicitDefEqProofs (disch := (first | omega | (simp -implicitDefEqProofs only [szs, ne_eq] <;> omega) | fail)) only [go_sem, seval, ↓reduceIte, t4]) (by simp -implicitDefEqProofs (disch := (first | omega | (simp -implicitDefEqProofs only [szs, ne_eq] <;> omega) | fail)) only [go_sem, seval, ↓reduceIte, t5]) (by simp -implicitDefEqProofs (disch := (first | omega | (simp -implicitDefEqProofs only [szs, ne_eq] <;> omega) | fail)) only [go_sem, seval, ↓reduceIte])
  · rw [if_neg h4p]
    have h4' : ¬ ((pc.toNat % 4 : Nat) : Int) = 0 := by omega
    obtain ⟨y, hy⟩ : ∃ y : Nat, y = pc.toNat % 4 := ⟨_, rfl⟩
    rw [← hy] at p4 h4'
    simp -implicitDefEqProofs (disch := (first | omega | (simp -implicitDefEqProofs only [szs, ne_eq] <;> omega) | fail)) only [go_sem, seval, ↓reduceIte, ir28_r1_eq, ir28_s1, ↓p4, undefV, t2, t4, t5, hx, hs, hpc, h4, s4, q4, h5, s5, q5, w2, w3, a0, a1, a2, a3, a4, a5, a6, a7, a8, a9, a10, a11, a12, a13, a14, a15]
    have hp : ∀ j, j < 17 → (c4.putA 0 [U (rs 0), U (rs 1), U (rs 2), U (rs 3), U (rs 4), U (rs 5), U (rs 6), U (rs 7), U (rs 8), U (rs 9), U (rs 10), U (rs 11), U (rs 12), U (rs 13), U (rs 14), U (rs 15), U pc]).get j = [U (rs 0), U (rs 1), U (rs 2), U (rs 3), U (rs 4), U (rs 5), U (rs 6), U (rs 7), U (rs 8), U (rs 9), U (rs 10), U (rs 11), U (rs 12), U (rs 13), U (rs 14), U (rs 15), U pc].getD j undefV := fun j hj => get_put17 s4 _ rfl j hj
    rw [hp 0 (by omega), hp 1 (by omega), hp 2 (by omega), hp 3 (by omega), hp 4 (by omega), hp 5 (by omega), hp 6 (by omega), hp 7 (by omega), hp 8 (by omega), hp 9 (by omega), hp 10 (by omega), hp 11 (by omega), hp 12 (by omega), hp 13 (by omega), hp 14 (by omega), hp 15 (by omega), hp 16 (by omega)]
    have y2 : ∀ o, (g.set k4 o).get k5 = some (.cells c5 38) := fun o => by rw [w_set_ne l4 e3']; exact h5
    exact ⟨rfl, hmem.keep fun b d e n1 n2 n3 hb => set_e (y2 _) b d e n2 (set_e h4 b d e n1 hb)⟩
end Go.Proofs.Ytmkdbninmimndaa
