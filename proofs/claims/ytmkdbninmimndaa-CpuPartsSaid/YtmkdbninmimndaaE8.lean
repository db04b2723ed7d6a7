/- A step of the program. -/
import Derived.Test.YtmkdbninmimndaaE7
set_option linter.unusedVariables false
set_option maxRecDepth 100000
namespace Go.Proofs.Ytmkdbninmimndaa
open Go Go.Vm
variable {h0 g : Heap} {tr : Tr V} {xp ip fp n0 nops N : Nat} {opsv : V} {L Q : List V} {q : Nat → Int} {rs : Regs} {pc : BitVec 32} {op d a b : Nat} {m : Int} {W : Set'}
theorem exec27 (h28 : 1 ≤ op ∧ op ≤ 28) (C : Ctx tr g xp ip fp n0 nops N opsv L Q q rs pc op d a b m W) (hfp : h0.get fp = g.get fp) : Goal27 h0 g tr xp fp n0 L Q q rs pc W (execO q L rs pc op d a b m) := by
  rcases (show op = 1 ∨ op = 2 ∨ op = 3 ∨ op = 4 ∨ op = 5 ∨ op = 6 ∨ op = 7 ∨ op = 8 ∨ op = 9 ∨ op = 10 ∨ op = 11 ∨ op = 12 ∨ op = 13 ∨ op = 14 ∨ op = 15 ∨ op = 16 ∨ op = 17 ∨ op = 18 ∨ op = 19 ∨ op = 20 ∨ op = 21 ∨ op = 22 ∨ op = 23 ∨ op = 24 ∨ op = 25 ∨ op = 26 ∨ op = 27 ∨ op = 28 by omega) with rfl | rfl | rfl | rfl | rfl | rfl | rfl | rfl | rfl | rfl | rfl | rfl | rfl | rfl | rfl | rfl | rfl | rfl | rfl | rfl | rfl | rfl | rfl | rfl | rfl | rfl | rfl | rfl
  · exact ex_1 C hfp
  · exact ex_2 C hfp
  · exact ex_3 C hfp
  · exact ex_4 C hfp
  · exact ex_5 C hfp
  · exact ex_6 C hfp
  · exact ex_7 C hfp
  · exact ex_8 C hfp
  · exact ex_9 C hfp
  · exact ex_10 C hfp
  · exact ex_11 C hfp
  · exact ex_12 C hfp
  · exact ex_13 C hfp
  · exact ex_14 C hfp
  · exact ex_15 C hfp
  · exact ex_16 C hfp
  · exact ex_17 C hfp
  · exact ex_18 C hfp
  · exact ex_19 C hfp
  · exact ex_20 C hfp
  · exact ex_21 C hfp
  · exact ex_22 C hfp
  · exact ex_23 C hfp
  · exact ex_24 C hfp
  · exact ex_25 C hfp
  · exact ex_26 C hfp
  · exact ex_27 C hfp
  · exact ex_28 C hfp
theorem dW_lt (w : Nat) : dW w < 16 := by unfold dW; split <;> omega
theorem aW_lt (w : Nat) : aW w < 16 := by unfold aW; split <;> omega
theorem acc_in {w : Nat} (h : accW w = true) : bW w < 16 ∧ 1 ≤ w % 256 ∧ w % 256 ≤ 28 := by
  unfold accW mayI at h
  simp only [Bool.and_eq_true, decide_eq_true_eq] at h
  obtain ⟨⟨⟨⟨⟨⟨⟨o1, _⟩, _⟩, _⟩, b1⟩, _⟩, _⟩, _⟩ := h
  omega
theorem p_rem4 (pc : BitVec 32) : intBin .rem .u32 (pc.toNat : Int) 4 = some (.int .u32 ((pc.toNat % 4 : Nat) : Int)) := by
  have h := b_rem pc 4#32 (by decide)
  unfold U at h
  rw [BitVec.toNat_umod] at h
  exact h
theorem k_add4 (pc : BitVec 32) : intBin .add .u32 (pc.toNat : Int) 4 = some (U (pc + 4#32)) := b_add pc 4#32
theorem k_mul4 (x : BitVec 32) : intBin .mul .u32 4 (x.toNat : Int) = some (U (4#32 * x)) := b_mul 4#32 x
def insC (op d a b m : Int) : Blk := ((((((Blk.of [.int .i64 0, .int .i64 0, .int .i64 0, .int .i64 0, .int .i64 0]).set 0 (.int .i64 op)).set 1 (.int .i64 d)).set 2 (.int .i64 a)).set 3 (.int .i64 b)).set 4 (.int .i64 m))
theorem insC_size (op d a b m : Int) : (insC op d a b m).size = 5 := by unfold insC; simp only [Blk.size_set]; rfl
theorem insC_0 (op d a b m : Int) : (insC op d a b m).get 0 = .int .i64 op := by unfold insC; simp [Blk.get_set]
theorem insC_1 (op d a b m : Int) : (insC op d a b m).get 1 = .int .i64 d := by unfold insC; simp [Blk.get_set]
theorem insC_2 (op d a b m : Int) : (insC op d a b m).get 2 = .int .i64 a := by unfold insC; simp [Blk.get_set]
theorem insC_3 (op d a b m : Int) : (insC op d a b m).get 3 = .int .i64 b := by unfold insC; simp [Blk.get_set]
theorem insC_4 (op d a b m : Int) : (insC op d a b m).get 4 = .int .i64 m := by unfold insC; simp [Blk.get_set]
set_option maxHeartbeats 40000000 in
theorem mid27 {h g3 : Heap} {c ci : Blk} {w : Nat} (hacc : accW w = true) (i3 : g3.get ip = some (.cells ci 50)) (c5 : ci.size = 5) (q0 : ci.get 0 = .int .i64 (w % 256 : Nat)) (q1 : ci.get 1 = .int .i64 (dW w)) (q2 : ci.get 2 = .int .i64 (aW w)) (q3 : ci.get 3 = .int .i64 (bW w)) (q4 : ci.get 4 = .int .i64 (mW w))
    (x3 : g3.get xp = some (.cells c 72)) (hc : MC c fp rs pc) (hf3 : FlatAt g3 fp n0 L Q q) (ho : OpsAt g3 nops opsv) (hops1 : opsv.one = true) (hne : fp ≠ xp) (lo : xp < nops ∧ fblk g3 fp < nops ∧ nops ≤ N) (lt : N ≤ g3.n ∧ N ≤ ip ∧ n0 ≤ xp) (Wx : W xp) (Wn : ∀ b, N ≤ b → W b) (Wm : ∀ b, b = fblk g3 fp → n0 ≤ b → W b) (hfp : h.get fp = g3.get fp)
    (t0 : tr.get 0 = some (.ptr (some (xp, 0)))) (t1 : tr.get 1 = some opsv) (t8 : tr.get 8 = some (.ptr (some (ip, 0)))) (t10 : tr.get 10 = some (.ptr (some (xp, 0)))) :
    GO (Try.prog : MP) (fun _ => True) W none (Vm.Fin (Try.prog : MP) (fun _ => True) W [ResultVar.tmp 4] (StepQ h xp fp n0 Q q L rs pc (execO q L rs pc (w % 256) (dW w) (aW w) (bW w) (mW w)))) [.code ir27_r7] ⟨⟨301, tr⟩, []⟩ g3 := by
  have hs := hc.size; have hr := hc.ro; have hpc := hc.pc
  obtain ⟨b16, o1, o28⟩ := acc_in hacc
  have d16 := dW_lt w; have a16 := aW_lt w
  generalize w % 256 = op at *
  generalize dW w = d at *
  generalize aW w = a at *
  generalize bW w = b at *
  generalize mW w = m at *
  have hra := hc.reg a a16
  have hrb := hc.reg b b16
  have a23 : a < 23 := by omega
  have b23 : b < 23 := by omega
  have him := i_im m
  simp -implicitDefEqProofs (disch := (first | omega | fail)) only [go_sem, seval, ↓reduceIte, ir27_r7_eq, ir27_s7, t8, t10, i3, c5, q1, q2, q3, x3, hs, hra, hrb]
  simp -implicitDefEqProofs (disch := (first | omega | fail)) only [go_sem, seval, ↓reduceIte, ir27_r8_eq, ir27_s8, t8, t10, i3, c5, q4, x3, hs, hpc, ↓cvd3_21, c3_21, ↓cvd21_25, c21_25, him, ↓k_add4, ↓k_mul4, ↓b_add]
  simp -implicitDefEqProofs (disch := (first | omega | fail)) only [go_sem, seval, ↓reduceIte, ir27_r9_eq, ir27_s9, t8, i3, c5, q4, ↓cv3_21, c3_21, ↓cv21_25, c21_25, him, ↓b_add]
  refine exec27 (op := op) (N := N) (nops := nops) (opsv := opsv) (ip := ip) ⟨o1, o28⟩ ⟨by simp -implicitDefEqProofs (disch := (first | omega | fail)) only [go_sem, seval, ↓reduceIte, reduceCtorEq, t0], by simp -implicitDefEqProofs (disch := (first | omega | fail)) only [go_sem, seval, ↓reduceIte, t1], by simp -implicitDefEqProofs (disch := (first | omega | fail)) only [go_sem, seval, ↓reduceIte, t8], by simp -implicitDefEqProofs (disch := (first | omega | fail)) only [go_sem, seval, ↓reduceIte, t10], by simp -implicitDefEqProofs (disch := (first | omega | fail)) only [go_sem, seval, ↓reduceIte], by simp -implicitDefEqProofs (disch := (first | omega | fail)) only [go_sem, seval, ↓reduceIte], by simp -implicitDefEqProofs (disch := (first | omega | fail)) only [go_sem, seval, ↓reduceIte], by simp -implicitDefEqProofs (disch := (first | omega | fail)) only [go_sem, seval, ↓reduceIte], by simp -implicitDefEqProofs (disch := (first | omega | fail)) only [go_sem, seval, ↓reduceIte], by simp -implicitDefEqProofs (disch := (first | omega | fail)) only [go_sem, seval, ↓reduceIte], ⟨ci, i3, c5, q0, q4⟩, ⟨c, x3, hc⟩, hf3, ho, d16, hne, lo, lt, Wx, Wn, Wm⟩ hfp
set_option maxHeartbeats 40000000 in
theorem step27_ok {h : Heap} {c : Blk} (hx : h.get xp = some (.cells c 72)) (hc : MC c fp rs pc) (hf : FlatAt h fp n0 L Q q) (ho : OpsAt h nops opsv) (hne : fp ≠ xp) (lo : xp < nops ∧ fblk h fp < nops ∧ nops ≤ h.n) (hn0 : n0 ≤ xp) :
    SF (Try.prog : MP) 27 [.ptr (some (xp, 0)), opsv] h (fun _ => True) (fun b => b = xp ∨ (b = fblk h fp ∧ n0 ≤ b)) (StepQ h xp fp n0 Q q L rs pc (stepO q L rs pc)) := by
  have hs := hc.size; have hr := hc.ro; have hpc := hc.pc; have hmem := hc.mem
  have hxl := Heap.lt_of_get hx
  have p4 := p_rem4 pc
  have hops1 : opsv.one = true := by obtain ⟨m, _, _, rfl, _⟩ := ho; rfl
  refine SF.go hm Try.func27 ir27_eq ?_
  rw [ir27_chain]
  unfold stepO
  by_cases h4 : pc.toNat % 4 = 0
  · rw [if_pos h4]
    rw [h4] at p4
    simp -implicitDefEqProofs (disch := (first | omega | (simp -implicitDefEqProofs only [szs, ne_eq] <;> omega) | fail)) only [go_sem, seval, ↓reduceIte, reduceCtorEq, ir27_r0_eq, ir27_s0, ir27_r1_eq, ir27_s1, hx, hs, hpc, ↓p4]
    simp -implicitDefEqProofs (disch := (first | omega | (simp -implicitDefEqProofs only [szs, ne_eq] <;> omega) | fail)) only [go_sem, seval, ↓reduceIte, reduceCtorEq, ir27_r2_eq, ir27_s2, hx, hs, hpc, hmem]
    refine GCallD.of (R' := fun _ => True) (W' := fun _ => False) ((load_ok (R := fun _ => True) (W := fun _ => False) hf (fun _ => trivial) (a := pc.toNat) (n := 4) (by omega) 4).kept) ?_
    rintro r g1 ⟨⟨x, e, rfl, rfl⟩ | ⟨e, s, rfl, ho1, hk⟩, vf⟩
    · rw [e]
      simp -implicitDefEqProofs (disch := (first | omega | (simp -implicitDefEqProofs only [szs, ne_eq] <;> omega) | fail)) only [go_sem, seval, ↓reduceIte, reduceCtorEq]
      refine ⟨fun b hb => ?_, ?_⟩
      · exact fun h => h.elim
      simp -implicitDefEqProofs (disch := (first | omega | (simp -implicitDefEqProofs only [szs, ne_eq] <;> omega) | fail)) only [go_sem, seval, ↓reduceIte, reduceCtorEq, ir27_r3_eq, ir27_s3]
      refine GCall.of (fault46_ok (R := fun _ => True) hx hc x 4 (.inr (.inl rfl))) ?_
      rintro r g2 ⟨rfl, hst⟩
      simp -implicitDefEqProofs (disch := (first | omega | (simp -implicitDefEqProofs only [szs, ne_eq] <;> omega) | fail)) only [go_sem, seval, ↓reduceIte, reduceCtorEq]
      exact hst.fin hx hf hne rfl
    · rw [e]
      simp -implicitDefEqProofs (disch := (first | omega | (simp -implicitDefEqProofs only [szs, ne_eq] <;> omega) | fail)) only [go_sem, seval, ↓reduceIte, reduceCtorEq]
      refine ⟨fun b hb => ?_, ?_⟩
      · exact fun h => h.elim
      simp -implicitDefEqProofs (disch := (first | omega | (simp -implicitDefEqProofs only [szs, ne_eq] <;> omega) | fail)) only [go_sem, seval, ↓reduceIte, reduceCtorEq, ir27_r3_eq, ir27_s3, ir27_r4_eq, ir27_s4]
      have hbyt : BytL L := hf.byt
      refine GCall.of ((read47_ok (f := fun i => bN L (ad pc.toNat i)) ho1.lv (gets_len L pc.toNat 4) (fun i hi => by rw [gets_at hi, (bN_eq hbyt _).1]) (fun i _ => (bN_eq hbyt _).2)).kept.foot (fun _ h => h) (fun _ h => h.elim)) ?_
      rintro r g2 ⟨rfl, vf2⟩
      rw [show (wd fun i => bN L (ad pc.toNat i)) = wN L pc.toNat from rfl]
      have old : ∀ b, b < h.n → g2.get b = h.get b := fun b hb => (vf2.get b (by have := vf.n; omega) (by simp)).trans (hk b hb)
      have hgn := vf.n; have hgn2 := vf2.n
      have x2 := (old xp hxl).trans hx
      generalize hw : wN L pc.toNat = w
      unfold decV
      cases hacc : accW w with
      | false =>
        simp only [Bool.false_eq_true, if_false]
        have hgg : h.n ≤ g2.n := by omega
        simp -implicitDefEqProofs (disch := (first | omega | (simp -implicitDefEqProofs only [szs, ne_eq] <;> omega) | fail)) only [go_sem, seval, ↓reduceIte, reduceCtorEq, ir27_r5_eq, ir27_s5, undefV, hgg]
        obtain ⟨g3, hg3⟩ : ∃ g3, g3 = (g2.push (.cells (Blk.of [.int .i64 0, .int .i64 0, .int .i64 0, .int .i64 0, .int .i64 0]) 50)).set g2.n (.cells ((((((Blk.of [.int .i64 0, .int .i64 0, .int .i64 0, .int .i64 0, .int .i64 0]).set 0 (.int .i64 0)).set 1 (.int .i64 0)).set 2 (.int .i64 0)).set 3 (.int .i64 0)).set 4 (.int .i64 0)) 50) := ⟨_, rfl⟩
        rw [← hg3]
        have o3 : ∀ b, b < g2.n → g3.get b = g2.get b := fun b hb => by rw [hg3, w_set_ne (by simp) (by omega), w_push_ne (by omega)]
        clear hg3
        have old3 : ∀ b, b < h.n → g3.get b = h.get b := fun b hb => (o3 b (by omega)).trans (old b hb)
        have x3 := (old3 xp hxl).trans hx
        have hfl : fp < h.n := by obtain ⟨_, _, _, c1, _⟩ := hf.c; exact Heap.lt_of_get c1
        refine GCall.of (end45_ok (R := fun _ => True) x3 hc 6 (.inr (.inl rfl))) ?_
        rintro r g4 ⟨rfl, hst⟩
        simp -implicitDefEqProofs (disch := (first | omega | (simp -implicitDefEqProofs only [szs, ne_eq] <;> omega) | fail)) only [go_sem, seval, ↓reduceIte, reduceCtorEq]
        exact hst.fin x3 (hf.old old3) hne (old3 fp hfl).symm
      | true =>
        simp only [if_true]
        obtain ⟨b16, o1, o28⟩ := acc_in hacc
        have d16 := dW_lt w; have a16 := aW_lt w
        have hgg : h.n ≤ g2.n := by omega
        simp -implicitDefEqProofs (disch := (first | omega | (simp -implicitDefEqProofs only [szs, ne_eq] <;> omega) | fail)) only [go_sem, seval, ↓reduceIte, reduceCtorEq, ir27_r5_eq, ir27_s5, ir27_r6_eq, ir27_s6, undefV, hgg]
        obtain ⟨ci, hci⟩ : ∃ ci, ci = insC (w % 256 : Nat) (dW w) (aW w) (bW w) (mW w) := ⟨_, rfl⟩
        obtain ⟨g3, hg3⟩ : ∃ g3, g3 = (g2.push (.cells (Blk.of [.int .i64 0, .int .i64 0, .int .i64 0, .int .i64 0, .int .i64 0]) 50)).set g2.n (.cells ci 50) := ⟨_, rfl⟩
        rw [show ((((((Blk.of [.int .i64 0, .int .i64 0, .int .i64 0, .int .i64 0, .int .i64 0]).set 0 (.int .i64 (w % 256 : Nat))).set 1 (.int .i64 (dW w))).set 2 (.int .i64 (aW w))).set 3 (.int .i64 (bW w))).set 4 (.int .i64 (mW w))) = insC (w % 256 : Nat) (dW w) (aW w) (bW w) (mW w) from rfl, ← hci, ← hg3]
        have o3 : ∀ b, b < g2.n → g3.get b = g2.get b := fun b hb => by rw [hg3, w_set_ne (by simp) (by omega), w_push_ne (by omega)]
        have i3 : g3.get g2.n = some (.cells ci 50) := by rw [hg3]; exact w_set_eq (by simp) rfl _
        have hn3 : g3.n = g2.n + 1 := by rw [hg3]; simp
        have c5 : ci.size = 5 := by rw [hci]; exact insC_size ..
        have q0 : ci.get 0 = .int .i64 (w % 256 : Nat) := by rw [hci]; exact insC_0 ..
        have q1 : ci.get 1 = .int .i64 (dW w) := by rw [hci]; exact insC_1 ..
        have q2 : ci.get 2 = .int .i64 (aW w) := by rw [hci]; exact insC_2 ..
        have q3 : ci.get 3 = .int .i64 (bW w) := by rw [hci]; exact insC_3 ..
        have q4 : ci.get 4 = .int .i64 (mW w) := by rw [hci]; exact insC_4 ..
        clear hg3 hci
        have old3 : ∀ b, b < h.n → g3.get b = h.get b := fun b hb => (o3 b (by omega)).trans (old b hb)
        have x3 := (old3 xp hxl).trans hx
        have hfl : fp < h.n := by obtain ⟨_, _, _, c1, _⟩ := hf.c; exact Heap.lt_of_get c1
        have hfb : fblk g3 fp = fblk h fp := fblk_eq (old3 fp hfl)
        exact mid27 (N := h.n) hacc i3 c5 q0 q1 q2 q3 q4 x3 hc (hf.old old3) (ho.keep fun b _ hb _ => old3 b hb) hops1 hne ⟨lo.1, by rw [hfb]; exact lo.2.1, lo.2.2⟩ ⟨by omega, by omega, hn0⟩ (.inr (.inl rfl)) (fun b hb => .inl hb) (fun b hb hn => .inr (.inr ⟨by rw [hb, hfb], hn⟩)) (old3 fp hfl).symm (by simp -implicitDefEqProofs (disch := (first | omega | (simp -implicitDefEqProofs only [szs, ne_eq] <;> omega) | fail)) only [go_sem, seval, ↓reduceIte]) (by simp -implicitDefEqProofs (disch := (first | omega | (simp -implicitDefEqProofs only [szs, ne_eq] <;> omega) | fail)) only [go_sem, seval, ↓reduceIte, reduceCtorEq]) (by simp -implicitDefEqProofs (disch := (first | omega | (simp -implicitDefEqProofs only [szs, ne_eq] <;> omega) | fail)) only [go_sem, seval, ↓reduceIte, reduceCtorEq]) (by simp -implicitDefEqProofs (disch := (first | omega | (simp -implicitDefEqProofs only [szs, ne_eq] <;> omega) | fail)) only [go_sem, seval, ↓reduceIte, reduceCtorEq])
  · rw [if_neg h4]
    have h4' : ¬ ((pc.toNat % 4 : Nat) : Int) = 0 := by omega
    obtain ⟨y, hy⟩ : ∃ y : Nat, y = pc.toNat % 4 := ⟨_, rfl⟩
    rw [← hy] at p4 h4'
    simp -implicitDefEqProofs (disch := (first | omega | (simp -implicitDefEqProofs only [szs, ne_eq] <;> omega) | fail)) only [go_sem, seval, ↓reduceIte, reduceCtorEq, ir27_r0_eq, ir27_s0, ir27_r1_eq, ir27_s1, hx, hs, hpc, ↓p4]
    refine GCall.of (end45_ok (R := fun _ => True) hx hc 6 (.inr (.inl rfl))) ?_
    rintro r g2 ⟨rfl, hst⟩
    simp -implicitDefEqProofs (disch := (first | omega | (simp -implicitDefEqProofs only [szs, ne_eq] <;> omega) | fail)) only [go_sem, seval, ↓reduceIte, reduceCtorEq]
    exact hst.fin hx hf hne rfl
end Go.Proofs.Ytmkdbninmimndaa
