/- The document's ops on memory (printed by genEB.py). -/
import Derived.Test.YtmkdbninmimndaaEA
set_option linter.unusedVariables false
set_option maxRecDepth 100000
namespace Go.Proofs.Ytmkdbninmimndaa
open Go Go.Vm
variable {h0 g : Heap} {tr : Tr V} {sp ip k4 k5 rm n1 N : Nat} {vB vr : V} {L Q : List V} {q : Nat → Int} {rs : Regs} {pc : BitVec 32} {op d a b : Nat} {m : Int} {W : Set'}
theorem hi_eq (x y : BitVec 32) : (x &&& 65535#32) ||| (y <<< 16) = x % 65536#32 + y * 65536#32 := by
  apply BitVec.eq_of_toNat_eq
  rw [BitVec.toNat_or, BitVec.toNat_and, BitVec.toNat_add, BitVec.toNat_umod, BitVec.toNat_mul, BitVec.toNat_shiftLeft, Nat.shiftLeft_eq]
  rw [show (65535#32).toNat = 2 ^ 16 - 1 from rfl, show (65536#32).toNat = 2 ^ 16 from rfl, Nat.and_two_pow_sub_one_eq_mod]
  have e : y.toNat * 2 ^ 16 % 2 ^ 32 = (y.toNat % 2 ^ 16) * 2 ^ 16 := by omega
  rw [e, or_add 16 (Nat.mod_lt _ (by decide))]
  omega
theorem fst_one (p : Nat → Bool) (a : Nat) : fst p a 0 1 = if p (ad a 0) = true then none else some (ad a 0) := by
  simp only [fst]
  cases p (ad a 0) <;> rfl
theorem ad_zero (x : BitVec 32) : ad x.toNat 0 = x.toNat := by unfold ad; rw [Nat.add_zero]; exact Nat.mod_eq_of_lt x.isLt
theorem Own.set1 {n0 : Nat} {h : Heap} {v : V} {l : List V} {e : TypeId} (ho : Own n0 h v l e) {i : Nat} (hi : i < l.length) : ∃ b y c, v = .slice (some (b, 0)) l.length l.length y ∧ n0 ≤ b ∧ h.get b = some (.cells c e) ∧ c.size = l.length ∧ c.ro = false ∧ sblk v = b ∧ ∀ x, Own n0 (h.set b (.cells (c.set i x) e)) v (l.set i x) e := by
  obtain ⟨b, y, c, rfl, h1, h2, h3, h4, _, h6⟩ := ho.get hi
  refine ⟨b, y, c, rfl, h1, h2, h3, h4, rfl, fun x => .inr ⟨b, y, c.set i x, fun e' => ?_, by rw [List.length_set], h1, w_set_eq (Heap.lt_of_get h2) rfl _, by rw [Blk.size_set, List.length_set]; exact h3, by rw [Blk.ro_set]; exact h4, ?_⟩⟩
  · have := congrArg List.length e'
    rw [List.length_set] at this
    simp at this
    rw [this] at hi
    simp at hi
  · rw [List.length_set, set_gets, h6]
set_option maxHeartbeats 4000000 in
theorem rx_6 (C : RCtx tr g sp ip k4 k5 rm n1 N vB vr L Q q rs pc 6 d a b m W) : Goal28 h0 g tr rm n1 vB vr L rs pc W (execO q L rs pc 6 d a b m) := by
  unfold Goal28 execO
  obtain ⟨ci, i0, i1, i2, i3, i4⟩ := C.i
  obtain ⟨c, hx, hc⟩ := C.x
  obtain ⟨c4, h4, s4, q4⟩ := C.r4
  obtain ⟨c5, h5, s5, q5⟩ := C.r5
  have hs := hc.size; have hr := hc.ro; have hpc := hc.pc
  obtain ⟨e1, e2, e3⟩ := C.ne
  obtain ⟨w1, w2, w3⟩ := C.Ws
  have e1' := e1.symm; have e2' := e2.symm; have e3' := e3.symm
  have t1 := C.t1; have t2 := C.t2; have t4 := C.t4; have t5 := C.t5; have t8 := C.t8; have t10 := C.t10; have t11 := C.t11; have t12 := C.t12; have t13 := C.t13; have t14 := C.t14
  have hd := C.d16
  have hd17 : d < 17 := by omega
  have hrd := hc.reg d hd
  have him := i_im m
  have him2 := i_im2 m
  have l1 := Heap.lt_of_get hx; have l4 := Heap.lt_of_get h4; have l5 := Heap.lt_of_get h5
  have s38 : ∀ o, (g.set sp o).get k4 = some (.cells c4 28) := fun o => by rw [w_set_ne l1 e1']; exact h4
  have s39 : ∀ o, (g.set sp o).get k5 = some (.cells c5 38) := fun o => by rw [w_set_ne l1 e2']; exact h5
  rw [hi_eq]
  have b1 : intBin .rem .u32 ((rs d).toNat : Int) 65536 = some (U (rs d % 65536#32)) := b_rem _ 65536#32 (by decide)
  have b2 : intBin .mul .u32 ((imW m).toNat : Int) 65536 = some (U (imW m * 65536#32)) := b_mul _ 65536#32
  simp -implicitDefEqProofs (disch := (first | omega | fail)) only [go_sem, seval, ↓reduceIte, ir28_r10_eq, ir28_s10, undefV, t2, t8, i0, i1, i2, i3, i4, hx, hs, hr, w1, hrd, him2, ↓cvDD, cD, ↓b1, ↓b2, ↓b_add]
  refine tail28 (w_set_eq l1 rfl _) (hc.setR hd _) (s38 _) ⟨s4, q4⟩ (s39 _) ⟨s5, q5⟩ C.ne (C.mem.keep fun b d e n1 n2 n3 hb => set_e hx b d e n1 hb) C.Ws ?_ ?_ ?_ ?_
  · simp -implicitDefEqProofs (disch := (first | omega | fail)) only [go_sem, seval, ↓reduceIte, t2]
  · simp -implicitDefEqProofs (disch := (first | omega | fail)) only [go_sem, seval, ↓reduceIte, t4]
  · simp -implicitDefEqProofs (disch := (first | omega | fail)) only [go_sem, seval, ↓reduceIte, t5]
  · simp -implicitDefEqProofs (disch := (first | omega | fail)) only [go_sem, seval, ↓reduceIte, t14]
set_option maxHeartbeats 4000000 in
theorem rx_19 (C : RCtx tr g sp ip k4 k5 rm n1 N vB vr L Q q rs pc 19 d a b m W) : Goal28 h0 g tr rm n1 vB vr L rs pc W (execO q L rs pc 19 d a b m) := by
  unfold Goal28 execO
  obtain ⟨ci, i0, i1, i2, i3, i4⟩ := C.i
  obtain ⟨c, hx, hc⟩ := C.x
  obtain ⟨c4, h4, s4, q4⟩ := C.r4
  obtain ⟨c5, h5, s5, q5⟩ := C.r5
  have hs := hc.size; have hr := hc.ro; have hpc := hc.pc
  obtain ⟨e1, e2, e3⟩ := C.ne
  obtain ⟨w1, w2, w3⟩ := C.Ws
  have e1' := e1.symm; have e2' := e2.symm; have e3' := e3.symm
  have t1 := C.t1; have t2 := C.t2; have t4 := C.t4; have t5 := C.t5; have t8 := C.t8; have t10 := C.t10; have t11 := C.t11; have t12 := C.t12; have t13 := C.t13; have t14 := C.t14
  have hd := C.d16
  have hd17 : d < 17 := by omega
  have hrd := hc.reg d hd
  have him := i_im m
  have him2 := i_im2 m
  have l1 := Heap.lt_of_get hx; have l4 := Heap.lt_of_get h4; have l5 := Heap.lt_of_get h5
  have s38 : ∀ o, (g.set sp o).get k4 = some (.cells c4 28) := fun o => by rw [w_set_ne l1 e1']; exact h4
  have s39 : ∀ o, (g.set sp o).get k5 = some (.cells c5 38) := fun o => by rw [w_set_ne l1 e2']; exact h5
  simp only [Nat.reduceEqDiff, if_false, if_true]
  obtain ⟨hrg, hLl, hfew, hint, hbyt⟩ := C.rig
  obtain ⟨hmem, hown⟩ := C.mem
  simp -implicitDefEqProofs (disch := (first | omega | (simp -implicitDefEqProofs only [szs, ne_eq] <;> omega) | fail)) only [go_sem, seval, ↓reduceIte, ir28_r10_eq, ir28_s10, t1, t8, t12, i0, i1, i2]
  refine GCall.of (rfirst_ok (R := fun _ => True) (W := W) hmem hrg hint hfew (fun _ => trivial) (a := (rs a + imW m).toNat) (n := 4) (by omega) 1) ?_
  rintro r g1 ⟨rfl, hg1⟩
  rw [hg1, ← hLl]
  cases hF : fst (fun x => mayB q L.length x 1) (rs a + imW m).toNat 0 4 with
  | some x =>
    have a0 := hc.reg 0 (by omega)
    have a1 := hc.reg 1 (by omega)
    have a2 := hc.reg 2 (by omega)
    have a3 := hc.reg 3 (by omega)
    have a4 := hc.reg 4 (by omega)
    have a5 := hc.reg 5 (by omega)
    have a6 := hc.reg 6 (by omega)
    have a7 := hc.reg 7 (by omega)
    have a8 := hc.reg 8 (by omega)
    have a9 := hc.reg 9 (by omega)
    have a10 := hc.reg 10 (by omega)
    have a11 := hc.reg 11 (by omega)
    have a12 := hc.reg 12 (by omega)
    have a13 := hc.reg 13 (by omega)
    have a14 := hc.reg 14 (by omega)
    have a15 := hc.reg 15 (by omega)
    simp -implicitDefEqProofs (disch := (first | omega | (simp -implicitDefEqProofs only [szs, ne_eq] <;> omega) | fail)) only [go_sem, seval, ↓reduceIte, undefV, t2, t4, t5, hx, hs, h4, s4, q4, h5, s5, q5, w2, w3, fstT, hpc, a0, a1, a2, a3, a4, a5, a6, a7, a8, a9, a10, a11, a12, a13, a14, a15]
    have hp : ∀ j, j < 17 → (c4.putA 0 [U (rs 0), U (rs 1), U (rs 2), U (rs 3), U (rs 4), U (rs 5), U (rs 6), U (rs 7), U (rs 8), U (rs 9), U (rs 10), U (rs 11), U (rs 12), U (rs 13), U (rs 14), U (rs 15), U pc]).get j = [U (rs 0), U (rs 1), U (rs 2), U (rs 3), U (rs 4), U (rs 5), U (rs 6), U (rs 7), U (rs 8), U (rs 9), U (rs 10), U (rs 11), U (rs 12), U (rs 13), U (rs 14), U (rs 15), U pc].getD j undefV := fun j hj => get_put17 s4 _ rfl j hj
    rw [hp 0 (by omega), hp 1 (by omega), hp 2 (by omega), hp 3 (by omega), hp 4 (by omega), hp 5 (by omega), hp 6 (by omega), hp 7 (by omega), hp 8 (by omega), hp 9 (by omega), hp 10 (by omega), hp 11 (by omega), hp 12 (by omega), hp 13 (by omega), hp 14 (by omega), hp 15 (by omega), hp 16 (by omega)]
    have y2 : ∀ o, (g.set k4 o).get k5 = some (.cells c5 38) := fun o => by rw [w_set_ne l4 e3']; exact h5
    exact ⟨rfl, C.mem.keep fun b d e n1 n2 n3 hb => set_e (y2 _) b d e n2 (set_e h4 b d e n1 hb)⟩
  | none =>
    simp -implicitDefEqProofs (disch := (first | omega | (simp -implicitDefEqProofs only [szs, ne_eq] <;> omega) | fail)) only [go_sem, seval, ↓reduceIte, t1, t8, t12, i0, i1, i3, fstT]
    refine GCallD.of (R' := fun _ => True) (W' := fun _ => False) (rword50_ok (R := fun _ => True) (W := fun _ => False) hmem hown.lv hbyt (a := (rs a + imW m).toNat) (fst_len hF) (by omega) (fun _ _ => trivial)) ?_
    rintro r g2 ⟨rfl, hg2⟩
    rw [hg2, toNat_wN hbyt]
    simp -implicitDefEqProofs (disch := (first | omega | (simp -implicitDefEqProofs only [szs, ne_eq] <;> omega) | fail)) only [go_sem, seval, ↓reduceIte, undefV, t2, hx, hs, hr, w1]
    refine ⟨?_, fun b _ h => h.elim, ?_⟩
    · simp only [List.not_mem_nil, or_false, false_or, and_false, false_implies, implies_true, not_false_eq_true, List.mem_cons, and_true]
      try and_intros
      all_goals (intros; omega)
    clear hF
    refine tail28 (w_set_eq l1 rfl _) (hc.setR hd _) (s38 _) ⟨s4, q4⟩ (s39 _) ⟨s5, q5⟩ C.ne (C.mem.keep fun b d e n1 n2 n3 hb => set_e hx b d e n1 hb) C.Ws ?_ ?_ ?_ ?_
    · simp -implicitDefEqProofs (disch := (first | omega | (simp -implicitDefEqProofs only [szs, ne_eq] <;> omega) | fail)) only [go_sem, seval, ↓reduceIte, t2]
    · simp -implicitDefEqProofs (disch := (first | omega | (simp -implicitDefEqProofs only [szs, ne_eq] <;> omega) | fail)) only [go_sem, seval, ↓reduceIte, t4]
    · simp -implicitDefEqProofs (disch := (first | omega | (simp -implicitDefEqProofs only [szs, ne_eq] <;> omega) | fail)) only [go_sem, seval, ↓reduceIte, t5]
    · simp -implicitDefEqProofs (disch := (first | omega | (simp -implicitDefEqProofs only [szs, ne_eq] <;> omega) | fail)) only [go_sem, seval, ↓reduceIte, t14]
set_option maxHeartbeats 4000000 in
theorem rx_21 (C : RCtx tr g sp ip k4 k5 rm n1 N vB vr L Q q rs pc 21 d a b m W) : Goal28 h0 g tr rm n1 vB vr L rs pc W (execO q L rs pc 21 d a b m) := by
  unfold Goal28 execO
  obtain ⟨ci, i0, i1, i2, i3, i4⟩ := C.i
  obtain ⟨c, hx, hc⟩ := C.x
  obtain ⟨c4, h4, s4, q4⟩ := C.r4
  obtain ⟨c5, h5, s5, q5⟩ := C.r5
  have hs := hc.size; have hr := hc.ro; have hpc := hc.pc
  obtain ⟨e1, e2, e3⟩ := C.ne
  obtain ⟨w1, w2, w3⟩ := C.Ws
  have e1' := e1.symm; have e2' := e2.symm; have e3' := e3.symm
  have t1 := C.t1; have t2 := C.t2; have t4 := C.t4; have t5 := C.t5; have t8 := C.t8; have t10 := C.t10; have t11 := C.t11; have t12 := C.t12; have t13 := C.t13; have t14 := C.t14
  have hd := C.d16
  have hd17 : d < 17 := by omega
  have hrd := hc.reg d hd
  have him := i_im m
  have him2 := i_im2 m
  have l1 := Heap.lt_of_get hx; have l4 := Heap.lt_of_get h4; have l5 := Heap.lt_of_get h5
  have s38 : ∀ o, (g.set sp o).get k4 = some (.cells c4 28) := fun o => by rw [w_set_ne l1 e1']; exact h4
  have s39 : ∀ o, (g.set sp o).get k5 = some (.cells c5 38) := fun o => by rw [w_set_ne l1 e2']; exact h5
  simp only [Nat.reduceEqDiff, if_false, if_true, fst_one, ad_zero]
  obtain ⟨hrg, hLl, hfew, hint, hbyt⟩ := C.rig
  obtain ⟨hmem, hown⟩ := C.mem
  simp -implicitDefEqProofs (disch := (first | omega | (simp -implicitDefEqProofs only [szs, ne_eq] <;> omega) | fail)) only [go_sem, seval, ↓reduceIte, ir28_r10_eq, ir28_s10, t1, t8, t12, i0, i1, i2]
  refine GCall.of (rmay_ok (R := fun _ => True) (W := W) hmem hrg hint hfew (fun _ => trivial) (a := (rs a + imW m).toNat) (rs a + imW m).isLt 1) ?_
  rintro r g1 ⟨rfl, hg1⟩
  rw [hg1, ← hLl]
  cases hF : mayB q L.length (rs a + imW m).toNat 1 with
  | false =>
    simp only [Bool.false_eq_true, if_false]
    have a0 := hc.reg 0 (by omega)
    have a1 := hc.reg 1 (by omega)
    have a2 := hc.reg 2 (by omega)
    have a3 := hc.reg 3 (by omega)
    have a4 := hc.reg 4 (by omega)
    have a5 := hc.reg 5 (by omega)
    have a6 := hc.reg 6 (by omega)
    have a7 := hc.reg 7 (by omega)
    have a8 := hc.reg 8 (by omega)
    have a9 := hc.reg 9 (by omega)
    have a10 := hc.reg 10 (by omega)
    have a11 := hc.reg 11 (by omega)
    have a12 := hc.reg 12 (by omega)
    have a13 := hc.reg 13 (by omega)
    have a14 := hc.reg 14 (by omega)
    have a15 := hc.reg 15 (by omega)
    simp -implicitDefEqProofs (disch := (first | omega | (simp -implicitDefEqProofs only [szs, ne_eq] <;> omega) | fail)) only [go_sem, seval, ↓reduceIte, undefV, t2, t4, t5, t12, hx, hs, h4, s4, q4, h5, s5, q5, w2, w3, hpc, a0, a1, a2, a3, a4, a5, a6, a7, a8, a9, a10, a11, a12, a13, a14, a15]
    have hp : ∀ j, j < 17 → (c4.putA 0 [U (rs 0), U (rs 1), U (rs 2), U (rs 3), U (rs 4), U (rs 5), U (rs 6), U (rs 7), U (rs 8), U (rs 9), U (rs 10), U (rs 11), U (rs 12), U (rs 13), U (rs 14), U (rs 15), U pc]).get j = [U (rs 0), U (rs 1), U (rs 2), U (rs 3), U (rs 4), U (rs 5), U (rs 6), U (rs 7), U (rs 8), U (rs 9), U (rs 10), U (rs 11), U (rs 12), U (rs 13), U (rs 14), U (rs 15), U pc].getD j undefV := fun j hj => get_put17 s4 _ rfl j hj
    rw [hp 0 (by omega), hp 1 (by omega), hp 2 (by omega), hp 3 (by omega), hp 4 (by omega), hp 5 (by omega), hp 6 (by omega), hp 7 (by omega), hp 8 (by omega), hp 9 (by omega), hp 10 (by omega), hp 11 (by omega), hp 12 (by omega), hp 13 (by omega), hp 14 (by omega), hp 15 (by omega), hp 16 (by omega)]
    have y2 : ∀ o, (g.set k4 o).get k5 = some (.cells c5 38) := fun o => by rw [w_set_ne l4 e3']; exact h5
    exact ⟨rfl, C.mem.keep fun b d e n1 n2 n3 hb => set_e (y2 _) b d e n2 (set_e h4 b d e n1 hb)⟩
  | true =>
    simp only [if_true]
    have hal := mayB_lt hF
    obtain ⟨bB, oB, capB, exB, cB, ceB, rfl, j1, j2, j3⟩ := hown.lv.byte hbyt hal
    obtain ⟨cm, m1, ms, m0, m2⟩ := hmem.c
    have hlB := (show LV g _ L from hown.lv).len23
    have hali : (((rs a + imW m).toNat : Nat) : Int) < L.length := by omega
    have w0 : IntKind.u32.wrap ((bN L (rs a + imW m).toNat : Nat) : Int) = ((BitVec.ofNat 32 (bN L (rs a + imW m).toNat)).toNat : Int) := by
      rw [← toNat_bN hbyt]; exact IntWalk.u32_in _ (by have := (bN_eq hbyt (rs a + imW m).toNat).2; omega)
    have hnn : (0 : Int) ≤ (((rs a + imW m).toNat : Nat) : Int) := by omega
    have j4 : oB + (rs a + imW m).toNat < cB.size := by omega
    simp -implicitDefEqProofs (disch := (first | omega | (simp -implicitDefEqProofs only [szs, ne_eq] <;> omega) | fail)) only [go_sem, seval, ↓reduceIte, undefV, t1, t2, t8, t12, i0, i1, i3, hx, hs, hr, w1, m1, ms, m0, j1, j3, hnn, hali, ↓cvd5_25, c5_25, w0]
    refine tail28 (w_set_eq l1 rfl _) (hc.setR hd _) (s38 _) ⟨s4, q4⟩ (s39 _) ⟨s5, q5⟩ C.ne (C.mem.keep fun b d e n1 n2 n3 hb => set_e hx b d e n1 hb) C.Ws ?_ ?_ ?_ ?_
    · simp -implicitDefEqProofs (disch := (first | omega | (simp -implicitDefEqProofs only [szs, ne_eq] <;> omega) | fail)) only [go_sem, seval, ↓reduceIte, t2]
    · simp -implicitDefEqProofs (disch := (first | omega | (simp -implicitDefEqProofs only [szs, ne_eq] <;> omega) | fail)) only [go_sem, seval, ↓reduceIte, t4]
    · simp -implicitDefEqProofs (disch := (first | omega | (simp -implicitDefEqProofs only [szs, ne_eq] <;> omega) | fail)) only [go_sem, seval, ↓reduceIte, t5]
    · simp -implicitDefEqProofs (disch := (first | omega | (simp -implicitDefEqProofs only [szs, ne_eq] <;> omega) | fail)) only [go_sem, seval, ↓reduceIte, t14]
set_option maxHeartbeats 4000000 in
theorem rx_22 (C : RCtx tr g sp ip k4 k5 rm n1 N vB vr L Q q rs pc 22 d a b m W) : Goal28 h0 g tr rm n1 vB vr L rs pc W (execO q L rs pc 22 d a b m) := by
  unfold Goal28 execO
  obtain ⟨ci, i0, i1, i2, i3, i4⟩ := C.i
  obtain ⟨c, hx, hc⟩ := C.x
  obtain ⟨c4, h4, s4, q4⟩ := C.r4
  obtain ⟨c5, h5, s5, q5⟩ := C.r5
  have hs := hc.size; have hr := hc.ro; have hpc := hc.pc
  obtain ⟨e1, e2, e3⟩ := C.ne
  obtain ⟨w1, w2, w3⟩ := C.Ws
  have e1' := e1.symm; have e2' := e2.symm; have e3' := e3.symm
  have t1 := C.t1; have t2 := C.t2; have t4 := C.t4; have t5 := C.t5; have t8 := C.t8; have t10 := C.t10; have t11 := C.t11; have t12 := C.t12; have t13 := C.t13; have t14 := C.t14
  have hd := C.d16
  have hd17 : d < 17 := by omega
  have hrd := hc.reg d hd
  have him := i_im m
  have him2 := i_im2 m
  have l1 := Heap.lt_of_get hx; have l4 := Heap.lt_of_get h4; have l5 := Heap.lt_of_get h5
  have s38 : ∀ o, (g.set sp o).get k4 = some (.cells c4 28) := fun o => by rw [w_set_ne l1 e1']; exact h4
  have s39 : ∀ o, (g.set sp o).get k5 = some (.cells c5 38) := fun o => by rw [w_set_ne l1 e2']; exact h5
  simp only [Nat.reduceEqDiff, if_false, if_true, fst_one, ad_zero]
  obtain ⟨hrg, hLl, hfew, hint, hbyt⟩ := C.rig
  obtain ⟨hmem, hown⟩ := C.mem
  simp -implicitDefEqProofs (disch := (first | omega | (simp -implicitDefEqProofs only [szs, ne_eq] <;> omega) | fail)) only [go_sem, seval, ↓reduceIte, ir28_r10_eq, ir28_s10, t1, t8, t12, i0, i1, i2]
  refine GCall.of (rmay_ok (R := fun _ => True) (W := W) hmem hrg hint hfew (fun _ => trivial) (a := (rs a + imW m).toNat) (rs a + imW m).isLt 2) ?_
  rintro r g1 ⟨rfl, hg1⟩
  rw [hg1, ← hLl]
  cases hF : mayB q L.length (rs a + imW m).toNat 2 with
  | false =>
    simp only [Bool.false_eq_true, if_false]
    have a0 := hc.reg 0 (by omega)
    have a1 := hc.reg 1 (by omega)
    have a2 := hc.reg 2 (by omega)
    have a3 := hc.reg 3 (by omega)
    have a4 := hc.reg 4 (by omega)
    have a5 := hc.reg 5 (by omega)
    have a6 := hc.reg 6 (by omega)
    have a7 := hc.reg 7 (by omega)
    have a8 := hc.reg 8 (by omega)
    have a9 := hc.reg 9 (by omega)
    have a10 := hc.reg 10 (by omega)
    have a11 := hc.reg 11 (by omega)
    have a12 := hc.reg 12 (by omega)
    have a13 := hc.reg 13 (by omega)
    have a14 := hc.reg 14 (by omega)
    have a15 := hc.reg 15 (by omega)
    simp -implicitDefEqProofs (disch := (first | omega | (simp -implicitDefEqProofs only [szs, ne_eq] <;> omega) | fail)) only [go_sem, seval, ↓reduceIte, undefV, t2, t4, t5, t12, hx, hs, h4, s4, q4, h5, s5, q5, w2, w3, hpc, a0, a1, a2, a3, a4, a5, a6, a7, a8, a9, a10, a11, a12, a13, a14, a15]
    have hp : ∀ j, j < 17 → (c4.putA 0 [U (rs 0), U (rs 1), U (rs 2), U (rs 3), U (rs 4), U (rs 5), U (rs 6), U (rs 7), U (rs 8), U (rs 9), U (rs 10), U (rs 11), U (rs 12), U (rs 13), U (rs 14), U (rs 15), U pc]).get j = [U (rs 0), U (rs 1), U (rs 2), U (rs 3), U (rs 4), U (rs 5), U (rs 6), U (rs 7), U (rs 8), U (rs 9), U (rs 10), U (rs 11), U (rs 12), U (rs 13), U (rs 14), U (rs 15), U pc].getD j undefV := fun j hj => get_put17 s4 _ rfl j hj
    rw [hp 0 (by omega), hp 1 (by omega), hp 2 (by omega), hp 3 (by omega), hp 4 (by omega), hp 5 (by omega), hp 6 (by omega), hp 7 (by omega), hp 8 (by omega), hp 9 (by omega), hp 10 (by omega), hp 11 (by omega), hp 12 (by omega), hp 13 (by omega), hp 14 (by omega), hp 15 (by omega), hp 16 (by omega)]
    have y2 : ∀ o, (g.set k4 o).get k5 = some (.cells c5 38) := fun o => by rw [w_set_ne l4 e3']; exact h5
    exact ⟨rfl, C.mem.keep fun b d e n1 n2 n3 hb => set_e (y2 _) b d e n2 (set_e h4 b d e n1 hb)⟩
  | true =>
    simp only [if_true]
    have hal := mayB_lt hF
    obtain ⟨bB, yB, cB, rfl, j0, j1, j2, j3, j5, j6⟩ := hown.set1 hal
    obtain ⟨cm, m1, ms, m0, m2⟩ := hmem.c
    have hlB := (show LV g _ L from hown.lv).len23
    have hali : (((rs a + imW m).toNat : Nat) : Int) < L.length := by omega
    have hnn : (0 : Int) ≤ (((rs a + imW m).toNat : Nat) : Int) := by omega
    have j4 : (rs a + imW m).toNat < cB.size := by omega
    have j7 : (rs a + imW m).toNat < L.length := hal
    have wB : W bB := C.Wm bB j5.symm j0
    have w0 : IntKind.u8.wrap ((rs d).toNat : Int) = (((rs d).toNat % 256 : Nat) : Int) := u8_mod _
    simp -implicitDefEqProofs (disch := (first | omega | (simp -implicitDefEqProofs only [szs, ne_eq] <;> omega) | fail)) only [go_sem, seval, ↓reduceIte, undefV, t1, t2, t8, t12, i0, i1, i3, hx, hs, hrd, m1, ms, m0, j1, j2, j3, wB, hnn, hali, ↓cvd25_5, c25_5, w0]
    have hne : ∀ k c e, e ≠ 5 → g.get k = some (.cells c e) → k ≠ bB := fun k c e he hk e' => by rw [e', j1] at hk; simp at hk; exact he hk.2.symm
    have lB := Heap.lt_of_get j1
    have hmr : rm ≠ bB := hne rm cm 46 (by decide) m1
    have hputs : puts L (rs a + imW m).toNat [byteAt (rs d) 0] 1 = L.set (rs a + imW m).toNat (.int .u8 (((rs d).toNat % 256 : Nat) : Int)) := by
      simp only [puts, ad_zero]; unfold byteAt; simp
    rw [hputs]
    refine tail28 ((w_set_ne lB (hne sp c 28 (by decide) hx) _).trans hx) hc ((w_set_ne lB (hne k4 c4 28 (by decide) h4) _).trans h4) ⟨s4, q4⟩ ((w_set_ne lB (hne k5 c5 38 (by decide) h5) _).trans h5) ⟨s5, q5⟩ C.ne ⟨⟨cm, (w_set_ne lB hmr _).trans m1, ms, m0, m2⟩, j6 _⟩ C.Ws ?_ ?_ ?_ ?_
    · simp -implicitDefEqProofs (disch := (first | omega | (simp -implicitDefEqProofs only [szs, ne_eq] <;> omega) | fail)) only [go_sem, seval, ↓reduceIte, t2]
    · simp -implicitDefEqProofs (disch := (first | omega | (simp -implicitDefEqProofs only [szs, ne_eq] <;> omega) | fail)) only [go_sem, seval, ↓reduceIte, t4]
    · simp -implicitDefEqProofs (disch := (first | omega | (simp -implicitDefEqProofs only [szs, ne_eq] <;> omega) | fail)) only [go_sem, seval, ↓reduceIte, t5]
    · simp -implicitDefEqProofs (disch := (first | omega | (simp -implicitDefEqProofs only [szs, ne_eq] <;> omega) | fail)) only [go_sem, seval, ↓reduceIte, t14]
end Go.Proofs.Ytmkdbninmimndaa
