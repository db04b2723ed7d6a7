/- The document's Store (printed by genEC.py). -/
import Derived.Test.YtmkdbninmimndaaEB
set_option linter.unusedVariables false
set_option maxRecDepth 100000
namespace Go.Proofs.Ytmkdbninmimndaa
open Go Go.Vm
variable {h0 g : Heap} {tr : Tr V} {sp ip k4 k5 rm n1 N : Nat} {vB vr : V} {L Q : List V} {q : Nat → Int} {rs : Regs} {pc : BitVec 32} {op d a b : Nat} {m : Int} {W : Set'}
theorem n_quo256 {x : Nat} (hx : x < 4294967296) : intBin .quo .u32 (x : Int) 256 = some (.int .u32 ((x / 256 : Nat) : Int)) := by
  have h := b_quo (BitVec.ofNat 32 x) 256#32 (by decide)
  unfold U at h
  rw [BitVec.toNat_udiv, BitVec.toNat_ofNat, Nat.mod_eq_of_lt hx] at h
  exact h
theorem n_ad {a i : Nat} (hi : i < 4294967296) : intBin .add .u32 (a : Int) (i : Int) = some (.int .u32 (ad a i : Nat)) := by
  have h := ad_eq a i
  rw [IntWalk.u32_in _ (by omega)] at h
  exact h
theorem bytes4_at (v : BitVec 32) {i : Nat} (hi : i < 4) : (bytes4 v).getD i undefV = byteAt v i := by
  rcases (show i = 0 ∨ i = 1 ∨ i = 2 ∨ i = 3 by omega) with rfl | rfl | rfl | rfl <;> rfl
set_option maxHeartbeats 4000000 in
theorem rx_20 (C : RCtx tr g sp ip k4 k5 rm n1 N vB vr L Q q rs pc 20 d a b m W) : Goal28 h0 g tr rm n1 vB vr L rs pc W (execO q L rs pc 20 d a b m) := by
  unfold Goal28 execO
  obtain ⟨ci, i0, i1, i2, i3, i4⟩ := C.i
  obtain ⟨c, hx, hc⟩ := C.x
  obtain ⟨c4, h4, s4, q4⟩ := C.r4
  obtain ⟨c5, h5, s5, q5⟩ := C.r5
  have hs := hc.size; have hr := hc.ro; have hpc := hc.pc
  obtain ⟨e1, e2, e3⟩ := C.ne
  obtain ⟨w1, w2, w3⟩ := C.Ws
  have e1' := e1.symm; have e2' := e2.symm; have e3' := e3.symm
  have t1 := C.t1; have t2 := C.t2; have t4 := C.t4; have t5 := C.t5; have t8 := C.t8; have t10 := C.t10; have t11 := C.t11; have t12 := C.t12; have t13 := C.t13; have t14 := C.t14
  have hd := C.d16
  have hd17 : d < 17 := by omega
  have hrd := hc.reg d hd
  have him := i_im m
  have him2 := i_im2 m
  have l1 := Heap.lt_of_get hx; have l4 := Heap.lt_of_get h4; have l5 := Heap.lt_of_get h5
  have s38 : ∀ o, (g.set sp o).get k4 = some (.cells c4 28) := fun o => by rw [w_set_ne l1 e1']; exact h4
  have s39 : ∀ o, (g.set sp o).get k5 = some (.cells c5 38) := fun o => by rw [w_set_ne l1 e2']; exact h5
  simp only [Nat.reduceEqDiff, if_false, if_true]
  obtain ⟨hrg, hLl, hfew, hint, hbyt⟩ := C.rig
  obtain ⟨hmem, hown⟩ := C.mem
  simp -implicitDefEqProofs (disch := (first | omega | (simp -implicitDefEqProofs only [szs, ne_eq] <;> omega) | fail)) only [go_sem, Nat.reduceAdd, Nat.reduceLT, Nat.reduceEqDiff, ↓reduceIte, ir28_r10_eq, ir28_s10, t1, t8, t12, i0, i1, i2]
  refine GCall.of (rfirst_ok (R := fun _ => True) (W := W) hmem hrg hint hfew (fun _ => trivial) (a := (rs a + imW m).toNat) (n := 4) (by omega) 2) ?_
  rintro r g1 ⟨rfl, hg1⟩
  rw [hg1, ← hLl]
  cases hF : fst (fun x => mayB q L.length x 2) (rs a + imW m).toNat 0 4 with
  | some x =>
    have a0 := hc.reg 0 (by omega)
    have a1 := hc.reg 1 (by omega)
    have a2 := hc.reg 2 (by omega)
    have a3 := hc.reg 3 (by omega)
    have a4 := hc.reg 4 (by omega)
    have a5 := hc.reg 5 (by omega)
    have a6 := hc.reg 6 (by omega)
    have a7 := hc.reg 7 (by omega)
    have a8 := hc.reg 8 (by omega)
    have a9 := hc.reg 9 (by omega)
    have a10 := hc.reg 10 (by omega)
    have a11 := hc.reg 11 (by omega)
    have a12 := hc.reg 12 (by omega)
    have a13 := hc.reg 13 (by omega)
    have a14 := hc.reg 14 (by omega)
    have a15 := hc.reg 15 (by omega)
    simp -implicitDefEqProofs (disch := (first | omega | (simp -implicitDefEqProofs only [szs, ne_eq] <;> omega) | fail)) only [go_sem, Nat.reduceAdd, Nat.reduceLT, Nat.reduceEqDiff, Nat.reduceLeDiff, ↓reduceIte, undefV, t2, t4, t5, hx, hs, h4, s4, q4, h5, s5, q5, w2, w3, fstT, hpc, a0, a1, a2, a3, a4, a5, a6, a7, a8, a9, a10, a11, a12, a13, a14, a15]
    have hp : ∀ j, j < 17 → (c4.putA 0 [U (rs 0), U (rs 1), U (rs 2), U (rs 3), U (rs 4), U (rs 5), U (rs 6), U (rs 7), U (rs 8), U (rs 9), U (rs 10), U (rs 11), U (rs 12), U (rs 13), U (rs 14), U (rs 15), U pc]).get j = [U (rs 0), U (rs 1), U (rs 2), U (rs 3), U (rs 4), U (rs 5), U (rs 6), U (rs 7), U (rs 8), U (rs 9), U (rs 10), U (rs 11), U (rs 12), U (rs 13), U (rs 14), U (rs 15), U pc].getD j undefV := fun j hj => get_put17 s4 _ rfl j hj
    rw [hp 0 (by omega), hp 1 (by omega), hp 2 (by omega), hp 3 (by omega), hp 4 (by omega), hp 5 (by omega), hp 6 (by omega), hp 7 (by omega), hp 8 (by omega), hp 9 (by omega), hp 10 (by omega), hp 11 (by omega), hp 12 (by omega), hp 13 (by omega), hp 14 (by omega), hp 15 (by omega), hp 16 (by omega)]
    have y2 : ∀ o, (g.set k4 o).get k5 = some (.cells c5 38) := fun o => by rw [w_set_ne l4 e3']; exact h5
    exact ⟨rfl, C.mem.keep fun b d e n1 n2 n3 hb => set_e (y2 _) b d e n2 (set_e h4 b d e n1 hb)⟩
  | none =>
    have hal := fst_len hF
    simp -implicitDefEqProofs (disch := (first | omega | (simp -implicitDefEqProofs only [szs, ne_eq] <;> omega) | fail)) only [go_sem, Nat.reduceAdd, Nat.reduceLT, Nat.reduceEqDiff, ↓reduceIte, t2, t8, i0, i1, i3, hx, hs, hrd, fstT]
    refine GLoop.inv hm (fun k f g' => f.mks = [] ∧ f.tm.n = 297 ∧ f.tm.get 1 = some (.ptr (some (rm, 0))) ∧ f.tm.get 2 = some (.ptr (some (sp, 0))) ∧ f.tm.get 4 = some (.ptr (some (k4, 0))) ∧ f.tm.get 5 = some (.ptr (some (k5, 0))) ∧ f.tm.get 12 = some (U (rs a + imW m)) ∧ f.tm.get 14 = some (U (pc + 4#32)) ∧ g'.n = g.n ∧ (∀ b, b ≠ sblk vB → g'.get b = g.get b) ∧ ∃ i : Nat, i + k = 4 ∧ f.tm.get 19 = some (.int .u32 (((rs d).toNat / 256 ^ i : Nat) : Int)) ∧ f.tm.get 20 = some (.int .u32 (i : Int)) ∧ Own n1 g' vB (puts L (rs a + imW m).toNat (bytes4 (rs d)) i) 5) 4 ?_ ?_
    · exact ⟨rfl, rfl, by simp -implicitDefEqProofs (disch := (first | omega | (simp -implicitDefEqProofs only [szs, ne_eq] <;> omega) | fail)) only [go_sem, Nat.reduceEqDiff, ↓reduceIte, t1], by simp -implicitDefEqProofs (disch := (first | omega | (simp -implicitDefEqProofs only [szs, ne_eq] <;> omega) | fail)) only [go_sem, Nat.reduceEqDiff, ↓reduceIte, t2], by simp -implicitDefEqProofs (disch := (first | omega | (simp -implicitDefEqProofs only [szs, ne_eq] <;> omega) | fail)) only [go_sem, Nat.reduceEqDiff, ↓reduceIte, t4], by simp -implicitDefEqProofs (disch := (first | omega | (simp -implicitDefEqProofs only [szs, ne_eq] <;> omega) | fail)) only [go_sem, Nat.reduceEqDiff, ↓reduceIte, t5], by simp -implicitDefEqProofs (disch := (first | omega | (simp -implicitDefEqProofs only [szs, ne_eq] <;> omega) | fail)) only [go_sem, Nat.reduceEqDiff, ↓reduceIte, t12], by simp -implicitDefEqProofs (disch := (first | omega | (simp -implicitDefEqProofs only [szs, ne_eq] <;> omega) | fail)) only [go_sem, Nat.reduceEqDiff, ↓reduceIte, t14], rfl, fun _ _ => rfl, 0, by omega, by simp -implicitDefEqProofs (disch := (first | omega | (simp -implicitDefEqProofs only [szs, ne_eq] <;> omega) | fail)) only [go_sem, Nat.reduceEqDiff, ↓reduceIte, Nat.pow_zero, Nat.div_one], by simp -implicitDefEqProofs (disch := (first | omega | (simp -implicitDefEqProofs only [szs, ne_eq] <;> omega) | fail)) only [go_sem, ↓reduceIte]; rfl, hown⟩
    clear t1 t2 t4 t5 t8 t10 t11 t12 t13 t14
    rintro k ⟨⟨n', tr'⟩, mks⟩ g' ⟨hmk, hn', t1, t2, t4, t5, t12, t14, hgn, hold, i, hi, t19, t20, hB⟩
    simp only [Tm.get_mk] at hmk hn' t1 t2 t4 t5 t12 t14 t19 t20
    subst hmk hn'
    obtain ⟨cm, m1, ms, m0, m2⟩ := hmem.c
    have lsb : ∀ k c e, e ≠ 5 → g.get k = some (.cells c e) → k ≠ sblk vB := fun k c e he hk e' => by
      obtain ⟨b, y, cB, rfl, _, h1, _⟩ := hown.get (Nat.lt_of_le_of_lt (Nat.zero_le _) (hal 0 (by omega)))
      rw [e'] at hk
      rw [show sblk (V.slice (some (b, 0)) L.length L.length y) = b from rfl, h1] at hk
      simp at hk; exact he hk.2.symm
    have m1' := (hold rm (lsb rm cm 46 (by decide) m1)).trans m1
    by_cases h4i : i < 4
    · have hai := hal i h4i
      have hpl := puts_len L (rs a + imW m).toNat (bytes4 (rs d)) i
      obtain ⟨bB, yB, cB, hvB, j0, j1, j2, j3, j5, j6⟩ := hB.set1 (show ad (rs a + imW m).toNat i < (puts L (rs a + imW m).toNat (bytes4 (rs d)) i).length by omega)
      rw [hpl] at j2 hvB
      have hlB := (show LV g' _ _ from hB.lv).len23
      rw [hpl] at hlB
      obtain ⟨x, hxx⟩ : ∃ x : Nat, x = (rs d).toNat / 256 ^ i := ⟨_, rfl⟩
      have hx32 : x < 4294967296 := by
        have := (rs d).isLt
        rw [hxx]; exact Nat.lt_of_le_of_lt (Nat.div_le_self _ _) this
      rw [← hxx] at t19
      obtain ⟨A, hA⟩ : ∃ A : Nat, A = ad (rs a + imW m).toNat i := ⟨_, rfl⟩
      have a1 : intBin .add .u32 ((rs a + imW m).toNat : Int) (i : Int) = some (.int .u32 (A : Nat)) := by rw [hA]; exact n_ad (by omega)
      rw [← hA] at hai j6
      have a2 := n_quo256 hx32
      have a3 : intBin .add .u32 (i : Int) 1 = some (.int .u32 ((i + 1 : Nat) : Int)) := n_add (y := 1) (by omega) rfl
      have a4 : (i : Int) < 4 := by omega
      have w0 : IntKind.u8.wrap (x : Int) = ((x % 256 : Nat) : Int) := u8_mod _
      have hAi : (A : Int) < L.length := by omega
      have hnn : (0 : Int) ≤ (A : Int) := by omega
      have j4 : A < cB.size := by omega
      have wB : W bB := C.Wm bB (by rw [← j5]) j0
      subst hvB
      simp -implicitDefEqProofs (disch := (first | omega | (simp -implicitDefEqProofs only [szs, ne_eq] <;> omega) | fail)) only [go_sem, Nat.reduceAdd, Nat.reduceLT, Nat.reduceEqDiff, ↓reduceIte, ir28_l0, undefV, t1, t2, t4, t5, t12, t14, t19, t20, a4, m1', ms, m0, ↓a1, ↓a2, ↓a3, j1, j2, j3, wB, hnn, hAi, ↓cv25_5, c25_5, w0]
      refine ⟨k - 1, by omega, hgn, fun b hb => by rw [w_set_ne (Heap.lt_of_get j1) hb]; exact hold b hb, i + 1, by omega, ?_, rfl, ?_⟩
      · rw [hxx, Nat.pow_succ, Nat.div_div_eq_div_mul]
      · have := j6 (.int .u8 ((x % 256 : Nat) : Int))
        rw [puts, bytes4_at _ h4i, ← hA, byteAt, ← hxx]
        exact this
    · obtain rfl : i = 4 := by omega
      simp -implicitDefEqProofs (disch := (first | omega | (simp -implicitDefEqProofs only [szs, ne_eq] <;> omega) | fail)) only [go_sem, Nat.reduceAdd, Nat.reduceLT, ↓reduceIte, ir28_l0, t20]
      refine tail28 ((hold sp (lsb sp c 28 (by decide) hx)).trans hx) hc ((hold k4 (lsb k4 c4 28 (by decide) h4)).trans h4) ⟨s4, q4⟩ ((hold k5 (lsb k5 c5 38 (by decide) h5)).trans h5) ⟨s5, q5⟩ C.ne ⟨⟨cm, m1', ms, m0, m2⟩, hB⟩ C.Ws ?_ ?_ ?_ ?_
      · simp -implicitDefEqProofs (disch := (first | omega | (simp -implicitDefEqProofs only [szs, ne_eq] <;> omega) | fail)) only [go_sem, Nat.reduceEqDiff, ↓reduceIte, t2]
      · simp -implicitDefEqProofs (disch := (first | omega | (simp -implicitDefEqProofs only [szs, ne_eq] <;> omega) | fail)) only [go_sem, Nat.reduceEqDiff, ↓reduceIte, t4]
      · simp -implicitDefEqProofs (disch := (first | omega | (simp -implicitDefEqProofs only [szs, ne_eq] <;> omega) | fail)) only [go_sem, Nat.reduceEqDiff, ↓reduceIte, t5]
      · simp -implicitDefEqProofs (disch := (first | omega | (simp -implicitDefEqProofs only [szs, ne_eq] <;> omega) | fail)) only [go_sem, Nat.reduceEqDiff, ↓reduceIte, t14]
end Go.Proofs.Ytmkdbninmimndaa
