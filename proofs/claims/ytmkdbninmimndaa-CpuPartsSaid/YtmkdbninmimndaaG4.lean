/- CpuParts: the walk. -/
import Derived.Test.YtmkdbninmimndaaG3
import Derived.Test.YtmkdbninmimndaaF5
set_option linter.unusedVariables false
set_option maxRecDepth 100000
namespace Go.Proofs.Ytmkdbninmimndaa
open Go Go.Vm
variable {rs : Regs} {pc : BitVec 32} {L Q : List V} {q : Nat → Int}
theorem FlatAt.fblk5 {h : Heap} {fp n0 : Nat} (hf : FlatAt h fp n0 L Q q) (pos : 0 < n0) (hb : n0 ≤ fblk h fp) : ∃ c, h.get (fblk h fp) = some (.cells c 5) := by
  obtain ⟨c, vb, vr, c1, cs, cr, c0, c1', ob, or'⟩ := hf.c
  have e : fblk h fp = sblk vb := by unfold fblk; rw [c1]; simp only [c0]; rcases ob with ⟨h0, rfl | ⟨b, c, rfl, _, hb, _⟩⟩ | ⟨b, x, c, h0, rfl, _, hb, hs, _, hg⟩ <;> rfl
  rw [e] at hb ⊢
  rcases ob with ⟨h0, rfl | ⟨b, c, rfl, _, hb', _⟩⟩ | ⟨b, x, c, h0, rfl, _, hb', hs, _, hg⟩
  · have : n0 ≤ 0 := hb
    omega
  · exact ⟨c, hb'⟩
  · exact ⟨c, hb'⟩
theorem FlatAt.abv {h h' : Heap} {fp n0 : Nat} (hf : FlatAt h fp n0 L Q q) (hfp : n0 ≤ fp) (hk : ∀ b, n0 ≤ b → b < h.n → h'.get b = h.get b) : FlatAt h' fp n0 L Q q := by
  obtain ⟨⟨c, vb, vr, c1, c2, c3, c4, c5, c6, c7⟩, h1, h2, h3, h4⟩ := hf
  exact ⟨⟨c, vb, vr, by rw [hk _ hfp (Heap.lt_of_get c1)]; exact c1, c2, c3, c4, c5, c6.abv hk, c7.abv hk⟩, h1, h2, h3, h4⟩
theorem run12_z {h : Heap} {fp n0 : Nat} (hf : FlatAt h fp n0 L Q q) (hn0 : n0 ≤ h.n) (pos : 0 < n0) {k : Nat} (hk : k ≤ 65536) :
    SF (Try.prog : MP) 12 [.agg (regs17 rs pc), .iface 32 (.ptr (some (fp, 0))), .int .i64 (k : Int)] h (fun _ => True) (fun b => n0 ≤ b) fun v h' => v = resT (runO q k 0 rs pc L) 0 ∧ FlatAt h' fp n0 (runO q k 0 rs pc L).L Q q ∧ h.n ≤ h'.n ∧ (∀ b, b < h.n → b ≠ fblk h fp ∨ b < n0 → h'.get b = h.get b) ∧ (∀ b c e, e ≠ 5 → h.get b = some (.cells c e) → h'.get b = some (.cells c e)) ∧ h'.get fp = h.get fp := by
  refine SF.mono (((run12_ok (rs := rs) (pc := pc) hf hn0 hk).kept).foot (fun _ h => h) (fun b h => h.2)) ?_
  rintro v h' ⟨⟨rfl, hf', hfp⟩, vf⟩
  refine ⟨rfl, hf', vf.n, fun b hb hc => vf.get b hb fun hq => ?_, fun b c e he hb => ?_, hfp⟩
  · rcases hc with hc | hc
    · exact hc hq.1
    · have := hq.2; omega
  · rw [vf.get b (Heap.lt_of_get hb) fun hq => ?_]; exact hb
    obtain ⟨c', hc'⟩ := hf.fblk5 pos (by rw [← hq.1]; exact hq.2)
    rw [← hq.1, hb] at hc'
    simp at hc'
    exact he hc'.2
abbrev Goal6 (H g : Heap) (tr : Tr V) (c : LC) : Prop := GO (Try.prog : MP) (fun _ => True) (fun b => H.n ≤ b ∨ WH H b) none (Vm.Fin (Try.prog : MP) (fun _ => True) (fun b => H.n ≤ b ∨ WH H b) [ResultVar.tmp 4] fun r x => r = V.bool true) [.code c] ⟨⟨183, tr⟩, []⟩ g
theorem parts_d {H g : Heap} {tr : Tr V} : Goal6 H g tr ir6_r11 := by
  unfold Goal6
  simp -implicitDefEqProofs (disch := (first | omega | fail)) only [go_sem, seval, ir6_r11_eq, ir6_s11]
  refine GCall.of (known_ok _ _ _) ?_
  rintro r g3 ⟨rfl, rfl⟩
  simp -implicitDefEqProofs (disch := (first | omega | fail)) only [go_sem, seval, ↓reduceIte, ir6_r12, ir6_s12]
set_option maxHeartbeats 8000000 in
theorem parts_c {H g : Heap} {fp n0 k9 k10 : Nat} {R : Res} (hfl : FlatAt g fp n0 R.L Q q) (hn0 : H.n < n0 ∧ n0 ≤ g.n) (hag : R.kind ≠ 1 → runO q 1 0 R.rs R.pc R.L = { R with used := 0 }) (x9 : g.get k9 = some (.cells (stV R) 28)) (x10 : g.get k10 = some (.cells (spV R) 38)) (w10 : H.n ≤ k10)
    {tr : Tr V} (t5 : tr.get 5 = some (.ptr (some (fp, 0)))) (t9 : tr.get 9 = some (.ptr (some (k9, 0)))) (t10 : tr.get 10 = some (.ptr (some (k10, 0)))) : Goal6 H g tr ir6_r10 := by
  unfold Goal6
  have l9 := Heap.lt_of_get x9
  have l10 := Heap.lt_of_get x10
  by_cases h1 : R.kind = 1
  · simp -implicitDefEqProofs (disch := (first | omega | (simp -implicitDefEqProofs only [szs, ne_eq] <;> omega) | fail)) only [go_sem, seval, ↓reduceIte, ir6_r10_eq, ir6_s10, t10, x10, h1]
    exact parts_d
  · have hag := hag h1
    simp -implicitDefEqProofs (disch := (first | omega | (simp -implicitDefEqProofs only [szs, ne_eq] <;> omega) | fail)) only [go_sem, seval, ↓reduceIte, ir6_r10_eq, ir6_s10, t5, t9, t10, x9, x10, ↓mkI]
    have hz := run12_z (rs := R.rs) (pc := R.pc) hfl hn0.2 (by omega) (show 1 ≤ 65536 by omega)
    rw [hag] at hz
    refine GCall.of (hz.foot (fun _ h => h) (fun b h => .inl (Nat.le_trans (by omega) h))) ?_
    rintro r g1 ⟨rfl, hf1, hn1, k1, ke, hfp⟩
    have x9' := ke _ _ _ (by decide) x9
    have x10' := ke _ _ _ (by decide) x10
    have ne : k9 ≠ k10 := fun e => by rw [e, x10] at x9; simp at x9
    have w10' : H.n ≤ k10 ∨ WH H k10 := .inl w10
    have l9' := Heap.lt_of_get x9'
    have l10' := Heap.lt_of_get x10'
    have e00 : ((0 : Nat) : Int) = 0 := rfl
    simp -implicitDefEqProofs (disch := (first | omega | (simp -implicitDefEqProofs only [szs, ne_eq] <;> omega) | fail)) only [go_sem, seval, ↓reduceIte, undefV, t9, t10, x9', x10', e00]
    exact ⟨.inl (by omega), .inl (by omega), w10', parts_d⟩
set_option maxHeartbeats 8000000 in
theorem parts_b {H g : Heap} {fp fc n0 m0 k9 k10 : Nat} {R : Res} (hfl : FlatAt g fp n0 R.L Q q) (hfc : FlatAt g fc m0 R.L Q q) (hn0 : H.n < n0 ∧ n0 ≤ g.n) (hag : R.kind ≠ 1 → runO q 1 0 R.rs R.pc R.L = { R with used := 0 }) (x9 : g.get k9 = some (.cells (stV R) 28)) (x10 : g.get k10 = some (.cells (spV R) 38)) (w10 : H.n ≤ k10)
    {tr : Tr V} (t5 : tr.get 5 = some (.ptr (some (fp, 0)))) (t8 : tr.get 8 = some (.ptr (some (fc, 0)))) (t9 : tr.get 9 = some (.ptr (some (k9, 0)))) (t10 : tr.get 10 = some (.ptr (some (k10, 0)))) : Goal6 H g tr ir6_r9 := by
  unfold Goal6
  have hbyt := bytesL hfl.byt
  simp -implicitDefEqProofs (disch := (first | omega | fail)) only [go_sem, seval, ↓reduceIte, ir6_r9_eq, ir6_s9, t5]
  refine GCallD.of (R' := fun _ => True) (W' := fun _ => False) (((bytes_ok (R := fun _ => True) (W := fun _ => False) hfl (fun b => trivial)).kept).foot (fun _ h => h) (fun _ h => h)) ?_
  rintro v1 g1 ⟨⟨o1, k1⟩, vf1⟩
  have n1 := vf1.n
  obtain ⟨rs1, hr1, hc1'⟩ := conv_lvB o1.lv hbyt
  have hc1 := hc1' g1 fun _ _ => rfl
  simp -implicitDefEqProofs (disch := (first | omega | fail)) only [go_sem, seval, ↓reduceIte, t8, ↓cvSD, hc1]
  refine GCallD.of (R' := fun _ => True) (W' := fun _ => False) (((bytes_ok (R := fun _ => True) (W := fun _ => False) (hfc.old k1) (fun b => trivial)).kept).foot (fun _ h => h) (fun _ h => h)) ?_
  rintro v2 g2 ⟨⟨o2, k2⟩, vf2⟩
  have n2 := vf2.n
  obtain ⟨rs2, hc2⟩ := conv_lv o2.lv hbyt
  simp -implicitDefEqProofs (disch := (first | omega | fail)) only [go_sem, seval, ↓reduceIte, ↓cvSD, hc2, sb_neq]
  have k12 : ∀ b, b < g.n → g2.get b = g.get b := fun b hb => by rw [k2 b (by omega), k1 b hb]
  refine ⟨⟨⟨fun b _ hq => by simp at hq, fun b hq => by simp at hq⟩, fun b hq => ?_, fun b hq => hq.2.elim⟩, fun b _ hq => hq.elim, ?_⟩
  · rcases hq with hq | hq
    · simp at hq
    · omega
  exact parts_c (hfl.old k12) ⟨by omega, by omega⟩ hag (by rw [k12 _ (Heap.lt_of_get x9)]; exact x9) (by rw [k12 _ (Heap.lt_of_get x10)]; exact x10) w10 (by simp -implicitDefEqProofs (disch := (first | omega | fail)) only [go_sem, seval, ↓reduceIte, t5]) (by simp -implicitDefEqProofs (disch := (first | omega | fail)) only [go_sem, seval, ↓reduceIte, t9]) (by simp -implicitDefEqProofs (disch := (first | omega | fail)) only [go_sem, seval, ↓reduceIte, t10])
set_option maxHeartbeats 8000000 in
theorem parts_a {H g : Heap} {fp fc kb n0 m0 k9 k10 k12 k13 n first : Nat} {R P : Res} {cb : Blk} (hfl : FlatAt g fp n0 R.L Q q) (hB : FB g fp m0) (hfc : FlatAt g fc m0 P.L Q q) (hfcm : m0 ≤ fc) (hn0 : H.n < n0 ∧ n0 ≤ m0 ∧ m0 ≤ g.n) (hag : R.kind ≠ 1 → runO q 1 0 R.rs R.pc R.L = { R with used := 0 })
    (hP : P.kind ≠ 1 → R = P) (hR1 : P.kind = 1 → ∃ u, runO q (n - first) 0 P.rs P.pc P.L = { R with used := u } ∧ R.used = first + u) (hu : R.used ≤ n) (hn : n ≤ 2000) (hfi : first ≤ n)
    (x9 : g.get k9 = some (.cells (stV R) 28)) (x10 : g.get k10 = some (.cells (spV R) 38)) (x12 : g.get k12 = some (.cells (stV P) 28)) (x13 : g.get k13 = some (.cells (spV P) 38)) (w10 : H.n ≤ k10) (xb : g.get kb = some (.cells cb 30)) (hcb : cb.size = 21 ∧ cb.get 20 = .int .i64 (n : Int))
    {tr : Tr V} (t1 : tr.get 1 = some (.int .i64 (first : Int))) (t2 : tr.get 2 = some (.ptr (some (kb, 0)))) (t5 : tr.get 5 = some (.ptr (some (fp, 0)))) (t8 : tr.get 8 = some (.ptr (some (fc, 0)))) (t9 : tr.get 9 = some (.ptr (some (k9, 0)))) (t10 : tr.get 10 = some (.ptr (some (k10, 0)))) (t12 : tr.get 12 = some (.ptr (some (k12, 0)))) (t13 : tr.get 13 = some (.ptr (some (k13, 0)))) : Goal6 H g tr ir6_r8 := by
  unfold Goal6
  obtain ⟨sb, b20⟩ := hcb
  have l9 := Heap.lt_of_get x9
  have l10 := Heap.lt_of_get x10
  by_cases h1 : P.kind = 1
  · obtain ⟨u, hS, hRu⟩ := hR1 h1
    have hsub : (n : Int) - (first : Int) = ((n - first : Nat) : Int) := by omega
    simp -implicitDefEqProofs (disch := (first | omega | (simp -implicitDefEqProofs only [szs, ne_eq] <;> omega) | fail)) only [go_sem, seval, ↓reduceIte, ir6_r8_eq, ir6_s8, t1, t2, t8, t12, t13, x12, x13, h1, xb, sb, b20, ↓mkI, hsub]
    have hz := run12_z (rs := P.rs) (pc := P.pc) hfc hn0.2.2 (by omega) (show n - first ≤ 65536 by omega)
    rw [hS] at hz
    refine GCall.of (hz.foot (fun _ h => h) (fun b h => .inl (Nat.le_trans (by omega) h))) ?_
    rintro r g1 ⟨rfl, hf1, hn1, k1, ke, hfp⟩
    have x9' := ke _ _ _ (by decide) x9
    have x10' := ke _ _ _ (by decide) x10
    have l9' := Heap.lt_of_get x9'
    have l10' := Heap.lt_of_get x10'
    simp -implicitDefEqProofs (disch := (first | omega | (simp -implicitDefEqProofs only [szs, ne_eq] <;> omega) | fail)) only [go_sem, seval, ↓reduceIte, undefV, t1, t9, t10, x9', x10']
    refine ⟨.inl (by omega), .inl (by omega), parts_b (k9 := k9) (k10 := k10) (hfl.below hB fun b hb => ?_) (hf1.old fun b hb => ?_) ⟨by omega, by simp only [Heap.n_set, Heap.n_push]; omega⟩ hag ?_ ?_ w10 (by simp -implicitDefEqProofs (disch := (first | omega | (simp -implicitDefEqProofs only [szs, ne_eq] <;> omega) | fail)) only [go_sem, seval, ↓reduceIte, t5]) (by simp -implicitDefEqProofs (disch := (first | omega | (simp -implicitDefEqProofs only [szs, ne_eq] <;> omega) | fail)) only [go_sem, seval, ↓reduceIte, t8]) (by simp -implicitDefEqProofs (disch := (first | omega | (simp -implicitDefEqProofs only [szs, ne_eq] <;> omega) | fail)) only [go_sem, seval, ↓reduceIte, t9]) (by simp -implicitDefEqProofs (disch := (first | omega | (simp -implicitDefEqProofs only [szs, ne_eq] <;> omega) | fail)) only [go_sem, seval, ↓reduceIte, t10])⟩
    · have := k1 b (by omega) (.inr hb)
      simp -implicitDefEqProofs (disch := (first | omega | (simp -implicitDefEqProofs only [szs, ne_eq] <;> omega) | fail)) only [go_sem, seval, this]
    · simp -implicitDefEqProofs (disch := (first | omega | (simp -implicitDefEqProofs only [szs, ne_eq] <;> omega) | fail)) only [go_sem, seval]
    · simp -implicitDefEqProofs (disch := (first | omega | (simp -implicitDefEqProofs only [szs, ne_eq] <;> omega) | fail)) only [go_sem, seval, x9']
    · simp -implicitDefEqProofs (disch := (first | omega | (simp -implicitDefEqProofs only [szs, ne_eq] <;> omega) | fail)) only [go_sem, seval, x10']
  · obtain rfl := hP h1
    simp -implicitDefEqProofs (disch := (first | omega | (simp -implicitDefEqProofs only [szs, ne_eq] <;> omega) | fail)) only [go_sem, seval, ↓reduceIte, ir6_r8_eq, ir6_s8, t9, t10, t12, t13, x9, x10, x12, x13]
    exact parts_b hfl hfc ⟨by omega, by omega⟩ hag x9 x10 w10 (by simp -implicitDefEqProofs (disch := (first | omega | (simp -implicitDefEqProofs only [szs, ne_eq] <;> omega) | fail)) only [go_sem, seval, ↓reduceIte, t5]) (by simp -implicitDefEqProofs (disch := (first | omega | (simp -implicitDefEqProofs only [szs, ne_eq] <;> omega) | fail)) only [go_sem, seval, ↓reduceIte, t8]) (by simp -implicitDefEqProofs (disch := (first | omega | (simp -implicitDefEqProofs only [szs, ne_eq] <;> omega) | fail)) only [go_sem, seval, ↓reduceIte, t9]) (by simp -implicitDefEqProofs (disch := (first | omega | (simp -implicitDefEqProofs only [szs, ne_eq] <;> omega) | fail)) only [go_sem, seval, ↓reduceIte, t10])
set_option maxHeartbeats 8000000 in
theorem parts_law {H : Heap} {vC vB vR : V} {m : Nat} {lB : List V} (hC : CodeV H vC m) (hB : LV H vB lB) (bB : BytL lB) (hR : LV H vR Q) (hQ : Q.length ≤ 9223372036854775807) (hint : ∀ i, i < Q.length → Q[i]? = some (.int .i64 (q i))) (n first : Int) :
    SF (Try.prog : MP) 6 [startV vC vB vR rs pc n, .int .i64 first] H (fun _ => True) (WH H) fun r _ => r = .bool true := by
  have o1 := hC.one; have o2 := hB.one; have o3 := hR.one
  refine SF.go hm Try.func6 ir6_eq ?_
  rw [ir6_chain]
  simp -implicitDefEqProofs (disch := (first | omega | (simp -implicitDefEqProofs only [szs, ne_eq] <;> omega) | fail)) only [go_sem, seval, ↓reduceIte, reduceCtorEq, ir6_r0_eq, ir6_s0, ir6_r1_eq, ir6_s1, undefV]
  refine GCall.of (((few_ok (fun g => hC.lenV g) (fun g => hB.len23 g) (fun g => hR.len24 g) o1 o2 o3 n).kept).foot (fun _ h => h.elim) (fun _ h => h.elim)) ?_
  rintro r g1 ⟨rfl, vf1⟩
  have hn1 := vf1.n
  simp only [Heap.n_push] at hn1
  have k1 : ∀ b, b < H.n → g1.get b = H.get b := fun b hb => by
    rw [vf1.get b (by simp only [Heap.n_push]; omega) (by simp), w_push_ne (by omega)]
  have b1 := vf1.get H.n (by simp only [Heap.n_push]; omega) (by simp)
  rw [w_push_eq rfl] at b1
  cases hf : fewB m lB.length Q.length n with
  | false =>
    simp -implicitDefEqProofs (disch := (first | omega | (simp -implicitDefEqProofs only [szs, ne_eq] <;> omega) | fail)) only [go_sem, seval, ↓reduceIte, reduceCtorEq, undefV]
    refine GCall.of (known_ok _ _ _) ?_
    rintro r g3 ⟨rfl, rfl⟩
    simp -implicitDefEqProofs (disch := (first | omega | (simp -implicitDefEqProofs only [szs, ne_eq] <;> omega) | fail)) only [go_sem, seval, ↓reduceIte, reduceCtorEq]
  | true =>
    obtain ⟨l1, l2, l3, l4⟩ := fewB_t hf
    by_cases hn0 : n < 0
    · simp -implicitDefEqProofs (disch := (first | omega | (simp -implicitDefEqProofs only [szs, ne_eq] <;> omega) | fail)) only [go_sem, seval, ↓reduceIte, reduceCtorEq, undefV, b1, hn0]
      refine GCall.of (known_ok _ _ _) ?_
      rintro r g3 ⟨rfl, rfl⟩
      simp -implicitDefEqProofs (disch := (first | omega | (simp -implicitDefEqProofs only [szs, ne_eq] <;> omega) | fail)) only [go_sem, seval, ↓reduceIte, reduceCtorEq]
    by_cases hf0 : first < 0
    · simp -implicitDefEqProofs (disch := (first | omega | (simp -implicitDefEqProofs only [szs, ne_eq] <;> omega) | fail)) only [go_sem, seval, ↓reduceIte, reduceCtorEq, undefV, b1, hn0, hf0]
      refine GCall.of (known_ok _ _ _) ?_
      rintro r g3 ⟨rfl, rfl⟩
      simp -implicitDefEqProofs (disch := (first | omega | (simp -implicitDefEqProofs only [szs, ne_eq] <;> omega) | fail)) only [go_sem, seval, ↓reduceIte, reduceCtorEq]
    by_cases hfn : n < first
    · simp -implicitDefEqProofs (disch := (first | omega | (simp -implicitDefEqProofs only [szs, ne_eq] <;> omega) | fail)) only [go_sem, seval, ↓reduceIte, reduceCtorEq, undefV, b1, hn0, hf0, hfn]
      refine GCall.of (known_ok _ _ _) ?_
      rintro r g3 ⟨rfl, rfl⟩
      simp -implicitDefEqProofs (disch := (first | omega | (simp -implicitDefEqProofs only [szs, ne_eq] <;> omega) | fail)) only [go_sem, seval, ↓reduceIte, reduceCtorEq]
    obtain ⟨n, rfl⟩ := Int.eq_ofNat_of_zero_le (show 0 ≤ n by omega)
    obtain ⟨first, rfl⟩ := Int.eq_ofNat_of_zero_le (show 0 ≤ first by omega)
    simp -implicitDefEqProofs (disch := (first | omega | (simp -implicitDefEqProofs only [szs, ne_eq] <;> omega) | fail)) only [go_sem, seval, ↓reduceIte, reduceCtorEq, undefV, b1, hn0, hf0, hfn, ir6_r2_eq, ir6_s2]
    refine GCall.of (((mem11_ok (hC.old k1) l1 (hB.old k1) bB l2 (hR.old k1) hQ hint (n : Int)).kept).foot (fun _ _ => trivial) (fun _ h => h.elim)) ?_
    rintro r g2 ⟨hres, vf2⟩
    have hn2 := vf2.n
    have k2 : ∀ b, b < H.n → g2.get b = H.get b := fun b hb => by rw [vf2.get b (by omega) id, k1 b hb]
    have b2 := (vf2.get H.n (by omega) id).trans b1
    rcases hres with ⟨rfl, _⟩ | ⟨fp, rm, vM, L, n0, n1, rfl, hn0', hn01, hfl, hfb, hln1, hrm, hrM⟩
    · simp -implicitDefEqProofs (disch := (first | omega | (simp -implicitDefEqProofs only [szs, ne_eq] <;> omega) | fail)) only [go_sem, seval, ↓reduceIte, reduceCtorEq, ir6_r3_eq, ir6_s3]
      refine GCall.of (known_ok _ _ _) ?_
      rintro r g3 ⟨rfl, rfl⟩
      simp -implicitDefEqProofs (disch := (first | omega | (simp -implicitDefEqProofs only [szs, ne_eq] <;> omega) | fail)) only [go_sem, seval, ↓reduceIte, reduceCtorEq]
    · have hrg : rm < g2.n := by obtain ⟨c, c1, _⟩ := hrM.1.c; exact Heap.lt_of_get c1
      have bL : BytL L := hfl.byt
      simp -implicitDefEqProofs (disch := (first | omega | (simp -implicitDefEqProofs only [szs, ne_eq] <;> omega) | fail)) only [go_sem, seval, ↓reduceIte, reduceCtorEq, ir6_r3_eq, ir6_s3, ir6_r4_eq, ir6_s4]
      refine GCall.of (((fclone_ok (R := fun _ => True) (W := fun _ => False) hfl (fun _ => trivial)).kept).foot (fun _ h => h) (fun _ h => h.elim)) ?_
      rintro r g3 ⟨⟨fc, rfl, hfc, hfl2, k3⟩, vf3⟩
      have hn3 := vf3.n
      have b3 := (k3 H.n (by omega)).trans b2
      have hfl3 := hfl.old k3
      have hfb3 := hfb.same (k3 fp (by have := hfb.1; omega))
      simp -implicitDefEqProofs (disch := (first | omega | (simp -implicitDefEqProofs only [szs, ne_eq] <;> omega) | fail)) only [go_sem, seval, ↓reduceIte, reduceCtorEq, ir6_r5_eq, ir6_s5, undefV, b3, ↓mkI]
      refine GCall.of ((run12_z (rs := rs) (pc := pc) hfl3 (by omega) (by omega) (show n ≤ 65536 by omega)).foot (fun _ h => h) (fun b h => .inl (Nat.le_trans (by omega) h))) ?_
      rintro r g4 ⟨rfl, hfl4, hn4, k4, ke4, hfp4⟩
      have b4 := ke4 _ _ _ (by decide) b3
      have hfk := hfb3.fblk
      have hfl2' := hfl2.abv hfc fun b h1 h2 => k4 b h2 (.inl (by omega))
      generalize hR0 : runO q n 0 rs pc L = R at hfl4
      simp -implicitDefEqProofs (disch := (first | omega | (simp -implicitDefEqProofs only [szs, ne_eq] <;> omega) | fail)) only [go_sem, seval, ↓reduceIte, reduceCtorEq, ir6_r6_eq, ir6_s6, undefV, b4, ↓mkI]
      refine ⟨.inl (by omega), .inl (by omega), ?_⟩
      refine GCall.of ((run12_z (rs := rs) (pc := pc) (n0 := g2.n) (hfl2'.old fun b hb => ?_) (by simp only [Heap.n_set, Heap.n_push]; omega) (by omega) (show first ≤ 65536 by omega)).foot (fun _ h => h) (fun b h => .inl (Nat.le_trans (by omega) h))) ?_
      · simp -implicitDefEqProofs (disch := (first | omega | (simp -implicitDefEqProofs only [szs, ne_eq] <;> omega) | fail)) only [go_sem, seval]
      rintro r g5 ⟨rfl, hfc5, hn5, k5, ke5, hfp5⟩
      simp only [Heap.n_set, Heap.n_push] at hn5
      have x9 := ke5 g4.n (stV R) 28 (by decide) (by simp -implicitDefEqProofs (disch := (first | omega | (simp -implicitDefEqProofs only [szs, ne_eq] <;> omega) | fail)) only [go_sem, seval])
      have x10 := ke5 (g4.n + 1) (spV R) 38 (by decide) (by simp -implicitDefEqProofs (disch := (first | omega | (simp -implicitDefEqProofs only [szs, ne_eq] <;> omega) | fail)) only [go_sem, seval])
      have b5 := ke5 H.n _ 30 (by decide) (by simp -implicitDefEqProofs (disch := (first | omega | (simp -implicitDefEqProofs only [szs, ne_eq] <;> omega) | fail)) only [go_sem, seval, b4]; rfl)
      have hsp := runO_split (q := q) first (n - first) 0 rs pc L
      rw [show first + (n - first) = n by omega, hR0] at hsp
      have hag : R.kind ≠ 1 → runO q 1 0 R.rs R.pc R.L = { R with used := 0 } := by rw [← hR0]; exact runO_again n 0 rs pc L
      have hu : R.used ≤ n := by have := runO_le (q := q) n 0 rs pc L; rw [hR0] at this; omega
      have hPu := runO_le (q := q) first 0 rs pc L
      have hfl5 : FlatAt g5 fp n0 R.L Q q := hfl4.below (hfb3.same hfp4) fun b hb => by
        rw [k5 b (by simp only [Heap.n_set, Heap.n_push]; omega) (.inr (by omega))]; simp -implicitDefEqProofs (disch := (first | omega | (simp -implicitDefEqProofs only [szs, ne_eq] <;> omega) | fail)) only [go_sem, seval]
      have hfb5 : FB g5 fp n1 := hfb3.same (by rw [k5 fp (by have := hfb3.1; simp only [Heap.n_set, Heap.n_push]; omega) (.inr (by have := hfb3.1; omega)), ← hfp4]; have := hfb3.1; simp -implicitDefEqProofs (disch := (first | omega | (simp -implicitDefEqProofs only [szs, ne_eq] <;> omega) | fail)) only [go_sem, seval])
      generalize hP0 : runO q first 0 rs pc L = P at *
      have hP : P.kind ≠ 1 → R = P := fun h => by rw [hsp, if_neg h]
      have hR1 : P.kind = 1 → ∃ u, runO q (n - first) 0 P.rs P.pc P.L = { R with used := u } ∧ R.used = first + u := fun h => by
        rw [if_pos h, Nat.zero_add] at hsp
        have := runO_used (q := q) (n - first) first 0 P.rs P.pc P.L
        rw [Nat.add_zero, ← hsp] at this
        exact ⟨(runO q (n - first) 0 P.rs P.pc P.L).used, by rw [this], by rw [this]⟩
      simp -implicitDefEqProofs (disch := (first | omega | (simp -implicitDefEqProofs only [szs, ne_eq] <;> omega) | fail)) only [go_sem, seval, ↓reduceIte, reduceCtorEq, ir6_r7_eq, ir6_s7, undefV, x10, b5]
      have hfb6 : FB g5 fp g2.n := ⟨by have := hfb5.1; omega, fun c e h => by have := hfb5.2 c e h; omega⟩
      refine ⟨.inl (by omega), .inl (by omega), parts_a (kb := H.n) (k9 := g4.n) (k10 := g4.n + 1) (k12 := g5.n) (k13 := g5.n + 1) (n := n) (first := first) (R := R) (P := P) (fp := fp) (fc := fc) (n0 := n0) (m0 := g2.n) (hfl5.old fun b hb => ?_) (hfb6.same ?_) (hfc5.old fun b hb => ?_) hfc ⟨by omega, by omega, by simp only [Heap.n_set, Heap.n_push]; omega⟩ hag hP hR1 hu (by omega) (by omega) ?_ ?_ ?_ ?_ (by omega) (cb := Blk.of [vC, vB, vR, U (rs 0), U (rs 1), U (rs 2), U (rs 3), U (rs 4), U (rs 5), U (rs 6), U (rs 7), U (rs 8), U (rs 9), U (rs 10), U (rs 11), U (rs 12), U (rs 13), U (rs 14), U (rs 15), U pc, .int .i64 (n : Int)]) ?_ ⟨rfl, rfl⟩ (by simp -implicitDefEqProofs (disch := (first | omega | (simp -implicitDefEqProofs only [szs, ne_eq] <;> omega) | fail)) only [go_sem, seval, ↓reduceIte, reduceCtorEq]) (by simp -implicitDefEqProofs (disch := (first | omega | (simp -implicitDefEqProofs only [szs, ne_eq] <;> omega) | fail)) only [go_sem, seval, ↓reduceIte, reduceCtorEq]) (by simp -implicitDefEqProofs (disch := (first | omega | (simp -implicitDefEqProofs only [szs, ne_eq] <;> omega) | fail)) only [go_sem, seval, ↓reduceIte, reduceCtorEq]) (by simp -implicitDefEqProofs (disch := (first | omega | (simp -implicitDefEqProofs only [szs, ne_eq] <;> omega) | fail)) only [go_sem, seval, ↓reduceIte, reduceCtorEq]) (by simp -implicitDefEqProofs (disch := (first | omega | (simp -implicitDefEqProofs only [szs, ne_eq] <;> omega) | fail)) only [go_sem, seval, ↓reduceIte, reduceCtorEq]) (by simp -implicitDefEqProofs (disch := (first | omega | (simp -implicitDefEqProofs only [szs, ne_eq] <;> omega) | fail)) only [go_sem, seval, ↓reduceIte, reduceCtorEq]) (by simp -implicitDefEqProofs (disch := (first | omega | (simp -implicitDefEqProofs only [szs, ne_eq] <;> omega) | fail)) only [go_sem, seval, ↓reduceIte, reduceCtorEq]) (by simp -implicitDefEqProofs (disch := (first | omega | (simp -implicitDefEqProofs only [szs, ne_eq] <;> omega) | fail)) only [go_sem, seval, ↓reduceIte, reduceCtorEq])⟩
      · simp -implicitDefEqProofs (disch := (first | omega | (simp -implicitDefEqProofs only [szs, ne_eq] <;> omega) | fail)) only [go_sem, seval]
      · have := hfb6.1; simp -implicitDefEqProofs (disch := (first | omega | (simp -implicitDefEqProofs only [szs, ne_eq] <;> omega) | fail)) only [go_sem, seval]
      · simp -implicitDefEqProofs (disch := (first | omega | (simp -implicitDefEqProofs only [szs, ne_eq] <;> omega) | fail)) only [go_sem, seval]
      · simp -implicitDefEqProofs (disch := (first | omega | (simp -implicitDefEqProofs only [szs, ne_eq] <;> omega) | fail)) only [go_sem, seval, x9]
      · simp -implicitDefEqProofs (disch := (first | omega | (simp -implicitDefEqProofs only [szs, ne_eq] <;> omega) | fail)) only [go_sem, seval, x10]
      · simp -implicitDefEqProofs (disch := (first | omega | (simp -implicitDefEqProofs only [szs, ne_eq] <;> omega) | fail)) only [go_sem, seval]
      · simp -implicitDefEqProofs (disch := (first | omega | (simp -implicitDefEqProofs only [szs, ne_eq] <;> omega) | fail)) only [go_sem, seval]
      · simp -implicitDefEqProofs (disch := (first | omega | (simp -implicitDefEqProofs only [szs, ne_eq] <;> omega) | fail)) only [go_sem, seval, b5]
end Go.Proofs.Ytmkdbninmimndaa
