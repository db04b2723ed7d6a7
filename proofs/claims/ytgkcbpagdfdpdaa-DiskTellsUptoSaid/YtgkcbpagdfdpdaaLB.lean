/- DiskBytes: the walk. -/
import Derived.Test.YtgkcbpagdfdpdaaR4
import Derived.Test.YtgkcbpagdfdpdaaKn
import Derived.Test.YtgkcbpagdfdpdaaCh4
import Derived.Test.YtgkcbpagdfdpdaaV4
set_option linter.unusedVariables false
set_option linter.unusedSimpArgs false
set_option linter.unusedSimpArgs false
set_option maxRecDepth 100000
set_option linter.unusedVariables false
set_option linter.unusedSimpArgs false
namespace Go.Proofs.Ytgkcbpagdfdpdaa
open Go Go.Vm
attribute [-go_sem] sz_67
theorem knownB_ok (h : Heap) (R W : Set') : SF Try.prog 8 [] h R W fun v h' => v = .bool true ∧ h' = h := SF.closedH hm noHook_ok known_run h R W
def WH (H : Heap) : Set' := fun b => H.n ≤ b
theorem slice_own {n0 : Nat} {h : Heap} {v : V} {l z : List V} (ho : Own n0 h v (l ++ z) 5) : ∃ v', sliceV Try.prog 33 v none (some (l.length : Int)) none = some v' ∧ LR h (fun b => n0 ≤ b) v' l ∧ capOk v' := by
  rcases ho with ⟨h0, rfl | ⟨b, c, rfl, h1, hb, _⟩⟩ | ⟨b, x, c, h0, rfl, h1, hb, hs, _, hg⟩
  · obtain rfl : l = [] := by simp at h0; exact h0.1
    exact ⟨.slice none 0 0 true, by simp only [sliceV, Try.underlying33, sz_5]; rfl, .inl ⟨rfl, .inl rfl⟩, Nat.le_refl _⟩
  · obtain rfl : l = [] := by simp at h0; exact h0.1
    exact ⟨.slice (some (b, 0)) 0 0 true, by simp only [sliceV, Try.underlying33, sz_5]; rfl, .inr ⟨b, 0, 0, true, c, 5, rfl, h1, hb, by simp, rfl⟩, Nat.le_refl _⟩
  · have hll : (l ++ z).length = l.length + z.length := by simp
    have hbv : boundsV (l ++ z).length (l ++ z).length none (some (l.length : Int)) none = some (0, l.length, (l ++ z).length) := by
      have : (l.length : Int).toNat = l.length := by omega
      simp only [boundsV, this]
      rw [if_pos (by omega)]
    have hp := List.length_pos_iff.2 h0
    have hb0 : Nat.blt 0 (l ++ z).length = true := w_blt_t (by omega)
    have hq0 : Nat.beq (l ++ z).length 0 = false := w_beq_f (by omega)
    refine ⟨.slice (some (b, 0)) l.length (l ++ z).length x, ?_, .inr ⟨b, 0, _, x, c, 5, rfl, h1, hb, by omega, ?_⟩, by show l.length ≤ (l ++ z).length; omega⟩
    · simp only [sliceV, Try.underlying33, sz_5, hbv]
      cases x with
      | true => simp only [hq0]; rfl
      | false => simp
    · refine Blk.gets_ext (fun j hj => ?_) rfl
      have := Blk.gets_get c (l ++ z).length 0 j (by omega)
      rw [hg, List.getElem?_append_left hj] at this
      rw [List.getD_eq_getElem?_getD, this]; rfl
theorem strB_size (l : List V) : (strB l).size = l.length := by
  show (l.map byteOf).length = _
  simp
theorem sb_add {l : List V} (hl : l.length ≤ 100000) : strBin .add (strB l) { data := #[119] } = some (.str (strB (l ++ [.int .u8 119]))) := by
  have hs := strB_size l
  have h1 : (ByteArray.mk #[119]).size = 1 := rfl
  show (if (((strB l).size + (ByteArray.mk #[119]).size : Nat) : Int) > IntKind.i64.max then none else some (V.str (strB l ++ ByteArray.mk #[119]))) = _
  rw [if_neg (by rw [hs, h1]; show ¬ _ > (9223372036854775807 : Int); omega)]
  congr 2
  apply ByteArray.ext
  rw [ByteArray.data_append]
  apply Array.toList_inj.1
  simp [strB, byteOf]
def Byt (l : List V) : Prop := ∀ v ∈ l, ∃ n : Int, v = .int .u8 n ∧ 0 ≤ n ∧ n ≤ 255
theorem allOne_byt : ∀ {l : List V}, Byt l → allOne l = true
  | [], _ => rfl
  | v :: l, h => by
    obtain ⟨n, rfl, _⟩ := h v (by simp)
    have := allOne_byt (l := l) fun v hv => h v (by simp [hv])
    simp only [allOne, V.one, this]
set_option maxHeartbeats 1000000 in
theorem own_loop {h : Heap} {R W : Set'} {Q' : Ex → Fr → Heap → Prop} {t : List It} {vo v4 v5 v6 : V} {n0 : Nat} {lo : List V} (ho : Own n0 h vo lo 5) (hlen : lo.length ≤ 100000) (hW : ∀ b, n0 ≤ b → W b)
    (hk : ∀ tr g, tr.get 4 = some v4 → tr.get 5 = some v5 → tr.get 6 = some v6 → g.n = h.n → (∀ b, b ≠ sblk vo → g.get b = h.get b) → resume ⟨Try.prog, true⟩ R W none Q' t (.exit 0) ⟨⟨68, tr⟩, []⟩ g)
    {tr : Tr V} (t3 : tr.get 3 = some vo) (t4 : tr.get 4 = some v4) (t5 : tr.get 5 = some v5) (t6 : tr.get 6 = some v6) (t7 : tr.get 7 = some (.int .i64 0)) : GLoop ⟨Try.prog, true⟩ R W none Q' ir4_l0 t ⟨⟨68, tr⟩, []⟩ h := by
  have hl := ho.lr.lenV Try.underlying33
  refine GLoop.inv hm (fun k f g => f.mks = [] ∧ f.tm.n = 68 ∧ f.tm.get 3 = some vo ∧ f.tm.get 4 = some v4 ∧ f.tm.get 5 = some v5 ∧ f.tm.get 6 = some v6 ∧ g.n = h.n ∧ (∀ b, b ≠ sblk vo → g.get b = h.get b) ∧ ∃ (i : Nat) (l : List V), i + k = lo.length ∧ f.tm.get 7 = some (.int .i64 i) ∧ l.length = lo.length ∧ Own n0 g vo l 5) lo.length ?_ ?_
  · exact ⟨rfl, rfl, t3, t4, t5, t6, rfl, fun _ _ => rfl, 0, lo, by omega, t7, rfl, ho⟩
  clear t3 t4 t5 t6 t7
  clear tr
  rintro k ⟨⟨n', tr⟩, mks⟩ g ⟨hmk, hn', t3, t4, t5, t6, hgn, hold, i, l, hik, t7, hll, ho2⟩
  simp only [Tm.get_mk] at hmk hn' t3 t4 t5 t6 t7
  subst hmk hn'
  by_cases hin : i < lo.length
  · obtain ⟨b, x, c, rfl, hb0, hb, hs, hr, hg, hgs⟩ := ho2.get (i := i) (by omega)
    rw [hll] at hl hs
    have hWb := hW b hb0
    have hlt := Heap.lt_of_get hb
    simp -implicitDefEqProofs (disch := (first | omega | (simp -implicitDefEqProofs only [szs, ne_eq] <;> omega) | fail)) only [go_sem, Nat.reduceAdd, Nat.reduceSub, Nat.reduceMul, Nat.reduceLT, Nat.reduceMod, Nat.reduceDiv, Nat.reduceEqDiff, Nat.reduceBEq, Nat.reduceLeDiff, ↓reduceIte, reduceCtorEq, Int.reduceAdd, Int.reduceSub, Int.reduceLT, Int.reduceLE, Int.reduceBEq, Int.reduceEq, Int.reduceToNat, ir4_l0, t3, t7, ↓hl, hll, hb, hs, hr, hWb]
    refine ⟨k - 1, by omega, t4, t5, t6, hgn, fun b' hb' => ?_, i + 1, l.set i (.int .u8 102), by omega, rfl, by rw [List.length_set]; exact hll, ?_⟩
    · have : b' ≠ b := hb'
      rw [w_set_ne hlt this]; exact hold b' hb'
    · refine .inr ⟨b, x, c.set i (.int .u8 102), fun e => ?_, by rw [List.length_set, hll], hb0, w_set_eq hlt rfl _, by rw [Blk.size_set, List.length_set, hs, hll], by rw [Blk.ro_set]; exact hr, ?_⟩
      · have := congrArg List.length e
        rw [List.length_set, List.length_nil] at this
        omega
      · rw [List.length_set, set_gets, hgs]
  · obtain rfl : i = lo.length := by omega
    simp -implicitDefEqProofs (disch := (first | omega | (simp -implicitDefEqProofs only [szs, ne_eq] <;> omega) | fail)) only [go_sem, Nat.reduceAdd, Nat.reduceSub, Nat.reduceMul, Nat.reduceLT, Nat.reduceMod, Nat.reduceDiv, Nat.reduceEqDiff, Nat.reduceBEq, Nat.reduceLeDiff, ↓reduceIte, reduceCtorEq, Int.reduceAdd, Int.reduceSub, Int.reduceLT, Int.reduceLE, Int.reduceBEq, Int.reduceEq, Int.reduceToNat, ir4_l0, t3, t7, ↓hl]
    exact hk _ _ (by simp -implicitDefEqProofs (disch := (first | omega | (simp -implicitDefEqProofs only [szs, ne_eq] <;> omega) | fail)) only [go_sem, Nat.reduceAdd, Nat.reduceSub, Nat.reduceMul, Nat.reduceLT, Nat.reduceMod, Nat.reduceDiv, Nat.reduceEqDiff, Nat.reduceBEq, Nat.reduceLeDiff, ↓reduceIte, reduceCtorEq, Int.reduceAdd, Int.reduceSub, Int.reduceLT, Int.reduceLE, Int.reduceBEq, Int.reduceEq, Int.reduceToNat, t4]) (by simp -implicitDefEqProofs (disch := (first | omega | (simp -implicitDefEqProofs only [szs, ne_eq] <;> omega) | fail)) only [go_sem, Nat.reduceAdd, Nat.reduceSub, Nat.reduceMul, Nat.reduceLT, Nat.reduceMod, Nat.reduceDiv, Nat.reduceEqDiff, Nat.reduceBEq, Nat.reduceLeDiff, ↓reduceIte, reduceCtorEq, Int.reduceAdd, Int.reduceSub, Int.reduceLT, Int.reduceLE, Int.reduceBEq, Int.reduceEq, Int.reduceToNat, t5]) (by simp -implicitDefEqProofs (disch := (first | omega | (simp -implicitDefEqProofs only [szs, ne_eq] <;> omega) | fail)) only [go_sem, Nat.reduceAdd, Nat.reduceSub, Nat.reduceMul, Nat.reduceLT, Nat.reduceMod, Nat.reduceDiv, Nat.reduceEqDiff, Nat.reduceBEq, Nat.reduceLeDiff, ↓reduceIte, reduceCtorEq, Int.reduceAdd, Int.reduceSub, Int.reduceLT, Int.reduceLE, Int.reduceBEq, Int.reduceEq, Int.reduceToNat, t6]) hgn hold
theorem byt_app {l : List V} (h : Byt l) : Byt (l ++ [.int .u8 119]) := fun v hv => by
  rcases List.mem_append.1 hv with hv | hv
  · exact h v hv
  · simp at hv; subst hv; exact ⟨119, rfl, by omega, by omega⟩
set_option maxHeartbeats 2000000 in
theorem bytes_law {H : Heap} {v : V} {l : List V} (hv : LR H (fun _ => True) v l) (hc : capOk v) (hbyt : Byt l) (hll : l.length ≤ 9223372036854775807) :
    SF ⟨Try.prog, true⟩ 4 [v] H (fun _ => True) (WH H) fun r _ => r = .bool true := by
  have hl := hv.lenV Try.underlying33
  refine SF.go hm Try.func4 ir4_eq ?_
  rw [ir4_chain]
  by_cases h2 : 20000 < l.length
  · simp -implicitDefEqProofs (disch := (first | omega | (simp -implicitDefEqProofs only [szs, ne_eq] <;> omega) | fail)) only [go_sem, Nat.reduceAdd, Nat.reduceSub, Nat.reduceMul, Nat.reduceLT, Nat.reduceMod, Nat.reduceDiv, Nat.reduceEqDiff, Nat.reduceBEq, Nat.reduceLeDiff, ↓reduceIte, reduceCtorEq, Int.reduceAdd, Int.reduceSub, Int.reduceLT, Int.reduceLE, Int.reduceBEq, Int.reduceEq, Int.reduceToNat, ir4_r0_eq, ir4_s0, ir4_r1_eq, ir4_s1, ↓hl]
    refine GCall.of (knownB_ok _ _ _).any ?_
    rintro r g3 ⟨rfl, rfl⟩
    simp -implicitDefEqProofs (disch := (first | omega | (simp -implicitDefEqProofs only [szs, ne_eq] <;> omega) | fail)) only [go_sem, Nat.reduceAdd, Nat.reduceSub, Nat.reduceMul, Nat.reduceLT, Nat.reduceMod, Nat.reduceDiv, Nat.reduceEqDiff, Nat.reduceBEq, Nat.reduceLeDiff, ↓reduceIte, reduceCtorEq, Int.reduceAdd, Int.reduceSub, Int.reduceLT, Int.reduceLE, Int.reduceBEq, Int.reduceEq, Int.reduceToNat]
  obtain ⟨hx1, rs, hx2, _⟩ := first_lr hv
  obtain ⟨v1, g1, r1, w1, hap1, o1, m1, k1, hw1, _⟩ := app_own (n0 := H.n) (h := H) (v := .slice none 0 0 true) (x := v) (l := []) (e := 5) (bytes := 1) (Own.nil _ _ _) (Nat.le_refl _) hx1 hx2 (allOne_byt hbyt) (by simp only [List.length_nil]; omega) (by simp only [List.length_nil]; omega)
  rw [List.nil_append] at o1
  obtain ⟨v2, g2, r2, w2, hap2, o2, m2, k2, hw2, _⟩ := app_own (n0 := H.n) (h := g1.push (.cells (Blk.of [.int .u8 119]) 5)) (v := v1) (x := .slice (some (g1.n, 0)) 1 1 true) (l := l) (news := [.int .u8 119]) (e := 5) (bytes := 1) (o1.old fun b hb => by simp -implicitDefEqProofs (disch := (first | omega | (simp -implicitDefEqProofs only [szs, ne_eq] <;> omega) | fail)) only [go_sem, Nat.reduceAdd, Nat.reduceSub, Nat.reduceMul, Nat.reduceLT, Nat.reduceMod, Nat.reduceDiv, Nat.reduceEqDiff, Nat.reduceBEq, Nat.reduceLeDiff, ↓reduceIte, reduceCtorEq, Int.reduceAdd, Int.reduceSub, Int.reduceLT, Int.reduceLE, Int.reduceBEq, Int.reduceEq, Int.reduceToNat]) (by simp; omega) rfl (first_one (e := 5) (by simp -implicitDefEqProofs (disch := (first | omega | (simp -implicitDefEqProofs only [szs, ne_eq] <;> omega) | fail)) only [go_sem, Nat.reduceAdd, Nat.reduceSub, Nat.reduceMul, Nat.reduceLT, Nat.reduceMod, Nat.reduceDiv, Nat.reduceEqDiff, Nat.reduceBEq, Nat.reduceLeDiff, ↓reduceIte, reduceCtorEq, Int.reduceAdd, Int.reduceSub, Int.reduceLT, Int.reduceLE, Int.reduceBEq, Int.reduceEq, Int.reduceToNat])) rfl (by simp only [List.length_cons, List.length_nil]; omega) (by simp only [List.length_cons, List.length_nil]; omega)
  have ha1 : allB (fun b => H.n ≤ b ∨ WH H b) w1 := allB_of fun b hb => .inl (hw1 b hb)
  have ha2 : allB (fun b => H.n ≤ b ∨ WH H b) w2 := allB_of fun b hb => .inl (hw2 b hb)
  have k12 : ∀ b, b < H.n → g2.get b = H.get b := fun b hb => by rw [k2 b hb, ← k1 b hb]; simp -implicitDefEqProofs (disch := (first | omega | (simp -implicitDefEqProofs only [szs, ne_eq] <;> omega) | fail)) only [go_sem, Nat.reduceAdd, Nat.reduceSub, Nat.reduceMul, Nat.reduceLT, Nat.reduceMod, Nat.reduceDiv, Nat.reduceEqDiff, Nat.reduceBEq, Nat.reduceLeDiff, ↓reduceIte, reduceCtorEq, Int.reduceAdd, Int.reduceSub, Int.reduceLT, Int.reduceLE, Int.reduceBEq, Int.reduceEq, Int.reduceToNat]
  have hgn2 : H.n ≤ g2.n := by simp at m2; omega
  obtain ⟨vs, hsl, hvs, hcs⟩ := slice_own o2
  have hv2 := hv.old k12
  have hov : sblk v2 < g2.n ∨ g2.n = 0 := by
    by_cases h0 : 0 < g2.n
    · exact .inl (o2.sblk_lt h0)
    · exact .inr (by omega)
  simp -implicitDefEqProofs (disch := (first | omega | (simp -implicitDefEqProofs only [szs, ne_eq] <;> omega) | fail)) only [go_sem, Nat.reduceAdd, Nat.reduceSub, Nat.reduceMul, Nat.reduceLT, Nat.reduceMod, Nat.reduceDiv, Nat.reduceEqDiff, Nat.reduceBEq, Nat.reduceLeDiff, ↓reduceIte, reduceCtorEq, Int.reduceAdd, Int.reduceSub, Int.reduceLT, Int.reduceLE, Int.reduceBEq, Int.reduceEq, Int.reduceToNat, ir4_r0_eq, ir4_s0, ir4_r1_eq, ir4_s1, ir4_r2_eq, ir4_s2, ↓hl, appendV_of ap_33, hap1, hap2, ha1, ha2, allB_T]
  simp -implicitDefEqProofs (disch := (first | omega | (simp -implicitDefEqProofs only [szs, ne_eq] <;> omega) | fail)) only [go_sem, Nat.reduceAdd, Nat.reduceSub, Nat.reduceMul, Nat.reduceLT, Nat.reduceMod, Nat.reduceDiv, Nat.reduceEqDiff, Nat.reduceBEq, Nat.reduceLeDiff, ↓reduceIte, reduceCtorEq, Int.reduceAdd, Int.reduceSub, Int.reduceLT, Int.reduceLE, Int.reduceBEq, Int.reduceEq, Int.reduceToNat, ir4_r3_eq, ir4_s3, ↓hl, hsl]
  by_cases hbad : l.length % 128 ≠ 0 ∨ ¬ (1 ≤ l.length / 128 ∧ l.length / 128 ≤ 4096)
  · refine GCall.of (of_nil hvs hll hbad).any ?_
    rintro w g3 ⟨rfl, rfl⟩
    simp -implicitDefEqProofs (disch := (first | omega | (simp -implicitDefEqProofs only [szs, ne_eq] <;> omega) | fail)) only [go_sem, Nat.reduceAdd, Nat.reduceSub, Nat.reduceMul, Nat.reduceLT, Nat.reduceMod, Nat.reduceDiv, Nat.reduceEqDiff, Nat.reduceBEq, Nat.reduceLeDiff, ↓reduceIte, reduceCtorEq, Int.reduceAdd, Int.reduceSub, Int.reduceLT, Int.reduceLE, Int.reduceBEq, Int.reduceEq, Int.reduceToNat, ir4_r4_eq, ir4_s4]
    refine GCall.of (rof_nil hv2 hll hbad).any ?_
    rintro w g4 ⟨rfl, rfl⟩
    obtain ⟨rsA, _, hcA'⟩ := conv_lr (o2.lr.mono (R' := fun _ => True) fun _ _ _ => trivial) (byt_app hbyt)
    have hcA := hcA' g4 (fun _ _ _ => rfl)
    obtain ⟨rsB, _, hcB'⟩ := conv_lr hv2 hbyt
    have hcB := hcB' g4 (fun _ _ _ => rfl)
    have hadd := sb_add (l := l) (by omega)
    simp -implicitDefEqProofs (disch := (first | omega | (simp -implicitDefEqProofs only [szs, ne_eq] <;> omega) | fail)) only [go_sem, Nat.reduceAdd, Nat.reduceSub, Nat.reduceMul, Nat.reduceLT, Nat.reduceMod, Nat.reduceDiv, Nat.reduceEqDiff, Nat.reduceBEq, Nat.reduceLeDiff, ↓reduceIte, reduceCtorEq, Int.reduceAdd, Int.reduceSub, Int.reduceLT, Int.reduceLE, Int.reduceBEq, Int.reduceEq, Int.reduceToNat, ir4_r5_eq, ir4_s5, undefV, ↓cv_op, hcA, hcB, hadd, sb_neq, allB_T]
    simp -implicitDefEqProofs (disch := (first | omega | (simp -implicitDefEqProofs only [szs, ne_eq] <;> omega) | fail)) only [go_sem, Nat.reduceAdd, Nat.reduceSub, Nat.reduceMul, Nat.reduceLT, Nat.reduceMod, Nat.reduceDiv, Nat.reduceEqDiff, Nat.reduceBEq, Nat.reduceLeDiff, ↓reduceIte, reduceCtorEq, Int.reduceAdd, Int.reduceSub, Int.reduceLT, Int.reduceLE, Int.reduceBEq, Int.reduceEq, Int.reduceToNat, ir4_r6_eq, ir4_s6]
    have hle : (l ++ [V.int IntKind.u8 119]).length ≤ 100000 := by simp; omega
    refine own_loop (n0 := H.n) (v4 := .ptr none) (v5 := .int .i64 2) (v6 := .ptr none) o2 hle (fun b hb => .inl hb) ?_ (by simp -implicitDefEqProofs (disch := (first | omega | (simp -implicitDefEqProofs only [szs, ne_eq] <;> omega) | fail)) only [go_sem, Nat.reduceAdd, Nat.reduceSub, Nat.reduceMul, Nat.reduceLT, Nat.reduceMod, Nat.reduceDiv, Nat.reduceEqDiff, Nat.reduceBEq, Nat.reduceLeDiff, ↓reduceIte, reduceCtorEq, Int.reduceAdd, Int.reduceSub, Int.reduceLT, Int.reduceLE, Int.reduceBEq, Int.reduceEq, Int.reduceToNat]) (by simp -implicitDefEqProofs (disch := (first | omega | (simp -implicitDefEqProofs only [szs, ne_eq] <;> omega) | fail)) only [go_sem, Nat.reduceAdd, Nat.reduceSub, Nat.reduceMul, Nat.reduceLT, Nat.reduceMod, Nat.reduceDiv, Nat.reduceEqDiff, Nat.reduceBEq, Nat.reduceLeDiff, ↓reduceIte, reduceCtorEq, Int.reduceAdd, Int.reduceSub, Int.reduceLT, Int.reduceLE, Int.reduceBEq, Int.reduceEq, Int.reduceToNat]) (by simp -implicitDefEqProofs (disch := (first | omega | (simp -implicitDefEqProofs only [szs, ne_eq] <;> omega) | fail)) only [go_sem, Nat.reduceAdd, Nat.reduceSub, Nat.reduceMul, Nat.reduceLT, Nat.reduceMod, Nat.reduceDiv, Nat.reduceEqDiff, Nat.reduceBEq, Nat.reduceLeDiff, ↓reduceIte, reduceCtorEq, Int.reduceAdd, Int.reduceSub, Int.reduceLT, Int.reduceLE, Int.reduceBEq, Int.reduceEq, Int.reduceToNat]) (by simp -implicitDefEqProofs (disch := (first | omega | (simp -implicitDefEqProofs only [szs, ne_eq] <;> omega) | fail)) only [go_sem, Nat.reduceAdd, Nat.reduceSub, Nat.reduceMul, Nat.reduceLT, Nat.reduceMod, Nat.reduceDiv, Nat.reduceEqDiff, Nat.reduceBEq, Nat.reduceLeDiff, ↓reduceIte, reduceCtorEq, Int.reduceAdd, Int.reduceSub, Int.reduceLT, Int.reduceLE, Int.reduceBEq, Int.reduceEq, Int.reduceToNat]) (by simp -implicitDefEqProofs (disch := (first | omega | (simp -implicitDefEqProofs only [szs, ne_eq] <;> omega) | fail)) only [go_sem, Nat.reduceAdd, Nat.reduceSub, Nat.reduceMul, Nat.reduceLT, Nat.reduceMod, Nat.reduceDiv, Nat.reduceEqDiff, Nat.reduceBEq, Nat.reduceLeDiff, ↓reduceIte, reduceCtorEq, Int.reduceAdd, Int.reduceSub, Int.reduceLT, Int.reduceLE, Int.reduceBEq, Int.reduceEq, Int.reduceToNat])
    intro tr g5 u4 u5 u6 n5 k5
    simp -implicitDefEqProofs (disch := (first | omega | (simp -implicitDefEqProofs only [szs, ne_eq] <;> omega) | fail)) only [go_sem, Nat.reduceAdd, Nat.reduceSub, Nat.reduceMul, Nat.reduceLT, Nat.reduceMod, Nat.reduceDiv, Nat.reduceEqDiff, Nat.reduceBEq, Nat.reduceLeDiff, ↓reduceIte, reduceCtorEq, Int.reduceAdd, Int.reduceSub, Int.reduceLT, Int.reduceLE, Int.reduceBEq, Int.reduceEq, Int.reduceToNat, ir4_r7_eq, ir4_s7, u4, u5, u6, Option.isNone_none, undefV]
    refine GCall.of (num_ok 2).any ?_
    rintro w g6 ⟨rfl, rfl⟩
    simp -implicitDefEqProofs (disch := (first | omega | (simp -implicitDefEqProofs only [szs, ne_eq] <;> omega) | fail)) only [go_sem, Nat.reduceAdd, Nat.reduceSub, Nat.reduceMul, Nat.reduceLT, Nat.reduceMod, Nat.reduceDiv, Nat.reduceEqDiff, Nat.reduceBEq, Nat.reduceLeDiff, ↓reduceIte, reduceCtorEq, Int.reduceAdd, Int.reduceSub, Int.reduceLT, Int.reduceLE, Int.reduceBEq, Int.reduceEq, Int.reduceToNat, undefV]
    refine GCall.of (knownB_ok _ _ _).any ?_
    rintro r g7 ⟨rfl, rfl⟩
    simp -implicitDefEqProofs (disch := (first | omega | (simp -implicitDefEqProofs only [szs, ne_eq] <;> omega) | fail)) only [go_sem, Nat.reduceAdd, Nat.reduceSub, Nat.reduceMul, Nat.reduceLT, Nat.reduceMod, Nat.reduceDiv, Nat.reduceEqDiff, Nat.reduceBEq, Nat.reduceLeDiff, ↓reduceIte, reduceCtorEq, Int.reduceAdd, Int.reduceSub, Int.reduceLT, Int.reduceLE, Int.reduceBEq, Int.reduceEq, Int.reduceToNat]
  · obtain ⟨hm0, hn⟩ : l.length % 128 = 0 ∧ (1 ≤ l.length / 128 ∧ l.length / 128 ≤ 4096) := by omega
    have hln : l.length = l.length / 128 * 128 := by omega
    generalize l.length / 128 = n at hn hln
    refine GCall.of (of_ok hvs hcs hbyt hln hn (fun _ => trivial)).any ?_
    rintro w g3 ⟨L, rfl, hfb, hmb, hd, k3⟩
    simp -implicitDefEqProofs (disch := (first | omega | (simp -implicitDefEqProofs only [szs, ne_eq] <;> omega) | fail)) only [go_sem, Nat.reduceAdd, Nat.reduceSub, Nat.reduceMul, Nat.reduceLT, Nat.reduceMod, Nat.reduceDiv, Nat.reduceEqDiff, Nat.reduceBEq, Nat.reduceLeDiff, ↓reduceIte, reduceCtorEq, Int.reduceAdd, Int.reduceSub, Int.reduceLT, Int.reduceLE, Int.reduceBEq, Int.reduceEq, Int.reduceToNat, ir4_r4_eq, ir4_s4]
    refine GCall.of (rof_ok (hv2.old k3) hc hbyt hln hn (fun _ => trivial)).any ?_
    rintro w g4 ⟨rfl, ⟨sb, hf⟩, k4⟩
    have n3 : g2.n + 3 ≤ g3.n := by have := Heap.lt_of_get (hd.d.choose_spec.1); omega
    have o4 := (o2.old k3).old k4
    have hv4 := (hv2.old k3).old k4
    have hd4 := hd.old k4
    have hr4 := hf.ref hn fun s hs => fillF_sec hbyt hln (Nat.le_refl _) s
    obtain ⟨rsA, _, hcA'⟩ := conv_lr (o4.lr.mono (R' := fun _ => True) fun _ _ _ => trivial) (byt_app hbyt)
    have hcA := hcA' g4 (fun _ _ _ => rfl)
    obtain ⟨rsB, _, hcB'⟩ := conv_lr hv4 hbyt
    have hcB := hcB' g4 (fun _ _ _ => rfl)
    have hadd := sb_add (l := l) (by omega)
    simp -implicitDefEqProofs (disch := (first | omega | (simp -implicitDefEqProofs only [szs, ne_eq] <;> omega) | fail)) only [go_sem, Nat.reduceAdd, Nat.reduceSub, Nat.reduceMul, Nat.reduceLT, Nat.reduceMod, Nat.reduceDiv, Nat.reduceEqDiff, Nat.reduceBEq, Nat.reduceLeDiff, ↓reduceIte, reduceCtorEq, Int.reduceAdd, Int.reduceSub, Int.reduceLT, Int.reduceLE, Int.reduceBEq, Int.reduceEq, Int.reduceToNat, ir4_r5_eq, ir4_s5, undefV, ↓cv_op, hcA, hcB, hadd, sb_neq, allB_T]
    simp -implicitDefEqProofs (disch := (first | omega | (simp -implicitDefEqProofs only [szs, ne_eq] <;> omega) | fail)) only [go_sem, Nat.reduceAdd, Nat.reduceSub, Nat.reduceMul, Nat.reduceLT, Nat.reduceMod, Nat.reduceDiv, Nat.reduceEqDiff, Nat.reduceBEq, Nat.reduceLeDiff, ↓reduceIte, reduceCtorEq, Int.reduceAdd, Int.reduceSub, Int.reduceLT, Int.reduceLE, Int.reduceBEq, Int.reduceEq, Int.reduceToNat, ir4_r6_eq, ir4_s6]
    have hle : (l ++ [V.int IntKind.u8 119]).length ≤ 100000 := by simp; omega
    have hsb : sblk v2 < g2.n := by
      rcases hov with h | h
      · exact h
      · simp at m2; omega
    refine own_loop (n0 := H.n) (v4 := .ptr (some (g2.n + 2, 0))) (v5 := .int .i64 0) (v6 := .ptr (some (g3.n + 1, 0))) o4 hle (fun b hb => .inl hb) ?_ (by simp -implicitDefEqProofs (disch := (first | omega | (simp -implicitDefEqProofs only [szs, ne_eq] <;> omega) | fail)) only [go_sem, Nat.reduceAdd, Nat.reduceSub, Nat.reduceMul, Nat.reduceLT, Nat.reduceMod, Nat.reduceDiv, Nat.reduceEqDiff, Nat.reduceBEq, Nat.reduceLeDiff, ↓reduceIte, reduceCtorEq, Int.reduceAdd, Int.reduceSub, Int.reduceLT, Int.reduceLE, Int.reduceBEq, Int.reduceEq, Int.reduceToNat]) (by simp -implicitDefEqProofs (disch := (first | omega | (simp -implicitDefEqProofs only [szs, ne_eq] <;> omega) | fail)) only [go_sem, Nat.reduceAdd, Nat.reduceSub, Nat.reduceMul, Nat.reduceLT, Nat.reduceMod, Nat.reduceDiv, Nat.reduceEqDiff, Nat.reduceBEq, Nat.reduceLeDiff, ↓reduceIte, reduceCtorEq, Int.reduceAdd, Int.reduceSub, Int.reduceLT, Int.reduceLE, Int.reduceBEq, Int.reduceEq, Int.reduceToNat]) (by simp -implicitDefEqProofs (disch := (first | omega | (simp -implicitDefEqProofs only [szs, ne_eq] <;> omega) | fail)) only [go_sem, Nat.reduceAdd, Nat.reduceSub, Nat.reduceMul, Nat.reduceLT, Nat.reduceMod, Nat.reduceDiv, Nat.reduceEqDiff, Nat.reduceBEq, Nat.reduceLeDiff, ↓reduceIte, reduceCtorEq, Int.reduceAdd, Int.reduceSub, Int.reduceLT, Int.reduceLE, Int.reduceBEq, Int.reduceEq, Int.reduceToNat]) (by simp -implicitDefEqProofs (disch := (first | omega | (simp -implicitDefEqProofs only [szs, ne_eq] <;> omega) | fail)) only [go_sem, Nat.reduceAdd, Nat.reduceSub, Nat.reduceMul, Nat.reduceLT, Nat.reduceMod, Nat.reduceDiv, Nat.reduceEqDiff, Nat.reduceBEq, Nat.reduceLeDiff, ↓reduceIte, reduceCtorEq, Int.reduceAdd, Int.reduceSub, Int.reduceLT, Int.reduceLE, Int.reduceBEq, Int.reduceEq, Int.reduceToNat]) (by simp -implicitDefEqProofs (disch := (first | omega | (simp -implicitDefEqProofs only [szs, ne_eq] <;> omega) | fail)) only [go_sem, Nat.reduceAdd, Nat.reduceSub, Nat.reduceMul, Nat.reduceLT, Nat.reduceMod, Nat.reduceDiv, Nat.reduceEqDiff, Nat.reduceBEq, Nat.reduceLeDiff, ↓reduceIte, reduceCtorEq, Int.reduceAdd, Int.reduceSub, Int.reduceLT, Int.reduceLE, Int.reduceBEq, Int.reduceEq, Int.reduceToNat])
    intro tr g5 u4 u5 u6 n5 k5
    have hd5 : DiskAt g5 (g2.n + 2) L (DS.ofB l n) := hd4.same fun b hb _ => k5 b (by
      rcases hb with rfl | rfl | rfl | ⟨x, hx, _⟩
      · omega
      · omega
      · omega
      · exact absurd rfl hx)
    have hr5 := hr4.same (h' := g5) fun b hb _ => k5 b (by omega)
    simp -implicitDefEqProofs (disch := (first | omega | (simp -implicitDefEqProofs only [szs, ne_eq] <;> omega) | fail)) only [go_sem, Nat.reduceAdd, Nat.reduceSub, Nat.reduceMul, Nat.reduceLT, Nat.reduceMod, Nat.reduceDiv, Nat.reduceEqDiff, Nat.reduceBEq, Nat.reduceLeDiff, ↓reduceIte, reduceCtorEq, Int.reduceAdd, Int.reduceSub, Int.reduceLT, Int.reduceLE, Int.reduceBEq, Int.reduceEq, Int.reduceToNat, ir4_r7_eq, ir4_s7, u6, Option.isNone_some]
    simp -implicitDefEqProofs (disch := (first | omega | (simp -implicitDefEqProofs only [szs, ne_eq] <;> omega) | fail)) only [go_sem, Nat.reduceAdd, Nat.reduceSub, Nat.reduceMul, Nat.reduceLT, Nat.reduceMod, Nat.reduceDiv, Nat.reduceEqDiff, Nat.reduceBEq, Nat.reduceLeDiff, ↓reduceIte, reduceCtorEq, Int.reduceAdd, Int.reduceSub, Int.reduceLT, Int.reduceLE, Int.reduceBEq, Int.reduceEq, Int.reduceToNat, ir4_r8_eq, ir4_s8, u4, u5, u6, Option.isNone_some, undefV]
    refine GCall.of (num_ok 0).any ?_
    rintro w g6 ⟨rfl, rfl⟩
    simp -implicitDefEqProofs (disch := (first | omega | (simp -implicitDefEqProofs only [szs, ne_eq] <;> omega) | fail)) only [go_sem, Nat.reduceAdd, Nat.reduceSub, Nat.reduceMul, Nat.reduceLT, Nat.reduceMod, Nat.reduceDiv, Nat.reduceEqDiff, Nat.reduceBEq, Nat.reduceLeDiff, ↓reduceIte, reduceCtorEq, Int.reduceAdd, Int.reduceSub, Int.reduceLT, Int.reduceLE, Int.reduceBEq, Int.reduceEq, Int.reduceToNat, undefV, u4, u5, u6]
    refine GCall.of (stands_ok hd5 hr5 (fun _ => trivial)) ?_
    rintro w g7 ⟨rfl, k7⟩
    simp -implicitDefEqProofs (disch := (first | omega | (simp -implicitDefEqProofs only [szs, ne_eq] <;> omega) | fail)) only [go_sem, Nat.reduceAdd, Nat.reduceSub, Nat.reduceMul, Nat.reduceLT, Nat.reduceMod, Nat.reduceDiv, Nat.reduceEqDiff, Nat.reduceBEq, Nat.reduceLeDiff, ↓reduceIte, reduceCtorEq, Int.reduceAdd, Int.reduceSub, Int.reduceLT, Int.reduceLE, Int.reduceBEq, Int.reduceEq, Int.reduceToNat, undefV]
    refine GCall.of (knownB_ok _ _ _).any ?_
    rintro r g8 ⟨rfl, rfl⟩
    simp -implicitDefEqProofs (disch := (first | omega | (simp -implicitDefEqProofs only [szs, ne_eq] <;> omega) | fail)) only [go_sem, Nat.reduceAdd, Nat.reduceSub, Nat.reduceMul, Nat.reduceLT, Nat.reduceMod, Nat.reduceDiv, Nat.reduceEqDiff, Nat.reduceBEq, Nat.reduceLeDiff, ↓reduceIte, reduceCtorEq, Int.reduceAdd, Int.reduceSub, Int.reduceLT, Int.reduceLE, Int.reduceBEq, Int.reduceEq, Int.reduceToNat, ir4_r9, ir4_s9]
end Go.Proofs.Ytgkcbpagdfdpdaa
