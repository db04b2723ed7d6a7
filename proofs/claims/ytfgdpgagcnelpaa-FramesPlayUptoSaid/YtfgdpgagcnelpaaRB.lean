/- FramesPlay: frame, pages. -/
import Derived.Test.YtfgdpgagcnelpaaRA
set_option linter.unusedVariables false
set_option linter.unusedSimpArgs false
set_option linter.unusedSimpArgs false
set_option maxRecDepth 100000
set_option linter.unusedVariables false
set_option linter.unusedSimpArgs false
namespace Go.Proofs.Ytfgdpgagcnelpaa
open Go Go.Vm
theorem eg_46 : Try.prog.eqGuardType Try.prog.depth 46 = false := by kernel_rfl
theorem fr_eq (x y z : Int) : eqD Try.prog 10 46 (.agg [.int .i64 x, .int .i64 y, .int .i64 z]) (.agg [.int .i64 x, .int .i64 y, .int .i64 z]) = some true := by
  have e : ∀ a a' b b' c c' : Int, eqD Try.prog 10 46 (.agg [.int .i64 a, .int .i64 b, .int .i64 c]) (.agg [.int .i64 a', .int .i64 b', .int .i64 c']) = (match (a == a') with | true => (match (b == b') with | true => (match (c == c') with | true => some true | false => some false) | false => some false) | false => some false) := fun _ _ _ _ _ _ => by kernel_rfl
  rw [e]
  simp
theorem page_at' {h : Heap} {R W : Set'} {bp : Nat} {L : PL} {S : PS} (hp : PoolAt h bp L S) (hR : R bp) (hRf : R L.fb) {i : Nat} (hi : i < S.n) (h0 : S.ho i ≠ 0) :
    SF Try.prog 15 [.ptr (some (bp, 0)), .int .i64 i] h R W fun v h' => v = .tuple [.slice (some (h.n + 1, 0)) 256 256 false, .int .i64 0] ∧ ∃ c, c.size = 256 ∧ c.ro = false ∧ (∀ j, j < 256 → c.get j = .int .u8 (S.byt i j)) ∧ h' = (h.push (.cells (Blk.of []) 5)).push (.cells c 5) := by
  obtain ⟨f, hf, if'⟩ := hp.f
  have fs := if'.size
  refine SF.go hm Try.func15 ir15_eq ?_
  simp -implicitDefEqProofs (disch := (first | omega | (simp -implicitDefEqProofs only [szs, ne_eq] <;> omega) | fail)) only [go_sem, Nat.reduceAdd, Nat.reduceSub, Nat.reduceMul, Nat.reduceLT, Nat.reduceMod, Nat.reduceDiv, Nat.reduceEqDiff, Nat.reduceBEq, Nat.reduceLeDiff, ↓reduceIte, reduceCtorEq, Int.reduceAdd, Int.reduceSub, Int.reduceLT, Int.reduceLE, Int.reduceBEq, Int.reduceEq, Int.reduceToNat, ir15]
  refine GCall.of (at_yes hp (.inr hR) (.inr hRf) i hi h0) ?_
  rintro v h' ⟨rfl, rfl⟩
  simp -implicitDefEqProofs (disch := (first | omega | (simp -implicitDefEqProofs only [szs, ne_eq] <;> omega) | fail)) only [go_sem, Nat.reduceAdd, Nat.reduceSub, Nat.reduceMul, Nat.reduceLT, Nat.reduceMod, Nat.reduceDiv, Nat.reduceEqDiff, Nat.reduceBEq, Nat.reduceLeDiff, ↓reduceIte, reduceCtorEq, Int.reduceAdd, Int.reduceSub, Int.reduceLT, Int.reduceLE, Int.reduceBEq, Int.reduceEq, Int.reduceToNat, hf, hRf, show Nat.beq 256 0 = false from rfl, Nat.zero_mul, Nat.add_zero]
  refine GCall.of (clone_page (o := i * 258 + 2) hf (by omega) (.inr hRf)) ?_
  rintro v h' ⟨rfl, rfl⟩
  simp -implicitDefEqProofs (disch := (first | omega | (simp -implicitDefEqProofs only [szs, ne_eq] <;> omega) | fail)) only [go_sem, Nat.reduceAdd, Nat.reduceSub, Nat.reduceMul, Nat.reduceLT, Nat.reduceMod, Nat.reduceDiv, Nat.reduceEqDiff, Nat.reduceBEq, Nat.reduceLeDiff, ↓reduceIte, reduceCtorEq, Int.reduceAdd, Int.reduceSub, Int.reduceLT, Int.reduceLE, Int.reduceBEq, Int.reduceEq, Int.reduceToNat]
  refine ⟨Blk.of (f.gets (i * 258 + 2) 256), ?_, rfl, ?_, rfl⟩
  · exact Blk.length_gets ..
  · intro j hj
    rw [Blk.get_of _ _ (by rw [Blk.length_gets]; omega), List.getD_eq_getElem?_getD, Blk.gets_get _ _ _ _ hj, Option.getD_some]
    exact if'.byt i j hi hj
set_option maxHeartbeats 2000000 in
theorem frame_ok {h : Heap} {R W : Set'} {bp n0 rd : Nat} {L : PL} {rl : RL} {S : PS} {bv : Nat → V} (hp : PoolAt h bp L S) (hr : RPool h n0 rd rl S bv) (w : WF S) (hR : ∀ b, R b) (k : Int) :
    SF Try.prog 42 [.ptr (some (bp, 0)), .ptr (some (rd, 0)), .int .i64 k] h R W fun v h' => v = .bool true ∧ h.n ≤ h'.n ∧ ∀ b, b < h.n → h'.get b = h.get b := by
  refine SF.go hm Try.func42 ir42_eq ?_
  simp -implicitDefEqProofs (disch := (first | omega | (simp -implicitDefEqProofs only [szs, ne_eq] <;> omega) | fail)) only [go_sem, Nat.reduceAdd, Nat.reduceSub, Nat.reduceMul, Nat.reduceLT, Nat.reduceMod, Nat.reduceDiv, Nat.reduceEqDiff, Nat.reduceBEq, Nat.reduceLeDiff, ↓reduceIte, reduceCtorEq, Int.reduceAdd, Int.reduceSub, Int.reduceLT, Int.reduceLE, Int.reduceBEq, Int.reduceEq, Int.reduceToNat, ir42]
  by_cases ho : Owned S k
  · obtain ⟨k0, k1, k2⟩ := id ho
    obtain ⟨i, rfl⟩ := Int.eq_ofNat_of_zero_le k0
    have hi : i < S.n := by omega
    have h0 : S.ho i ≠ 0 := k2
    refine GCall.of (of_yes hp (.inr (hR _)) (.inr (hR _)) i hi h0) ?_
    rintro v h1 ⟨rfl, n1, e1⟩
    obtain ⟨h2, e2, n2, ⟨st, gs, ss, s0, s1, s2⟩, kg⟩ := stF h1 i (S.ow i) (S.ho i)
    have hold2 : ∀ b, b < h.n → h2.get b = h.get b := fun b hb => by rw [kg b (by omega)]; exact e1 b hb
    simp -implicitDefEqProofs (disch := (first | omega | (simp -implicitDefEqProofs only [szs, ne_eq] <;> omega) | fail)) only [go_sem, Nat.reduceAdd, Nat.reduceSub, Nat.reduceMul, Nat.reduceLT, Nat.reduceMod, Nat.reduceDiv, Nat.reduceEqDiff, Nat.reduceBEq, Nat.reduceLeDiff, ↓reduceIte, reduceCtorEq, Int.reduceAdd, Int.reduceSub, Int.reduceLT, Int.reduceLE, Int.reduceBEq, Int.reduceEq, Int.reduceToNat, e2]
    refine ⟨.inl n1, ?_⟩
    refine GCall.of (page_at' (hp.old hold2) (.inr (hR _)) (.inr (hR _)) hi h0) ?_
    rintro v h3 ⟨rfl, c, cs, cro, cg, rfl⟩
    obtain ⟨h3, e3, n3, c3, k3⟩ : ∃ h3, (h2.push (.cells (Blk.of []) 5)).push (.cells c 5) = h3 ∧ h3.n = h2.n + 2 ∧ h3.get (h2.n + 1) = some (.cells c 5) ∧ ∀ b, b < h2.n → h3.get b = h2.get b := ⟨_, rfl, by simp, w_push_eq (by simp) _, fun b hb => by rw [w_push_ne (by simp; omega), w_push_ne (by omega)]⟩
    rw [e3]
    have hold3 : ∀ b, b < h.n → h3.get b = h.get b := fun b hb => by rw [k3 b (by omega)]; exact hold2 b hb
    have hr3 := hr.old (by omega) hold3
    simp -implicitDefEqProofs (disch := (first | omega | (simp -implicitDefEqProofs only [szs, ne_eq] <;> omega) | fail)) only [go_sem, Nat.reduceAdd, Nat.reduceSub, Nat.reduceMul, Nat.reduceLT, Nat.reduceMod, Nat.reduceDiv, Nat.reduceEqDiff, Nat.reduceBEq, Nat.reduceLeDiff, ↓reduceIte, reduceCtorEq, Int.reduceAdd, Int.reduceSub, Int.reduceLT, Int.reduceLE, Int.reduceBEq, Int.reduceEq, Int.reduceToNat]
    refine GCall.of (rowned_ok hr3 w (fun b => .inr (hR b)) i) ?_
    rintro v h4 ⟨rfl, rfl⟩
    rw [decide_eq_true ho]
    have gs3 := (k3 _ (by omega)).trans gs
    have hRs := hR h1.n
    simp -implicitDefEqProofs (disch := (first | omega | (simp -implicitDefEqProofs only [szs, ne_eq] <;> omega) | fail)) only [go_sem, Nat.reduceAdd, Nat.reduceSub, Nat.reduceMul, Nat.reduceLT, Nat.reduceMod, Nat.reduceDiv, Nat.reduceEqDiff, Nat.reduceBEq, Nat.reduceLeDiff, ↓reduceIte, reduceCtorEq, Int.reduceAdd, Int.reduceSub, Int.reduceLT, Int.reduceLE, Int.reduceBEq, Int.reduceEq, Int.reduceToNat, undefV, gs3, ss, s0, s1, s2, hRs]
    refine GCallD.of (R' := fun _ => True) (W' := fun _ => False) (rof_ok hr3 (fun _ => trivial) hi) ?_
    rintro v h5 ⟨rfl, n5, k5⟩
    have hold5 : ∀ b, b < h.n → h5.get b = h.get b := fun b hb => by rw [k5 b (by omega)]; exact hold3 b hb
    have hr5 := hr.old (by omega) hold5
    obtain ⟨b1, b2, b3, b4, b5⟩ := hr5.blocks
    obtain ⟨cp, p1, p2, p3, p4⟩ := hr5.p
    obtain ⟨f, f1, ⟨fs, fr, fo, fh, fv⟩⟩ := hr5.f
    have hvi := fv i hi
    rcases hr5.b i hi with ⟨_, h4⟩ | ⟨g, ⟨b, x, cb, hbv, hb0, hb, hbs, hbr, hbg⟩, hg⟩
    · exact absurd h4 h0
    rw [hbv] at hvi
    have c5 := (k5 _ (by omega)).trans c3
    have hcA := conv_g (cap := 256) (ex := false) (g := S.byt i) c5 (o := 0) (m := 256) (by omega) (fun j hj => by rw [Nat.zero_add]; exact cg j hj)
    have hcB := conv_g (cap := 256) (ex := x) (g := S.byt i) hb (o := 0) (m := 256) (by omega) (fun j hj => by rw [Nat.zero_add, hbg j hj, hg h0 j hj])
    have hsb := sb_eq (strG (S.byt i) 256)
    have heq := fr_eq (i : Int) (S.ow i) (S.ho i)
    have hsi : i * 3 + 2 < f.size := by omega
    have i0 : (0 : Int) ≤ (i : Int) := by omega
    have i1 : (i : Int) < (S.n : Nat) := by omega
    have hR1 := hR rd
    have hR2 := hR rl.fb
    have hRb := hR b
    have hRc := hR (h2.n + 1)
    simp -implicitDefEqProofs (disch := (first | omega | (simp -implicitDefEqProofs only [szs, ne_eq] <;> omega) | fail)) only [go_sem, Nat.reduceAdd, Nat.reduceSub, Nat.reduceMul, Nat.reduceLT, Nat.reduceMod, Nat.reduceDiv, Nat.reduceEqDiff, Nat.reduceBEq, Nat.reduceLeDiff, ↓reduceIte, reduceCtorEq, Int.reduceAdd, Int.reduceSub, Int.reduceLT, Int.reduceLE, Int.reduceBEq, Int.reduceEq, Int.reduceToNat, undefV, ↓eg_46, heq, ↓cvSD, ↓hcA, ↓hcB, ↓hsb, p1, p2, p3, f1, hvi, hsi, i0, i1, hR1, hR2, hRb, hRc]
    refine ⟨?_, ⟨fun _ => .inl n1, fun b _ _ => .inr (hR b), fun b _ h => h.elim⟩, ?_⟩
    · simp only [List.not_mem_nil, or_false, false_or, and_false, false_and, false_implies, implies_true, not_false_eq_true, List.mem_singleton, List.mem_cons, and_true, true_and]
      all_goals (try and_intros)
      all_goals (intros; omega)
    have hW : h.n ≤ h2.n + 1 ∨ W (h2.n + 1) := .inl (by omega)
    refine GLoop.inv hm (fun k f gg => f.mks = [] ∧ f.tm.n = 82 ∧ f.tm.get 9 = some (.slice (some (h2.n + 1, 0)) 256 256 false) ∧ f.tm.get 11 = some (.bool true) ∧ gg.n = h5.n ∧ (∀ b, b ≠ h2.n + 1 → gg.get b = h5.get b) ∧ (∃ c, gg.get (h2.n + 1) = some (.cells c 5) ∧ c.size = 256 ∧ c.ro = false) ∧ ∃ p : Nat, p + k = 256 ∧ f.tm.get 12 = some (.int .i64 p)) 256 ?_ ?_
    · exact ⟨rfl, rfl, by simp -implicitDefEqProofs (disch := (first | omega | (simp -implicitDefEqProofs only [szs, ne_eq] <;> omega) | fail)) only [go_sem, Nat.reduceAdd, Nat.reduceSub, Nat.reduceMul, Nat.reduceLT, Nat.reduceMod, Nat.reduceDiv, Nat.reduceEqDiff, Nat.reduceBEq, Nat.reduceLeDiff, ↓reduceIte, reduceCtorEq, Int.reduceAdd, Int.reduceSub, Int.reduceLT, Int.reduceLE, Int.reduceBEq, Int.reduceEq, Int.reduceToNat], by simp -implicitDefEqProofs (disch := (first | omega | (simp -implicitDefEqProofs only [szs, ne_eq] <;> omega) | fail)) only [go_sem, Nat.reduceAdd, Nat.reduceSub, Nat.reduceMul, Nat.reduceLT, Nat.reduceMod, Nat.reduceDiv, Nat.reduceEqDiff, Nat.reduceBEq, Nat.reduceLeDiff, ↓reduceIte, reduceCtorEq, Int.reduceAdd, Int.reduceSub, Int.reduceLT, Int.reduceLE, Int.reduceBEq, Int.reduceEq, Int.reduceToNat], rfl, fun _ _ => rfl, ⟨c, c5, cs, cro⟩, 0, by omega, by simp -implicitDefEqProofs (disch := (first | omega | (simp -implicitDefEqProofs only [szs, ne_eq] <;> omega) | fail)) only [go_sem, Nat.reduceAdd, Nat.reduceSub, Nat.reduceMul, Nat.reduceLT, Nat.reduceMod, Nat.reduceDiv, Nat.reduceEqDiff, Nat.reduceBEq, Nat.reduceLeDiff, ↓reduceIte, reduceCtorEq, Int.reduceAdd, Int.reduceSub, Int.reduceLT, Int.reduceLE, Int.reduceBEq, Int.reduceEq, Int.reduceToNat]; rfl⟩
    clear hcA hcB c5 c3 cg cs cro
    rintro k ⟨⟨n', tr⟩, mks⟩ gg ⟨hmk, hn', t9, t11, gn, hold, ⟨c', hb', hs', hro'⟩, p, hpk, t12⟩
    simp only [Tm.get_mk] at hmk hn' t9 t11 t12
    subst hmk hn'
    by_cases hp : p < 256
    · have hp0 : (0 : Int) ≤ (p : Int) := by omega
      have hp1 : (p : Int) < ((256 : Nat) : Int) := by omega
      have hps : p < c'.size := by omega
      have hbl' := Heap.lt_of_get hb'
      simp -implicitDefEqProofs (disch := (first | omega | (simp -implicitDefEqProofs only [szs, ne_eq] <;> omega) | fail)) only [go_sem, Nat.reduceAdd, Nat.reduceSub, Nat.reduceMul, Nat.reduceLT, Nat.reduceMod, Nat.reduceDiv, Nat.reduceEqDiff, Nat.reduceBEq, Nat.reduceLeDiff, ↓reduceIte, reduceCtorEq, Int.reduceAdd, Int.reduceSub, Int.reduceLT, Int.reduceLE, Int.reduceBEq, Int.reduceEq, Int.reduceToNat, ir42_l0, t9, t11, t12, hb', hro', hp0, hp1, hps, hW]
      exact ⟨k - 1, by omega, gn, fun b hne => by rw [w_set_ne hbl' hne]; exact hold b hne, ⟨_, rfl, by rw [Blk.size_set]; exact hs', by rw [Blk.ro_set]; exact hro'⟩, p + 1, by omega, by simp⟩
    · obtain rfl : p = 256 := by omega
      simp -implicitDefEqProofs (disch := (first | omega | (simp -implicitDefEqProofs only [szs, ne_eq] <;> omega) | fail)) only [go_sem, Nat.reduceAdd, Nat.reduceSub, Nat.reduceMul, Nat.reduceLT, Nat.reduceMod, Nat.reduceDiv, Nat.reduceEqDiff, Nat.reduceBEq, Nat.reduceLeDiff, ↓reduceIte, reduceCtorEq, Int.reduceAdd, Int.reduceSub, Int.reduceLT, Int.reduceLE, Int.reduceBEq, Int.reduceEq, Int.reduceToNat, ir42_l0, t9, t11, t12]
      exact ⟨by omega, fun b hb => by rw [hold b (by omega)]; exact hold5 b hb⟩
  · refine GCall.of (of_no hp (.inr (hR _)) (.inr (hR _)) k ho) ?_
    rintro v h1 ⟨rfl, n1, e1⟩
    obtain ⟨h2, e2, n2, ⟨st, gs, ss, s0, s1, s2⟩, kg⟩ := stF h1 0 0 0
    have hold2 : ∀ b, b < h.n → h2.get b = h.get b := fun b hb => by rw [kg b (by omega)]; exact e1 b hb
    simp -implicitDefEqProofs (disch := (first | omega | (simp -implicitDefEqProofs only [szs, ne_eq] <;> omega) | fail)) only [go_sem, Nat.reduceAdd, Nat.reduceSub, Nat.reduceMul, Nat.reduceLT, Nat.reduceMod, Nat.reduceDiv, Nat.reduceEqDiff, Nat.reduceBEq, Nat.reduceLeDiff, ↓reduceIte, reduceCtorEq, Int.reduceAdd, Int.reduceSub, Int.reduceLT, Int.reduceLE, Int.reduceBEq, Int.reduceEq, Int.reduceToNat, e2]
    refine ⟨.inl n1, ?_⟩
    refine GCall.of (page_no (hp.old hold2) (.inr (hR _)) (.inr (hR _)) k ho) ?_
    rintro v h3 ⟨rfl, rfl⟩
    simp -implicitDefEqProofs (disch := (first | omega | (simp -implicitDefEqProofs only [szs, ne_eq] <;> omega) | fail)) only [go_sem, Nat.reduceAdd, Nat.reduceSub, Nat.reduceMul, Nat.reduceLT, Nat.reduceMod, Nat.reduceDiv, Nat.reduceEqDiff, Nat.reduceBEq, Nat.reduceLeDiff, ↓reduceIte, reduceCtorEq, Int.reduceAdd, Int.reduceSub, Int.reduceLT, Int.reduceLE, Int.reduceBEq, Int.reduceEq, Int.reduceToNat]
    refine GCall.of (rowned_ok (hr.old (by omega) hold2) w (fun b => .inr (hR b)) k) ?_
    rintro v h4 ⟨rfl, rfl⟩
    rw [decide_eq_false ho]
    have heq := fr_eq 0 0 0
    have hRs := hR h1.n
    simp -implicitDefEqProofs (disch := (first | omega | (simp -implicitDefEqProofs only [szs, ne_eq] <;> omega) | fail)) only [go_sem, Nat.reduceAdd, Nat.reduceSub, Nat.reduceMul, Nat.reduceLT, Nat.reduceMod, Nat.reduceDiv, Nat.reduceEqDiff, Nat.reduceBEq, Nat.reduceLeDiff, ↓reduceIte, reduceCtorEq, Int.reduceAdd, Int.reduceSub, Int.reduceLT, Int.reduceLE, Int.reduceBEq, Int.reduceEq, Int.reduceToNat, undefV, gs, ss, s0, s1, s2, hRs, ↓eg_46, heq]
    exact ⟨by omega, hold2⟩
theorem pages_ok {h : Heap} {R W : Set'} {bp n0 rd : Nat} {L : PL} {rl : RL} {S : PS} {bv : Nat → V} (hp : PoolAt h bp L S) (hr : RPool h n0 rd rl S bv) (w : WF S) (hR : ∀ b, R b) :
    SF Try.prog 43 [.ptr (some (bp, 0)), .ptr (some (rd, 0))] h R W fun v h' => v = .bool true ∧ h.n ≤ h'.n ∧ ∀ b, b < h.n → h'.get b = h.get b := by
  obtain ⟨b1, b2, b3, b4, b5⟩ := hr.blocks
  obtain ⟨cp, p1, p2, p3, p4⟩ := hr.p
  have hR1 := hR rd
  have hn := w.n
  refine SF.go hm Try.func43 ir43_eq ?_
  simp -implicitDefEqProofs (disch := (first | omega | (simp -implicitDefEqProofs only [szs, ne_eq] <;> omega) | fail)) only [go_sem, Nat.reduceAdd, Nat.reduceSub, Nat.reduceMul, Nat.reduceLT, Nat.reduceMod, Nat.reduceDiv, Nat.reduceEqDiff, Nat.reduceBEq, Nat.reduceLeDiff, ↓reduceIte, reduceCtorEq, Int.reduceAdd, Int.reduceSub, Int.reduceLT, Int.reduceLE, Int.reduceBEq, Int.reduceEq, Int.reduceToNat, ir43]
  refine GLoop.inv hm (fun k f gg => f.mks = [] ∧ f.tm.n = 20 ∧ f.tm.get 0 = some (.ptr (some (bp, 0))) ∧ f.tm.get 1 = some (.ptr (some (rd, 0))) ∧ h.n ≤ gg.n ∧ (∀ b, b < h.n → gg.get b = h.get b) ∧ ∃ p : Nat, p + k = S.n ∧ f.tm.get 5 = some (.int .i64 p)) S.n ?_ ?_
  · exact ⟨rfl, rfl, by simp -implicitDefEqProofs (disch := (first | omega | (simp -implicitDefEqProofs only [szs, ne_eq] <;> omega) | fail)) only [go_sem, Nat.reduceAdd, Nat.reduceSub, Nat.reduceMul, Nat.reduceLT, Nat.reduceMod, Nat.reduceDiv, Nat.reduceEqDiff, Nat.reduceBEq, Nat.reduceLeDiff, ↓reduceIte, reduceCtorEq, Int.reduceAdd, Int.reduceSub, Int.reduceLT, Int.reduceLE, Int.reduceBEq, Int.reduceEq, Int.reduceToNat], by simp -implicitDefEqProofs (disch := (first | omega | (simp -implicitDefEqProofs only [szs, ne_eq] <;> omega) | fail)) only [go_sem, Nat.reduceAdd, Nat.reduceSub, Nat.reduceMul, Nat.reduceLT, Nat.reduceMod, Nat.reduceDiv, Nat.reduceEqDiff, Nat.reduceBEq, Nat.reduceLeDiff, ↓reduceIte, reduceCtorEq, Int.reduceAdd, Int.reduceSub, Int.reduceLT, Int.reduceLE, Int.reduceBEq, Int.reduceEq, Int.reduceToNat], Nat.le_refl _, fun _ _ => rfl, 0, by omega, by simp -implicitDefEqProofs (disch := (first | omega | (simp -implicitDefEqProofs only [szs, ne_eq] <;> omega) | fail)) only [go_sem, Nat.reduceAdd, Nat.reduceSub, Nat.reduceMul, Nat.reduceLT, Nat.reduceMod, Nat.reduceDiv, Nat.reduceEqDiff, Nat.reduceBEq, Nat.reduceLeDiff, ↓reduceIte, reduceCtorEq, Int.reduceAdd, Int.reduceSub, Int.reduceLT, Int.reduceLE, Int.reduceBEq, Int.reduceEq, Int.reduceToNat]; rfl⟩
  rintro k ⟨⟨n', tr⟩, mks⟩ gg ⟨hmk, hn', t0, t1, gn, hold, p, hpk, t5⟩
  simp only [Tm.get_mk] at hmk hn' t0 t1 t5
  subst hmk hn'
  have p1g := (hold rd b1).trans p1
  by_cases hpn : p < S.n
  · have hp1 : (p : Int) < (S.n : Nat) := by omega
    simp -implicitDefEqProofs (disch := (first | omega | (simp -implicitDefEqProofs only [szs, ne_eq] <;> omega) | fail)) only [go_sem, Nat.reduceAdd, Nat.reduceSub, Nat.reduceMul, Nat.reduceLT, Nat.reduceMod, Nat.reduceDiv, Nat.reduceEqDiff, Nat.reduceBEq, Nat.reduceLeDiff, ↓reduceIte, reduceCtorEq, Int.reduceAdd, Int.reduceSub, Int.reduceLT, Int.reduceLE, Int.reduceBEq, Int.reduceEq, Int.reduceToNat, ir43_l0, t0, t1, t5, p1g, p2, p3, hR1, hp1]
    refine GCall.of (frame_ok (hp.old hold) (hr.old gn hold) w (fun b => .inr (hR b)) p) ?_
    rintro v g1 ⟨rfl, n1, k1⟩
    simp -implicitDefEqProofs (disch := (first | omega | (simp -implicitDefEqProofs only [szs, ne_eq] <;> omega) | fail)) only [go_sem, Nat.reduceAdd, Nat.reduceSub, Nat.reduceMul, Nat.reduceLT, Nat.reduceMod, Nat.reduceDiv, Nat.reduceEqDiff, Nat.reduceBEq, Nat.reduceLeDiff, ↓reduceIte, reduceCtorEq, Int.reduceAdd, Int.reduceSub, Int.reduceLT, Int.reduceLE, Int.reduceBEq, Int.reduceEq, Int.reduceToNat, t0, t1, t5]
    exact ⟨k - 1, by omega, by omega, fun b hb => by rw [k1 b (by omega)]; exact hold b hb, p + 1, by omega, by simp⟩
  · obtain rfl : p = S.n := by omega
    simp -implicitDefEqProofs (disch := (first | omega | (simp -implicitDefEqProofs only [szs, ne_eq] <;> omega) | fail)) only [go_sem, Nat.reduceAdd, Nat.reduceSub, Nat.reduceMul, Nat.reduceLT, Nat.reduceMod, Nat.reduceDiv, Nat.reduceEqDiff, Nat.reduceBEq, Nat.reduceLeDiff, ↓reduceIte, reduceCtorEq, Int.reduceAdd, Int.reduceSub, Int.reduceLT, Int.reduceLE, Int.reduceBEq, Int.reduceEq, Int.reduceToNat, ir43_l0, t0, t1, t5, p1g, p2, p3, hR1]
    exact ⟨gn, hold⟩
end Go.Proofs.Ytfgdpgagcnelpaa
