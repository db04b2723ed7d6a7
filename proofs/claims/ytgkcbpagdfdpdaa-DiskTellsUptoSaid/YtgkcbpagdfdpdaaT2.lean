/- stands: the sectors. -/
import Derived.Test.YtgkcbpagdfdpdaaT1
set_option linter.unusedVariables false
set_option linter.unusedSimpArgs false
set_option linter.unusedSimpArgs false
set_option maxRecDepth 100000
set_option linter.unusedVariables false
set_option linter.unusedSimpArgs false
namespace Go.Proofs.Ytgkcbpagdfdpdaa
open Go Go.Vm
attribute [-go_sem] sz_67
theorem sb_neq (a : ByteArray) : strBin .neq a a = some (.bool false) := by
  show some (V.bool (!eqB a.data.toList a.data.toList)) = _
  rw [eqB_eq]; simp
theorem conv_lr {h : Heap} {R : Set'} {v : V} {l : List V} (hv : LR h R v l) (hl : ∀ v ∈ l, ∃ n : Int, v = .int .u8 n ∧ 0 ≤ n ∧ n ≤ 255) : ∃ rs, (∀ b ∈ rs, R b ∧ b < h.n) ∧ ∀ g, (∀ b, R b → b < h.n → g.get b = h.get b) → convV Try.prog 33 9 v g = some (.str (strB l), rs) := by
  rcases hv with ⟨rfl, rfl | ⟨a, rfl⟩⟩ | ⟨b, o, cap, ex, c, ce, rfl, hR, hb, hs, hg⟩
  · exact ⟨[], (fun b hb => by cases hb), fun g hg => by simp only [convV, Try.underlying33, Try.underlying9, Try.underlying5]; rfl⟩
  · exact ⟨[], (fun b hb => by cases hb), fun g hg => by simp only [convV, Try.underlying33, Try.underlying9, Try.underlying5]; rfl⟩
  · exact ⟨[b], fun b' hb' => by simp at hb'; rw [hb']; exact ⟨hR, Heap.lt_of_get hb⟩, fun g hk => conv_str (by rw [hk _ hR (Heap.lt_of_get hb)]; exact hb) hs hg hl⟩
theorem conv_nil (h : Heap) : convV Try.prog 33 9 (.slice none 0 0 true) h = some (.str (strB []), []) := by
  simp only [convV, Try.underlying33, Try.underlying9, Try.underlying5]; rfl
def DS.dirtyTo (D : DS) (m : Nat) : List Nat := (List.range m).filter fun s => !(D.pe s).isEmpty
theorem dirtyTo_n (D : DS) : D.dirtyTo D.n = D.dirty := rfl
theorem dirtyTo_one {D : DS} {m : Nat} (h : D.pe m ≠ []) : D.dirtyTo (m + 1) = D.dirtyTo m ++ [m] := by
  unfold DS.dirtyTo
  rw [List.range_succ, List.filter_append]
  simp [h]
theorem dirtyTo_none {D : DS} {m : Nat} (h : D.pe m = []) : D.dirtyTo (m + 1) = D.dirtyTo m := by
  unfold DS.dirtyTo
  rw [List.range_succ, List.filter_append]
  simp [h]
theorem dirtyTo_len (D : DS) (m : Nat) : (D.dirtyTo m).length ≤ m := by
  unfold DS.dirtyTo
  have := List.length_filter_le (fun s => !(D.pe s).isEmpty) (List.range m)
  simpa using this
theorem ap_80 : apT Try.prog 80 80 = some (3, 1, 8) := by kernel_rfl
theorem flushed_bad {h : Heap} {R W : Set'} {bd : Nat} {L : DL} {D : DS} (hd : DiskAt h bd L D) (hR : R bd) {k : Int} (hs : ¬ (0 ≤ k ∧ k < D.n)) : SF Try.prog 38 [.ptr (some (bd, 0)), .int .i64 k] h R W fun v h' => v = .tuple [.slice none 0 0 true, .int .i64 2] ∧ h' = h := by
  refine SF.go hm Try.func38 ir38_eq ?_
  simp -implicitDefEqProofs (disch := (first | omega | (simp -implicitDefEqProofs only [szs, ne_eq] <;> omega) | fail)) only [go_sem, Nat.reduceAdd, Nat.reduceSub, Nat.reduceMul, Nat.reduceLT, Nat.reduceMod, Nat.reduceDiv, Nat.reduceEqDiff, Nat.reduceBEq, Nat.reduceLeDiff, ↓reduceIte, reduceCtorEq, Int.reduceAdd, Int.reduceSub, Int.reduceLT, Int.reduceLE, Int.reduceBEq, Int.reduceEq, Int.reduceToNat, ir38]
  refine GCall.of (ask_ok hd (.inr hR) k) ?_
  rintro v h' ⟨rfl, rfl⟩
  have ha : askV D k = 2 := if_neg hs
  rw [ha]
  simp -implicitDefEqProofs (disch := (first | omega | (simp -implicitDefEqProofs only [szs, ne_eq] <;> omega) | fail)) only [go_sem, Nat.reduceAdd, Nat.reduceSub, Nat.reduceMul, Nat.reduceLT, Nat.reduceMod, Nat.reduceDiv, Nat.reduceEqDiff, Nat.reduceBEq, Nat.reduceLeDiff, ↓reduceIte, reduceCtorEq, Int.reduceAdd, Int.reduceSub, Int.reduceLT, Int.reduceLE, Int.reduceBEq, Int.reduceEq, Int.reduceToNat]
theorem pending_bad {h : Heap} {R W : Set'} {bd : Nat} {L : DL} {D : DS} (hd : DiskAt h bd L D) (hR : R bd) {k : Int} (hs : ¬ (0 ≤ k ∧ k < D.n)) : SF Try.prog 27 [.ptr (some (bd, 0)), .int .i64 k] h R W fun v h' => v = .int .i64 0 ∧ h' = h := by
  refine SF.go hm Try.func27 ir27_eq ?_
  simp -implicitDefEqProofs (disch := (first | omega | (simp -implicitDefEqProofs only [szs, ne_eq] <;> omega) | fail)) only [go_sem, Nat.reduceAdd, Nat.reduceSub, Nat.reduceMul, Nat.reduceLT, Nat.reduceMod, Nat.reduceDiv, Nat.reduceEqDiff, Nat.reduceBEq, Nat.reduceLeDiff, ↓reduceIte, reduceCtorEq, Int.reduceAdd, Int.reduceSub, Int.reduceLT, Int.reduceLE, Int.reduceBEq, Int.reduceEq, Int.reduceToNat, ir27]
  refine GCall.of (ask_ok hd (.inr hR) k) ?_
  rintro v h' ⟨rfl, rfl⟩
  have ha : askV D k = 2 := if_neg hs
  rw [ha]
  simp -implicitDefEqProofs (disch := (first | omega | (simp -implicitDefEqProofs only [szs, ne_eq] <;> omega) | fail)) only [go_sem, Nat.reduceAdd, Nat.reduceSub, Nat.reduceMul, Nat.reduceLT, Nat.reduceMod, Nat.reduceDiv, Nat.reduceEqDiff, Nat.reduceBEq, Nat.reduceLeDiff, ↓reduceIte, reduceCtorEq, Int.reduceAdd, Int.reduceSub, Int.reduceLT, Int.reduceLE, Int.reduceBEq, Int.reduceEq, Int.reduceToNat]
/-- What the sectors' loop stands on. -/
structure BaseS (g : Heap) (S : Set') (bd rd b4 : Nat) (L : DL) (D : DS) : Prop where
  d : DiskAt g bd L D
  r : RefAt g S rd D
  c4 : ∃ c, g.get b4 = some (.cells c 45) ∧ c.size = 1 ∧ c.get 0 = .ptr (some (rd, 0))
theorem BaseS.old {g g' : Heap} {S : Set'} {bd rd b4 : Nat} {L : DL} {D : DS} (h : BaseS g S bd rd b4 L D) (hk : ∀ b, b < g.n → g'.get b = g.get b) : BaseS g' S bd rd b4 L D := by
  obtain ⟨h1, h2, ⟨x4, h5⟩⟩ := h
  exact ⟨h1.old hk, h2.old hk, ⟨x4, by rw [hk _ (Heap.lt_of_get h5.1)]; exact h5⟩⟩
set_option maxHeartbeats 2000000 in
theorem st_secs {g0 : Heap} {R W S : Set'} {Q' : Ex → Fr → Heap → Prop} {t : List It} {bd rd b4 b7 : Nat} {L : DL} {D : DS} {v5 v6 : V} (hb : BaseS g0 S bd rd b4 L D) (hR : ∀ b, R b) (hW : ∀ b, g0.n ≤ b → W b) (h7 : b7 = g0.n)
    (hk : ∀ tr g lv, tr.get 0 = some (.ptr (some (bd, 0))) → tr.get 4 = some (.ptr (some (b4, 0))) → tr.get 5 = some v5 → tr.get 6 = some v6 → tr.get 7 = some (.ptr (some (b7, 0))) → (∀ b, b < g0.n → g.get b = g0.get b) → (∃ c, g.get b7 = some (.cells c 80) ∧ c.size = 1 ∧ c.get 0 = lv) → Own (g0.n + 1) g lv (D.dirty.map fun (s : Nat) => V.int .i64 s) 3 → resume ⟨Try.prog, true⟩ R W none Q' t (.exit 0) ⟨⟨219, tr⟩, []⟩ g)
    {tr : Tr V} {g : Heap} (hold : ∀ b, b < g0.n → g.get b = g0.get b) (hgn : g0.n + 1 ≤ g.n) (c7 : ∃ c, g.get b7 = some (.cells c 80) ∧ c.size = 1 ∧ c.ro = false ∧ c.get 0 = .slice none 0 0 true)
    (t0 : tr.get 0 = some (.ptr (some (bd, 0)))) (t4 : tr.get 4 = some (.ptr (some (b4, 0)))) (t5 : tr.get 5 = some v5) (t6 : tr.get 6 = some v6) (t7 : tr.get 7 = some (.ptr (some (b7, 0)))) (t8 : tr.get 8 = some (.int .i64 (-1))) : GLoop ⟨Try.prog, true⟩ R W none Q' ir21_l0 t ⟨⟨219, tr⟩, []⟩ g := by
  have hp := hb.d.pos
  refine GLoop.inv hm (fun k f g => f.mks = [] ∧ f.tm.n = 219 ∧ f.tm.get 0 = some (.ptr (some (bd, 0))) ∧ f.tm.get 4 = some (.ptr (some (b4, 0))) ∧ f.tm.get 5 = some v5 ∧ f.tm.get 6 = some v6 ∧ f.tm.get 7 = some (.ptr (some (b7, 0))) ∧ (∀ b, b < g0.n → g.get b = g0.get b) ∧ g0.n + 1 ≤ g.n ∧ ∃ (i : Nat) (lv : V), i + k = D.n + 2 ∧ f.tm.get 8 = some (.int .i64 ((i : Int) - 1)) ∧ (∃ c, g.get b7 = some (.cells c 80) ∧ c.size = 1 ∧ c.ro = false ∧ c.get 0 = lv) ∧ Own (g0.n + 1) g lv ((D.dirtyTo (min (i - 1) D.n)).map fun (s : Nat) => V.int .i64 s) 3) (D.n + 2) ?_ ?_
  · refine ⟨rfl, rfl, t0, t4, t5, t6, t7, hold, hgn, 0, _, by omega, t8, c7, ?_⟩
    exact Own.nil _ _ _
  clear t0 t4 t5 t6 t7 t8 hold hgn c7
  clear tr g
  rintro k ⟨⟨n', tr⟩, mks⟩ g ⟨hmk, hn', t0, t4, t5, t6, t7, hold, hgn, i, lv, hik, t8, ⟨c, e7, s7, r7, v7⟩, ho⟩
  simp only [Tm.get_mk] at hmk hn' t0 t4 t5 t6 t7 t8
  subst hmk hn'
  have hbg := hb.old hold
  obtain ⟨x4, e4, s4, v4⟩ := hbg.c4
  obtain ⟨cr, fb, pb, xf, xp, d1, d2, d3, d4, d5, d6, _, _, ⟨cf, f1, f2, f3, f4⟩, ⟨cp, p1, p2, p3, p4⟩⟩ := hbg.r.d
  have hR4 := hR b4
  have hRr := hR rd
  by_cases hin : i < D.n + 2
  · by_cases hv : 1 ≤ i ∧ i ≤ D.n
    · obtain ⟨m, rfl⟩ : ∃ m, i = m + 1 := ⟨i - 1, by omega⟩
      have hm' : m < D.n := by omega
      have hN := secN_eq
      have hcast : ((m + 1 : Nat) : Int) - 1 = m := by omega
      rw [hcast] at t8
      have hseen := hbg.d.seen hm'
      have hflu := hbg.d.fl m hm'
      simp -implicitDefEqProofs (disch := (first | omega | (simp -implicitDefEqProofs only [szs, ne_eq] <;> omega) | fail)) only [go_sem, Nat.reduceAdd, Nat.reduceSub, Nat.reduceMul, Nat.reduceLT, Nat.reduceMod, Nat.reduceDiv, Nat.reduceEqDiff, Nat.reduceBEq, Nat.reduceLeDiff, ↓reduceIte, reduceCtorEq, Int.reduceAdd, Int.reduceSub, Int.reduceLT, Int.reduceLE, Int.reduceBEq, Int.reduceEq, Int.reduceToNat, ir21_l0, t0, t4, t8, e4, s4, v4, hR4, d1, d2, d4, hRr]
      refine GCall.of (((read_ok (R := R) (W := fun _ => False) hbg.d (fun b _ => hR b) hm').kept).foot (fun _ h => h) (fun _ h => h.elim)).any ?_
      rintro v g1 ⟨⟨b, rfl, ⟨cb, q1, q2, q3, q4⟩, hb1, hb2, k1⟩, vf1⟩
      have n1 := vf1.n
      simp -implicitDefEqProofs (disch := (first | omega | (simp -implicitDefEqProofs only [szs, ne_eq] <;> omega) | fail)) only [go_sem, Nat.reduceAdd, Nat.reduceSub, Nat.reduceMul, Nat.reduceLT, Nat.reduceMod, Nat.reduceDiv, Nat.reduceEqDiff, Nat.reduceBEq, Nat.reduceLeDiff, ↓reduceIte, reduceCtorEq, Int.reduceAdd, Int.reduceSub, Int.reduceLT, Int.reduceLE, Int.reduceBEq, Int.reduceEq, Int.reduceToNat, t0, t4, t8]
      refine GCall.of (((flushed_ok (R := R) (W := fun _ => False) (hbg.d.old k1) (fun b _ => hR b) hm').kept).foot (fun _ h => h) (fun _ h => h.elim)).any ?_
      rintro v g2 ⟨⟨f, rfl, ⟨cg, u1, u2, u3, u4⟩, hf1, hf2, k2⟩, vf2⟩
      have n2 := vf2.n
      have k12 : ∀ b, b < g.n → g2.get b = g.get b := fun b hb => by rw [k2 b (by omega), k1 b hb]
      have hb2' := hbg.old k12
      obtain ⟨y4, w4, w5, w6⟩ := hb2'.c4
      have q1' := (k2 b hb2).trans q1
      have e7' := (k12 b7 (Heap.lt_of_get e7)).trans e7
      have ho' := ho.old k12
      have hRb := hR b
      have hRf := hR f
      have hR7 := hR b7
      have hW7 := hW b7 (by omega)
      have hWb := hW b (by omega)
      have hWf := hW f (by omega)
      simp -implicitDefEqProofs (disch := (first | omega | (simp -implicitDefEqProofs only [szs, ne_eq] <;> omega) | fail)) only [go_sem, Nat.reduceAdd, Nat.reduceSub, Nat.reduceMul, Nat.reduceLT, Nat.reduceMod, Nat.reduceDiv, Nat.reduceEqDiff, Nat.reduceBEq, Nat.reduceLeDiff, ↓reduceIte, reduceCtorEq, Int.reduceAdd, Int.reduceSub, Int.reduceLT, Int.reduceLE, Int.reduceBEq, Int.reduceEq, Int.reduceToNat, t0, t4, t8, w4, w5, w6, hR4]
      refine GCall.of (rread_ok hb2'.r hR hm').any ?_
      rintro v g3 ⟨⟨v', rfl, hv'⟩, rfl⟩
      have hc1 := conv_str (cap := 128) (ex := true) (o := 0) (len := 128) q1' (by omega) q4 hseen.2
      have hc2 := conv_str (cap := 128) (ex := true) (o := 0) (len := 128) u1 (by omega) u4 hflu.2
      obtain ⟨rs3, hrs3, hc3'⟩ := conv_lr hv' hseen.2
      have hc3 := hc3' g3 (fun _ _ _ => rfl)
      have har3 : allB R rs3 := allB_of fun b _ => hR b
      simp -implicitDefEqProofs (disch := (first | omega | (simp -implicitDefEqProofs only [szs, ne_eq] <;> omega) | fail)) only [go_sem, Nat.reduceAdd, Nat.reduceSub, Nat.reduceMul, Nat.reduceLT, Nat.reduceMod, Nat.reduceDiv, Nat.reduceEqDiff, Nat.reduceBEq, Nat.reduceLeDiff, ↓reduceIte, reduceCtorEq, Int.reduceAdd, Int.reduceSub, Int.reduceLT, Int.reduceLE, Int.reduceBEq, Int.reduceEq, Int.reduceToNat, t0, t4, t8, undefV, ↓cv_op, hc1, hc3, sb_neq, allB, hRb, har3]
      refine GCall.of (num_ok 0).any ?_
      rintro v g4 ⟨rfl, rfl⟩
      simp -implicitDefEqProofs (disch := (first | omega | (simp -implicitDefEqProofs only [szs, ne_eq] <;> omega) | fail)) only [go_sem, Nat.reduceAdd, Nat.reduceSub, Nat.reduceMul, Nat.reduceLT, Nat.reduceMod, Nat.reduceDiv, Nat.reduceEqDiff, Nat.reduceBEq, Nat.reduceLeDiff, ↓reduceIte, reduceCtorEq, Int.reduceAdd, Int.reduceSub, Int.reduceLT, Int.reduceLE, Int.reduceBEq, Int.reduceEq, Int.reduceToNat, t0, t4, t8, undefV]
      refine GCall.of (num_ok 0).any ?_
      rintro v g4 ⟨rfl, rfl⟩
      obtain ⟨cr2, fb2, pb2, xf2, xp2, d1', d2', d3', d4', d5', d6', _, _, ⟨cf2, f1', f2', f3', f4'⟩, ⟨cp2, p1', p2', p3', p4'⟩⟩ := hb2'.r.d
      obtain ⟨rs4, hrs4, hc4'⟩ := conv_lr (f4' m hm') hflu.2
      have hc4 := hc4' g4 (fun _ _ _ => rfl)
      have har4 : allB R rs4 := allB_of fun b _ => hR b
      obtain ⟨vs, v1, vl, v3⟩ := p4' m hm'
      have hlp := v1.lenV Try.underlying75
      rw [vl] at hlp
      have hRr2 := hR rd
      have hRfb := hR fb2
      have hRpb := hR pb2
      simp -implicitDefEqProofs (disch := (first | omega | (simp -implicitDefEqProofs only [szs, ne_eq] <;> omega) | fail)) only [go_sem, Nat.reduceAdd, Nat.reduceSub, Nat.reduceMul, Nat.reduceLT, Nat.reduceMod, Nat.reduceDiv, Nat.reduceEqDiff, Nat.reduceBEq, Nat.reduceLeDiff, ↓reduceIte, reduceCtorEq, Int.reduceAdd, Int.reduceSub, Int.reduceLT, Int.reduceLE, Int.reduceBEq, Int.reduceEq, Int.reduceToNat, t0, t4, t8, undefV, ↓cv_opD, hc2, hc4, w4, w5, w6, d1', d2', d4', d5', f1', f2', p1', p2', hRr2, hRfb, hRpb, sb_neq]
      refine GCallD.of (R' := R) (W' := fun _ => False) (pending_ok hb2'.d (fun b _ => hR b) hm') ?_
      rintro v g5 ⟨rfl, rfl⟩
      have byte : ∀ {c : Blk} {l : List V}, IsSec l → c.gets 0 secN = l → ∃ x : Int, c.get 0 = .int .u8 x := fun {c l} hl hg => by
        have h0 := hl.1
        obtain ⟨x, hx, _⟩ := hl.2 (l[0]'(by omega)) (List.getElem_mem _)
        have := Blk.gets_get c secN 0 0 (by omega)
        rw [hg, List.getElem?_eq_getElem (by omega), hx] at this
        exact ⟨x, (Option.some.inj this).symm⟩
      obtain ⟨x, hx⟩ := byte hseen q4
      obtain ⟨y, hy⟩ := byte hflu u4
      have hmin : min (m + 1 - 1) D.n = m := by omega
      rw [hmin] at ho'
      have hbf : b ≠ f := by omega
      have h128 : (0 : Int) < ((128 : Nat) : Int) := by omega
      have fin : ∀ (gX : Heap) (lv2 x y : V), g5.n ≤ gX.n → gX.get b = some (.cells cb 67) → gX.get f = some (.cells cg 67) → (∀ b, b < g0.n → gX.get b = g0.get b) → Own (g0.n + 1) gX lv2 ((D.dirtyTo (m + 1)).map fun (s : Nat) => V.int .i64 s) 3 → (∀ b', b' < g0.n → ((gX.set b (.cells (cb.set 0 x) 67)).set f (.cells (cg.set 0 y) 67)).get b' = g0.get b') ∧ Own (g0.n + 1) ((gX.set b (.cells (cb.set 0 x) 67)).set f (.cells (cg.set 0 y) 67)) lv2 ((D.dirtyTo (min (m + 2 - 1) D.n)).map fun (s : Nat) => V.int .i64 s) 3 := fun gX lv2 x y z1 z2 z3 z5 z6 => by
        have q : ∀ b', b' ≠ b → b' ≠ f → ((gX.set b (.cells (cb.set 0 x) 67)).set f (.cells (cg.set 0 y) 67)).get b' = gX.get b' := fun b' h1 h2 => by
          rw [w_set_ne (by rw [Heap.n_set]; omega) h2, w_set_ne (by omega) h1]
        refine ⟨fun b' hb' => by rw [q b' (by omega) (by omega)]; exact z5 b' hb', ?_⟩
        rw [show min (m + 2 - 1) D.n = m + 1 by omega]
        exact z6.keep fun b' c' e => by
          have h1 : b' ≠ b := fun e2 => by rw [e2, z2] at e; simp at e
          have h2 : b' ≠ f := fun e2 => by rw [e2, z3] at e; simp at e
          rw [q b' h1 h2]; exact e
      have hold5 : ∀ b, b < g0.n → g5.get b = g0.get b := fun b hb => by rw [k12 b (by omega), hold b hb]
      by_cases he : D.pe m = []
      · have hde : decide (0 < ((D.pe m).length : Int)) = false := by rw [he]; rfl
        simp -implicitDefEqProofs (disch := (first | omega | (simp -implicitDefEqProofs only [szs, ne_eq] <;> omega) | fail)) only [go_sem, Nat.reduceAdd, Nat.reduceSub, Nat.reduceMul, Nat.reduceLT, Nat.reduceMod, Nat.reduceDiv, Nat.reduceEqDiff, Nat.reduceBEq, Nat.reduceLeDiff, ↓reduceIte, reduceCtorEq, Int.reduceAdd, Int.reduceSub, Int.reduceLT, Int.reduceLE, Int.reduceBEq, Int.reduceEq, Int.reduceToNat, t0, t4, t5, t6, t7, t8, w4, w5, w6, d1', d2', d5', p1', p2', ↓hlp, undefV, hR4, hRr, hRr2, hRpb, ↓hde, q1', q2, q3, u1, u2, u3, hx, hy, hRb, hRf, hWb, hWf, hbf, h128]
        refine ⟨?_, ?_, ?_⟩
        · simp only [List.not_mem_nil, or_false, false_or, and_false, false_and, false_implies, implies_true, not_false_eq_true, List.mem_singleton, List.mem_cons, and_true, true_and, forall_const]
          and_intros
          all_goals (intros; omega)
        · and_intros
          all_goals (intros; first | exact hR _ | exact (by assumption : False).elim)
        · obtain ⟨z1, z2⟩ := fin g5 lv (.int .u8 (IntKind.u8.wrap (x + 1))) (.int .u8 (IntKind.u8.wrap (y + 1))) (Nat.le_refl _) q1' u1 hold5 (by rw [dirtyTo_none he]; exact ho')
          exact ⟨k - 1, by omega, z1, by omega, m + 2, lv, by omega, congrArg _ (by omega), ⟨c, e7', s7, r7, v7⟩, z2⟩
      · have hde : decide (0 < ((D.pe m).length : Int)) = true := by have := List.length_pos_iff.2 he; simp; omega
        have hdl := dirtyTo_len D m
        obtain ⟨v2, g6, r2, w2, hap, o2, m2, k2', hw2, kk, ht⟩ := app_own (h := g5.push (.cells (Blk.of [.int .i64 m]) 3)) (x := .slice (some (g5.n, 0)) 1 1 true) (news := [.int .i64 m]) (rs := [g5.n]) (bytes := 8) (ho'.old fun b hb => by rw [w_push_ne (by omega)]) (by simp; omega) rfl (first_one (e := 3) (by rw [w_push_eq rfl])) rfl (by simp only [List.length_cons, List.length_nil, List.length_map]; omega) (by simp only [List.length_cons, List.length_nil, List.length_map]; omega)
        have hkk : ∀ b o, b < g5.n → g5.get b = some o → (∀ c, o ≠ .cells c 3) → g6.get b = some o := fun b o hb e hne => by
          rw [kk b (by simp; omega) (fun hb' => by
            obtain ⟨c', e'⟩ := ht b hb'
            rw [w_push_ne (by omega), e] at e'
            exact hne c' (Option.some.inj e')), w_push_ne (by omega), e]
        have e7'' := hkk _ _ (Heap.lt_of_get e7') e7' (fun c => by simp)
        have q1'' := hkk _ _ (Heap.lt_of_get q1') q1' (fun c => by simp)
        have u1'' := hkk _ _ (Heap.lt_of_get u1) u1 (fun c => by simp)
        have hcv := o2.lr.cells
        have hon := o2.lr.one
        have hr2 : allB R r2 := allB_of fun b _ => hR b
        have hw2' : allB W w2 := allB_of fun b hb => hW b (by have := hw2 b hb; omega)
        have hlt7 := Heap.lt_of_get e7''
        have hltb := Heap.lt_of_get q1''
        have hltf := Heap.lt_of_get u1''
        have m2' : g5.n + 1 ≤ g6.n := by simpa using m2
        have hb7 : b ≠ b7 := by omega
        have hf7 : f ≠ b7 := by omega
        simp -implicitDefEqProofs (disch := (first | omega | (simp -implicitDefEqProofs only [szs, ne_eq] <;> omega) | fail)) only [go_sem, Nat.reduceAdd, Nat.reduceSub, Nat.reduceMul, Nat.reduceLT, Nat.reduceMod, Nat.reduceDiv, Nat.reduceEqDiff, Nat.reduceBEq, Nat.reduceLeDiff, ↓reduceIte, reduceCtorEq, Int.reduceAdd, Int.reduceSub, Int.reduceLT, Int.reduceLE, Int.reduceBEq, Int.reduceEq, Int.reduceToNat, t0, t4, t5, t6, t7, t8, w4, w5, w6, d1', d2', d5', p1', p2', ↓hlp, undefV, hR4, hRr, hRr2, hRpb, ↓hde, e7', s7, r7, v7, hR7, hW7, appendV_of ap_80, hap, hr2, hw2', ↓hcv, ↓hon, e7'', q1'', q2, q3, u1'', u2, u3, hx, hy, hRb, hRf, hWb, hWf, hbf, hb7, hf7, h128]
        refine ⟨?_, ?_, ?_⟩
        · simp only [List.not_mem_nil, or_false, false_or, and_false, false_and, false_implies, implies_true, not_false_eq_true, List.mem_singleton, List.mem_cons, and_true, true_and, forall_const]
          and_intros
          all_goals (intros; omega)
        · and_intros
          all_goals (intros; first | exact hR _ | exact (by assumption : False).elim)
        · obtain ⟨z1, z2⟩ := fin (g6.set b7 (.cells (c.set 0 v2) 80)) v2 (.int .u8 (IntKind.u8.wrap (x + 1))) (.int .u8 (IntKind.u8.wrap (y + 1))) (by rw [Heap.n_set]; omega) (by rw [w_set_ne hlt7 hb7]; exact q1'') (by rw [w_set_ne hlt7 hf7]; exact u1'') (fun b hb => by
            rw [w_set_ne hlt7 (by omega), k2' b (by omega), w_push_ne (by omega)]; exact hold5 b hb) (by
            rw [dirtyTo_one he, List.map_append]
            exact o2.keep fun b' c' e => by
              have h1 : b' ≠ b7 := fun e2 => by rw [e2, e7''] at e; simp at e
              rw [w_set_ne hlt7 h1]; exact e)
          exact ⟨k - 1, by omega, z1, by omega, m + 2, v2, by omega, congrArg _ (by omega), ⟨_, rfl, by rw [Blk.size_set]; exact s7, by rw [Blk.ro_set]; exact r7, w_bset_eq rfl _⟩, z2⟩
    · have hbad : ¬ (0 ≤ (i : Int) - 1 ∧ (i : Int) - 1 < D.n) := by omega
      have hmin : min (i + 1 - 1) D.n = min (i - 1) D.n := by omega
      simp -implicitDefEqProofs (disch := (first | omega | (simp -implicitDefEqProofs only [szs, ne_eq] <;> omega) | fail)) only [go_sem, Nat.reduceAdd, Nat.reduceSub, Nat.reduceMul, Nat.reduceLT, Nat.reduceMod, Nat.reduceDiv, Nat.reduceEqDiff, Nat.reduceBEq, Nat.reduceLeDiff, ↓reduceIte, reduceCtorEq, Int.reduceAdd, Int.reduceSub, Int.reduceLT, Int.reduceLE, Int.reduceBEq, Int.reduceEq, Int.reduceToNat, ir21_l0, t0, t4, t8, e4, s4, v4, hR4, d1, d2, d4, hRr]
      refine GCall.of (read_bad hbg.d (hR _) hbad).any ?_
      rintro v g1 ⟨rfl, rfl⟩
      simp -implicitDefEqProofs (disch := (first | omega | (simp -implicitDefEqProofs only [szs, ne_eq] <;> omega) | fail)) only [go_sem, Nat.reduceAdd, Nat.reduceSub, Nat.reduceMul, Nat.reduceLT, Nat.reduceMod, Nat.reduceDiv, Nat.reduceEqDiff, Nat.reduceBEq, Nat.reduceLeDiff, ↓reduceIte, reduceCtorEq, Int.reduceAdd, Int.reduceSub, Int.reduceLT, Int.reduceLE, Int.reduceBEq, Int.reduceEq, Int.reduceToNat, t0, t4, t8]
      refine GCall.of (flushed_bad hbg.d (hR _) hbad).any ?_
      rintro v g1 ⟨rfl, rfl⟩
      simp -implicitDefEqProofs (disch := (first | omega | (simp -implicitDefEqProofs only [szs, ne_eq] <;> omega) | fail)) only [go_sem, Nat.reduceAdd, Nat.reduceSub, Nat.reduceMul, Nat.reduceLT, Nat.reduceMod, Nat.reduceDiv, Nat.reduceEqDiff, Nat.reduceBEq, Nat.reduceLeDiff, ↓reduceIte, reduceCtorEq, Int.reduceAdd, Int.reduceSub, Int.reduceLT, Int.reduceLE, Int.reduceBEq, Int.reduceEq, Int.reduceToNat, t0, t4, t8, e4, s4, v4, hR4]
      refine GCall.of (rread_bad hbg.r hR hbad).any ?_
      rintro v g1 ⟨rfl, rfl⟩
      simp -implicitDefEqProofs (disch := (first | omega | (simp -implicitDefEqProofs only [szs, ne_eq] <;> omega) | fail)) only [go_sem, Nat.reduceAdd, Nat.reduceSub, Nat.reduceMul, Nat.reduceLT, Nat.reduceMod, Nat.reduceDiv, Nat.reduceEqDiff, Nat.reduceBEq, Nat.reduceLeDiff, ↓reduceIte, reduceCtorEq, Int.reduceAdd, Int.reduceSub, Int.reduceLT, Int.reduceLE, Int.reduceBEq, Int.reduceEq, Int.reduceToNat, t0, t4, t8, undefV, ↓cv_op, conv_nil, sb_neq, allB]
      refine GCall.of (num_ok 2).any ?_
      rintro v g1 ⟨rfl, rfl⟩
      simp -implicitDefEqProofs (disch := (first | omega | (simp -implicitDefEqProofs only [szs, ne_eq] <;> omega) | fail)) only [go_sem, Nat.reduceAdd, Nat.reduceSub, Nat.reduceMul, Nat.reduceLT, Nat.reduceMod, Nat.reduceDiv, Nat.reduceEqDiff, Nat.reduceBEq, Nat.reduceLeDiff, ↓reduceIte, reduceCtorEq, Int.reduceAdd, Int.reduceSub, Int.reduceLT, Int.reduceLE, Int.reduceBEq, Int.reduceEq, Int.reduceToNat, t0, t4, t8, undefV]
      refine GCall.of (num_ok 2).any ?_
      rintro v g1 ⟨rfl, rfl⟩
      simp -implicitDefEqProofs (disch := (first | omega | (simp -implicitDefEqProofs only [szs, ne_eq] <;> omega) | fail)) only [go_sem, Nat.reduceAdd, Nat.reduceSub, Nat.reduceMul, Nat.reduceLT, Nat.reduceMod, Nat.reduceDiv, Nat.reduceEqDiff, Nat.reduceBEq, Nat.reduceLeDiff, ↓reduceIte, reduceCtorEq, Int.reduceAdd, Int.reduceSub, Int.reduceLT, Int.reduceLE, Int.reduceBEq, Int.reduceEq, Int.reduceToNat, t0, t4, t8, undefV]
      refine GCall.of (pending_bad hbg.d (hR _) hbad).any ?_
      rintro v g1 ⟨rfl, rfl⟩
      simp -implicitDefEqProofs (disch := (first | omega | (simp -implicitDefEqProofs only [szs, ne_eq] <;> omega) | fail)) only [go_sem, Nat.reduceAdd, Nat.reduceSub, Nat.reduceMul, Nat.reduceLT, Nat.reduceMod, Nat.reduceDiv, Nat.reduceEqDiff, Nat.reduceBEq, Nat.reduceLeDiff, ↓reduceIte, reduceCtorEq, Int.reduceAdd, Int.reduceSub, Int.reduceLT, Int.reduceLE, Int.reduceBEq, Int.reduceEq, Int.reduceToNat, t0, t4, t5, t6, t7, t8, undefV]
      refine ⟨k - 1, by omega, hold, hgn, i + 1, lv, by omega, congrArg _ (by omega), ⟨c, e7, s7, r7, v7⟩, by rw [hmin]; exact ho⟩
  · obtain rfl : i = D.n + 2 := by omega
    rw [show min (D.n + 2 - 1) D.n = D.n by omega, dirtyTo_n] at ho
    simp -implicitDefEqProofs (disch := (first | omega | (simp -implicitDefEqProofs only [szs, ne_eq] <;> omega) | fail)) only [go_sem, Nat.reduceAdd, Nat.reduceSub, Nat.reduceMul, Nat.reduceLT, Nat.reduceMod, Nat.reduceDiv, Nat.reduceEqDiff, Nat.reduceBEq, Nat.reduceLeDiff, ↓reduceIte, reduceCtorEq, Int.reduceAdd, Int.reduceSub, Int.reduceLT, Int.reduceLE, Int.reduceBEq, Int.reduceEq, Int.reduceToNat, ir21_l0, t0, t4, t8, e4, s4, v4, hR4, d1, d2, d4, hRr]
    exact hk _ _ _ (by simp -implicitDefEqProofs (disch := (first | omega | (simp -implicitDefEqProofs only [szs, ne_eq] <;> omega) | fail)) only [go_sem, Nat.reduceAdd, Nat.reduceSub, Nat.reduceMul, Nat.reduceLT, Nat.reduceMod, Nat.reduceDiv, Nat.reduceEqDiff, Nat.reduceBEq, Nat.reduceLeDiff, ↓reduceIte, reduceCtorEq, Int.reduceAdd, Int.reduceSub, Int.reduceLT, Int.reduceLE, Int.reduceBEq, Int.reduceEq, Int.reduceToNat, t0]) (by simp -implicitDefEqProofs (disch := (first | omega | (simp -implicitDefEqProofs only [szs, ne_eq] <;> omega) | fail)) only [go_sem, Nat.reduceAdd, Nat.reduceSub, Nat.reduceMul, Nat.reduceLT, Nat.reduceMod, Nat.reduceDiv, Nat.reduceEqDiff, Nat.reduceBEq, Nat.reduceLeDiff, ↓reduceIte, reduceCtorEq, Int.reduceAdd, Int.reduceSub, Int.reduceLT, Int.reduceLE, Int.reduceBEq, Int.reduceEq, Int.reduceToNat, t4]) (by simp -implicitDefEqProofs (disch := (first | omega | (simp -implicitDefEqProofs only [szs, ne_eq] <;> omega) | fail)) only [go_sem, Nat.reduceAdd, Nat.reduceSub, Nat.reduceMul, Nat.reduceLT, Nat.reduceMod, Nat.reduceDiv, Nat.reduceEqDiff, Nat.reduceBEq, Nat.reduceLeDiff, ↓reduceIte, reduceCtorEq, Int.reduceAdd, Int.reduceSub, Int.reduceLT, Int.reduceLE, Int.reduceBEq, Int.reduceEq, Int.reduceToNat, t5]) (by simp -implicitDefEqProofs (disch := (first | omega | (simp -implicitDefEqProofs only [szs, ne_eq] <;> omega) | fail)) only [go_sem, Nat.reduceAdd, Nat.reduceSub, Nat.reduceMul, Nat.reduceLT, Nat.reduceMod, Nat.reduceDiv, Nat.reduceEqDiff, Nat.reduceBEq, Nat.reduceLeDiff, ↓reduceIte, reduceCtorEq, Int.reduceAdd, Int.reduceSub, Int.reduceLT, Int.reduceLE, Int.reduceBEq, Int.reduceEq, Int.reduceToNat, t6]) (by simp -implicitDefEqProofs (disch := (first | omega | (simp -implicitDefEqProofs only [szs, ne_eq] <;> omega) | fail)) only [go_sem, Nat.reduceAdd, Nat.reduceSub, Nat.reduceMul, Nat.reduceLT, Nat.reduceMod, Nat.reduceDiv, Nat.reduceEqDiff, Nat.reduceBEq, Nat.reduceLeDiff, ↓reduceIte, reduceCtorEq, Int.reduceAdd, Int.reduceSub, Int.reduceLT, Int.reduceLE, Int.reduceBEq, Int.reduceEq, Int.reduceToNat, t7]) hold ⟨c, e7, s7, v7⟩ ho
end Go.Proofs.Ytgkcbpagdfdpdaa
