/- stands. -/
import Derived.Test.YtgkcbpagdfdpdaaT2
set_option linter.unusedVariables false
set_option linter.unusedSimpArgs false
set_option linter.unusedSimpArgs false
set_option maxRecDepth 100000
set_option linter.unusedVariables false
set_option linter.unusedSimpArgs false
namespace Go.Proofs.Ytgkcbpagdfdpdaa
open Go Go.Vm
attribute [-go_sem] sz_67
theorem i64_neq (n : Int) : intBin .neq .i64 n n = some (.bool false) := by
  show some (V.bool _) = _
  simp
set_option maxHeartbeats 2000000 in
theorem stands_ok {h : Heap} {R W S : Set'} {bd rd : Nat} {L : DL} {D : DS} {leave : Int} (hd : DiskAt h bd L D) (hr : RefAt h S rd D) (hR : ∀ b, R b) : SF ⟨Try.prog, true⟩ 21 [.ptr (some (bd, 0)), .ptr (some (rd, 0)), .int .i64 leave] h R W fun v h' => v = .bool true ∧ ∀ b, b < h.n → h'.get b = h.get b := by
  have hp := hd.pos
  refine SF.go hm Try.func21 ir21_eq ?_
  simp -implicitDefEqProofs (disch := (first | omega | (simp -implicitDefEqProofs only [szs, ne_eq] <;> omega) | fail)) only [go_sem, Nat.reduceAdd, Nat.reduceSub, Nat.reduceMul, Nat.reduceLT, Nat.reduceMod, Nat.reduceDiv, Nat.reduceEqDiff, Nat.reduceBEq, Nat.reduceLeDiff, ↓reduceIte, reduceCtorEq, Int.reduceAdd, Int.reduceSub, Int.reduceLT, Int.reduceLE, Int.reduceBEq, Int.reduceEq, Int.reduceToNat, ir21, zv_4]
  obtain ⟨g, eg, gn, hold, e4, e5, e6⟩ : ∃ g, (((h.push (.cells (Blk.of [.ptr (some (rd, 0))]) 45)).push (.cells (Blk.of [.int .i64 leave]) 3)).push (.cells (Blk.of [.bool false]) 4)) = g ∧ g.n = h.n + 3 ∧ (∀ b, b < h.n → g.get b = h.get b) ∧ g.get h.n = some (.cells (Blk.of [.ptr (some (rd, 0))]) 45) ∧ g.get (h.n + 1) = some (.cells (Blk.of [.int .i64 leave]) 3) ∧ g.get (h.n + 2) = some (.cells (Blk.of [.bool false]) 4) := ⟨_, rfl, by simp, fun b hb => by simp -implicitDefEqProofs (disch := (first | omega | (simp -implicitDefEqProofs only [szs, ne_eq] <;> omega) | fail)) only [go_sem, Nat.reduceAdd, Nat.reduceSub, Nat.reduceMul, Nat.reduceLT, Nat.reduceMod, Nat.reduceDiv, Nat.reduceEqDiff, Nat.reduceBEq, Nat.reduceLeDiff, ↓reduceIte, reduceCtorEq, Int.reduceAdd, Int.reduceSub, Int.reduceLT, Int.reduceLE, Int.reduceBEq, Int.reduceEq, Int.reduceToNat], by simp -implicitDefEqProofs (disch := (first | omega | (simp -implicitDefEqProofs only [szs, ne_eq] <;> omega) | fail)) only [go_sem, Nat.reduceAdd, Nat.reduceSub, Nat.reduceMul, Nat.reduceLT, Nat.reduceMod, Nat.reduceDiv, Nat.reduceEqDiff, Nat.reduceBEq, Nat.reduceLeDiff, ↓reduceIte, reduceCtorEq, Int.reduceAdd, Int.reduceSub, Int.reduceLT, Int.reduceLE, Int.reduceBEq, Int.reduceEq, Int.reduceToNat], by simp -implicitDefEqProofs (disch := (first | omega | (simp -implicitDefEqProofs only [szs, ne_eq] <;> omega) | fail)) only [go_sem, Nat.reduceAdd, Nat.reduceSub, Nat.reduceMul, Nat.reduceLT, Nat.reduceMod, Nat.reduceDiv, Nat.reduceEqDiff, Nat.reduceBEq, Nat.reduceLeDiff, ↓reduceIte, reduceCtorEq, Int.reduceAdd, Int.reduceSub, Int.reduceLT, Int.reduceLE, Int.reduceBEq, Int.reduceEq, Int.reduceToNat], by simp -implicitDefEqProofs (disch := (first | omega | (simp -implicitDefEqProofs only [szs, ne_eq] <;> omega) | fail)) only [go_sem, Nat.reduceAdd, Nat.reduceSub, Nat.reduceMul, Nat.reduceLT, Nat.reduceMod, Nat.reduceDiv, Nat.reduceEqDiff, Nat.reduceBEq, Nat.reduceLeDiff, ↓reduceIte, reduceCtorEq, Int.reduceAdd, Int.reduceSub, Int.reduceLT, Int.reduceLE, Int.reduceBEq, Int.reduceEq, Int.reduceToNat]⟩
  rw [eg, show h.n + 1 + 1 + 1 = g.n by omega]
  have hd1 := hd.old hold
  have hr1 := hr.old hold
  obtain ⟨cr, fb, pb, xf, xp, d1, d2, d3, d4, d5, d6, _⟩ := hr1.d
  refine GCallD.of (R' := fun _ => True) (W' := fun _ => False) (size_ok hd1 (fun _ => trivial)) ?_
  rintro v g1 ⟨rfl, rfl⟩
  simp -implicitDefEqProofs (disch := (first | omega | (simp -implicitDefEqProofs only [szs, ne_eq] <;> omega) | fail)) only [go_sem, Nat.reduceAdd, Nat.reduceSub, Nat.reduceMul, Nat.reduceLT, Nat.reduceMod, Nat.reduceDiv, Nat.reduceEqDiff, Nat.reduceBEq, Nat.reduceLeDiff, ↓reduceIte, reduceCtorEq, Int.reduceAdd, Int.reduceSub, Int.reduceLT, Int.reduceLE, Int.reduceBEq, Int.reduceEq, Int.reduceToNat, e4, d1, d2, d4, i64_neq, undefV]
  refine GCallD.of (R' := fun _ => True) (W' := fun _ => False) (((bytes_ok (R := fun _ => True) (W := fun _ => False) hd1 (fun _ _ => trivial)).kept).foot (fun _ h => h) (fun _ h => h)) ?_
  rintro v g2 ⟨⟨rfl, n2, ⟨cc, q1, q2, q3, q4⟩, k2⟩, vf2⟩
  have hc1 := conv_str (cap := D.n * 128) (ex := true) (o := 0) (len := D.n * 128) q1 (by omega) q4 (flatF_int hd1.fl)
  have e4' := (k2 h.n (by omega)).trans e4
  have hr2 := hr1.old k2
  simp -implicitDefEqProofs (disch := (first | omega | (simp -implicitDefEqProofs only [szs, ne_eq] <;> omega) | fail)) only [go_sem, Nat.reduceAdd, Nat.reduceSub, Nat.reduceMul, Nat.reduceLT, Nat.reduceMod, Nat.reduceDiv, Nat.reduceEqDiff, Nat.reduceBEq, Nat.reduceLeDiff, ↓reduceIte, reduceCtorEq, Int.reduceAdd, Int.reduceSub, Int.reduceLT, Int.reduceLE, Int.reduceBEq, Int.reduceEq, Int.reduceToNat, ↓cv_opD, hc1, e4']
  refine GCallD.of (R' := fun _ => True) (W' := fun _ => False) (((rbytes_ok (R := fun _ => True) (W := fun _ => False) hr2 (fun _ => trivial)).kept).foot (fun _ h => h) (fun _ h => h)) ?_
  rintro v g3 ⟨⟨o3, k3⟩, vf3⟩
  have n3 := vf3.n
  obtain ⟨rs3, hrs3, hc3'⟩ := conv_lr o3.lr (flatF_int hr2.fl)
  have hc3 := hc3' g3 (fun _ _ _ => rfl)
  have k23 : ∀ b, b < g1.n → g3.get b = g1.get b := fun b hb => by rw [k3 b (by omega), k2 b hb]
  simp -implicitDefEqProofs (disch := (first | omega | (simp -implicitDefEqProofs only [szs, ne_eq] <;> omega) | fail)) only [go_sem, Nat.reduceAdd, Nat.reduceSub, Nat.reduceMul, Nat.reduceLT, Nat.reduceMod, Nat.reduceDiv, Nat.reduceEqDiff, Nat.reduceBEq, Nat.reduceLeDiff, ↓reduceIte, reduceCtorEq, Int.reduceAdd, Int.reduceSub, Int.reduceLT, Int.reduceLE, Int.reduceBEq, Int.reduceEq, Int.reduceToNat, ↓cv_opD, hc3, sb_neq, undefV]
  refine GCallD.of (R' := fun _ => True) (W' := fun _ => False) (writes_ok (hd1.old k23) (fun _ => trivial)) ?_
  rintro v g4 ⟨rfl, rfl⟩
  have e4'' := (k23 h.n (by omega)).trans e4
  have d1'' := (k23 rd (Heap.lt_of_get d1)).trans d1
  simp -implicitDefEqProofs (disch := (first | omega | (simp -implicitDefEqProofs only [szs, ne_eq] <;> omega) | fail)) only [go_sem, Nat.reduceAdd, Nat.reduceSub, Nat.reduceMul, Nat.reduceLT, Nat.reduceMod, Nat.reduceDiv, Nat.reduceEqDiff, Nat.reduceBEq, Nat.reduceLeDiff, ↓reduceIte, reduceCtorEq, Int.reduceAdd, Int.reduceSub, Int.reduceLT, Int.reduceLE, Int.reduceBEq, Int.reduceEq, Int.reduceToNat, e4'', d1'', d2, d6, i64_neq, undefV]
  have k4 : ∀ b, b < h.n → g4.get b = h.get b := fun b hb => by rw [k23 b (by omega), hold b hb]
  have e5' : g4.get (h.n + 1) = some (.cells (Blk.of [.int .i64 leave]) 3) := by rw [k23 _ (by omega)]; exact e5
  have e6' : g4.get (h.n + 2) = some (.cells (Blk.of [.bool false]) 4) := by rw [k23 _ (by omega)]; exact e6
  have hb4 : BaseS g4 S bd rd h.n L D := ⟨hd1.old k23, hr1.old k23, ⟨_, e4'', rfl, rfl⟩⟩
  refine ⟨?_, ?_, ?_⟩
  · simp only [List.not_mem_nil, or_false, false_or, and_false, false_and, false_implies, implies_true, not_false_eq_true, List.mem_singleton, List.mem_cons, and_true, true_and, forall_const]
    and_intros
    all_goals (intros; omega)
  · and_intros
    all_goals (intros; first | exact .inr (hR _) | exact (by assumption : False).elim)
  refine st_secs (g0 := g4) (b4 := h.n) (b7 := g4.n) (v5 := .ptr (some (h.n + 1, 0))) (v6 := .ptr (some (h.n + 2, 0))) hb4 (fun b => .inr (hR b)) (fun b hb => .inl (by omega)) rfl ?_ (fun b hb => w_push_ne (by omega) _) (by simp) ⟨_, w_push_eq rfl _, rfl, rfl, rfl⟩ (by simp -implicitDefEqProofs (disch := (first | omega | (simp -implicitDefEqProofs only [szs, ne_eq] <;> omega) | fail)) only [go_sem, Nat.reduceAdd, Nat.reduceSub, Nat.reduceMul, Nat.reduceLT, Nat.reduceMod, Nat.reduceDiv, Nat.reduceEqDiff, Nat.reduceBEq, Nat.reduceLeDiff, ↓reduceIte, reduceCtorEq, Int.reduceAdd, Int.reduceSub, Int.reduceLT, Int.reduceLE, Int.reduceBEq, Int.reduceEq, Int.reduceToNat]) (by simp -implicitDefEqProofs (disch := (first | omega | (simp -implicitDefEqProofs only [szs, ne_eq] <;> omega) | fail)) only [go_sem, Nat.reduceAdd, Nat.reduceSub, Nat.reduceMul, Nat.reduceLT, Nat.reduceMod, Nat.reduceDiv, Nat.reduceEqDiff, Nat.reduceBEq, Nat.reduceLeDiff, ↓reduceIte, reduceCtorEq, Int.reduceAdd, Int.reduceSub, Int.reduceLT, Int.reduceLE, Int.reduceBEq, Int.reduceEq, Int.reduceToNat]) (by simp -implicitDefEqProofs (disch := (first | omega | (simp -implicitDefEqProofs only [szs, ne_eq] <;> omega) | fail)) only [go_sem, Nat.reduceAdd, Nat.reduceSub, Nat.reduceMul, Nat.reduceLT, Nat.reduceMod, Nat.reduceDiv, Nat.reduceEqDiff, Nat.reduceBEq, Nat.reduceLeDiff, ↓reduceIte, reduceCtorEq, Int.reduceAdd, Int.reduceSub, Int.reduceLT, Int.reduceLE, Int.reduceBEq, Int.reduceEq, Int.reduceToNat]) (by simp -implicitDefEqProofs (disch := (first | omega | (simp -implicitDefEqProofs only [szs, ne_eq] <;> omega) | fail)) only [go_sem, Nat.reduceAdd, Nat.reduceSub, Nat.reduceMul, Nat.reduceLT, Nat.reduceMod, Nat.reduceDiv, Nat.reduceEqDiff, Nat.reduceBEq, Nat.reduceLeDiff, ↓reduceIte, reduceCtorEq, Int.reduceAdd, Int.reduceSub, Int.reduceLT, Int.reduceLE, Int.reduceBEq, Int.reduceEq, Int.reduceToNat]) (by simp -implicitDefEqProofs (disch := (first | omega | (simp -implicitDefEqProofs only [szs, ne_eq] <;> omega) | fail)) only [go_sem, Nat.reduceAdd, Nat.reduceSub, Nat.reduceMul, Nat.reduceLT, Nat.reduceMod, Nat.reduceDiv, Nat.reduceEqDiff, Nat.reduceBEq, Nat.reduceLeDiff, ↓reduceIte, reduceCtorEq, Int.reduceAdd, Int.reduceSub, Int.reduceLT, Int.reduceLE, Int.reduceBEq, Int.reduceEq, Int.reduceToNat]) (by simp -implicitDefEqProofs (disch := (first | omega | (simp -implicitDefEqProofs only [szs, ne_eq] <;> omega) | fail)) only [go_sem, Nat.reduceAdd, Nat.reduceSub, Nat.reduceMul, Nat.reduceLT, Nat.reduceMod, Nat.reduceDiv, Nat.reduceEqDiff, Nat.reduceBEq, Nat.reduceLeDiff, ↓reduceIte, reduceCtorEq, Int.reduceAdd, Int.reduceSub, Int.reduceLT, Int.reduceLE, Int.reduceBEq, Int.reduceEq, Int.reduceToNat])
  intro tr g5 lv t0 t4 t5 t6 t7 hold5 ⟨c7, f7, z7, v7⟩ ho
  have hn5 : g4.n + 1 ≤ g5.n := by have := Heap.lt_of_get f7; omega
  simp -implicitDefEqProofs (disch := (first | omega | (simp -implicitDefEqProofs only [szs, ne_eq] <;> omega) | fail)) only [go_sem, Nat.reduceAdd, Nat.reduceSub, Nat.reduceMul, Nat.reduceLT, Nat.reduceMod, Nat.reduceDiv, Nat.reduceEqDiff, Nat.reduceBEq, Nat.reduceLeDiff, ↓reduceIte, reduceCtorEq, Int.reduceAdd, Int.reduceSub, Int.reduceLT, Int.reduceLE, Int.reduceBEq, Int.reduceEq, Int.reduceToNat, t0]
  refine GCall.of dirty_ok.any ?_
  rintro v g6 ⟨rfl, eg6⟩
  have n6 : g6.n = g5.n + 1 := by rw [eg6]; simp
  have k6 : ∀ b, b < g5.n → g6.get b = g5.get b := fun b hb => by rw [eg6]; exact w_push_ne (by omega) _
  have c6 : g6.get g5.n = some (.cells (Blk.of [.ptr (some (bd, 0))]) 26) := by rw [eg6]; exact w_push_eq rfl _
  have k46 : ∀ b, b < g4.n → g6.get b = g4.get b := fun b hb => by rw [k6 b (by omega), hold5 b hb]
  simp -implicitDefEqProofs (disch := (first | omega | (simp -implicitDefEqProofs only [szs, ne_eq] <;> omega) | fail)) only [go_sem, Nat.reduceAdd, Nat.reduceSub, Nat.reduceMul, Nat.reduceLT, Nat.reduceMod, Nat.reduceDiv, Nat.reduceEqDiff, Nat.reduceBEq, Nat.reduceLeDiff, ↓reduceIte, reduceCtorEq, Int.reduceAdd, Int.reduceSub, Int.reduceLT, Int.reduceLE, Int.reduceBEq, Int.reduceEq, Int.reduceToNat, t0, t4, t5, t6, t7]
  have hB : Base g6 S bd rd g5.n h.n (h.n + 1) g4.n L D lv leave := ⟨hb4.d.old k46, hb4.r.old k46, (ho.lr.mono fun _ _ _ => trivial).old k6, c6, ⟨_, by rw [k46 _ (by omega)]; exact e4'', rfl, rfl⟩, ⟨_, by rw [k46 _ (by omega)]; exact e5', rfl, rfl⟩, ⟨c7, by rw [k6 _ (by omega)]; exact f7, z7, v7⟩⟩
  refine ⟨.inl (by omega), st_turns (g0 := g6) (b16 := g6.n) (v6 := .ptr (some (h.n + 2, 0))) hB (fun b => .inr (hR b)) (fun b hb => .inl (by omega)) ?_ (fun b hb => by rw [w_set_ne (by simp) (by omega), w_push_ne (by omega)]) (by simp) (Nat.le_refl _) ⟨_, w_set_eq (by simp) rfl _, rfl, rfl, w_bset_eq rfl _⟩ (by simp -implicitDefEqProofs (disch := (first | omega | (simp -implicitDefEqProofs only [szs, ne_eq] <;> omega) | fail)) only [go_sem, Nat.reduceAdd, Nat.reduceSub, Nat.reduceMul, Nat.reduceLT, Nat.reduceMod, Nat.reduceDiv, Nat.reduceEqDiff, Nat.reduceBEq, Nat.reduceLeDiff, ↓reduceIte, reduceCtorEq, Int.reduceAdd, Int.reduceSub, Int.reduceLT, Int.reduceLE, Int.reduceBEq, Int.reduceEq, Int.reduceToNat, t4]) (by simp -implicitDefEqProofs (disch := (first | omega | (simp -implicitDefEqProofs only [szs, ne_eq] <;> omega) | fail)) only [go_sem, Nat.reduceAdd, Nat.reduceSub, Nat.reduceMul, Nat.reduceLT, Nat.reduceMod, Nat.reduceDiv, Nat.reduceEqDiff, Nat.reduceBEq, Nat.reduceLeDiff, ↓reduceIte, reduceCtorEq, Int.reduceAdd, Int.reduceSub, Int.reduceLT, Int.reduceLE, Int.reduceBEq, Int.reduceEq, Int.reduceToNat, t5]) (by simp -implicitDefEqProofs (disch := (first | omega | (simp -implicitDefEqProofs only [szs, ne_eq] <;> omega) | fail)) only [go_sem, Nat.reduceAdd, Nat.reduceSub, Nat.reduceMul, Nat.reduceLT, Nat.reduceMod, Nat.reduceDiv, Nat.reduceEqDiff, Nat.reduceBEq, Nat.reduceLeDiff, ↓reduceIte, reduceCtorEq, Int.reduceAdd, Int.reduceSub, Int.reduceLT, Int.reduceLE, Int.reduceBEq, Int.reduceEq, Int.reduceToNat, t6]) (by simp -implicitDefEqProofs (disch := (first | omega | (simp -implicitDefEqProofs only [szs, ne_eq] <;> omega) | fail)) only [go_sem, Nat.reduceAdd, Nat.reduceSub, Nat.reduceMul, Nat.reduceLT, Nat.reduceMod, Nat.reduceDiv, Nat.reduceEqDiff, Nat.reduceBEq, Nat.reduceLeDiff, ↓reduceIte, reduceCtorEq, Int.reduceAdd, Int.reduceSub, Int.reduceLT, Int.reduceLE, Int.reduceBEq, Int.reduceEq, Int.reduceToNat, t7]) (by simp -implicitDefEqProofs (disch := (first | omega | (simp -implicitDefEqProofs only [szs, ne_eq] <;> omega) | fail)) only [go_sem, Nat.reduceAdd, Nat.reduceSub, Nat.reduceMul, Nat.reduceLT, Nat.reduceMod, Nat.reduceDiv, Nat.reduceEqDiff, Nat.reduceBEq, Nat.reduceLeDiff, ↓reduceIte, reduceCtorEq, Int.reduceAdd, Int.reduceSub, Int.reduceLT, Int.reduceLE, Int.reduceBEq, Int.reduceEq, Int.reduceToNat]) (by simp -implicitDefEqProofs (disch := (first | omega | (simp -implicitDefEqProofs only [szs, ne_eq] <;> omega) | fail)) only [go_sem, Nat.reduceAdd, Nat.reduceSub, Nat.reduceMul, Nat.reduceLT, Nat.reduceMod, Nat.reduceDiv, Nat.reduceEqDiff, Nat.reduceBEq, Nat.reduceLeDiff, ↓reduceIte, reduceCtorEq, Int.reduceAdd, Int.reduceSub, Int.reduceLT, Int.reduceLE, Int.reduceBEq, Int.reduceEq, Int.reduceToNat])⟩
  intro tr2 g7 m0 m1 u6 hold7 hm0 hm1 hne d0 d1m
  have e7 : g7.get (h.n + 2) = some (.cells (Blk.of [.bool false]) 4) := by rw [hold7 _ (by omega), k46 _ (by omega)]; exact e6'
  have hl7 := Heap.lt_of_get e7
  have hl0 := Heap.lt_of_get d0
  have hl1 := Heap.lt_of_get d1m
  have hR6 := hR (h.n + 2)
  simp -implicitDefEqProofs (disch := (first | omega | (simp -implicitDefEqProofs only [szs, ne_eq] <;> omega) | fail)) only [go_sem, Nat.reduceAdd, Nat.reduceSub, Nat.reduceMul, Nat.reduceLT, Nat.reduceMod, Nat.reduceDiv, Nat.reduceEqDiff, Nat.reduceBEq, Nat.reduceLeDiff, ↓reduceIte, reduceCtorEq, Int.reduceAdd, Int.reduceSub, Int.reduceLT, Int.reduceLE, Int.reduceBEq, Int.reduceEq, Int.reduceToNat, u6, e7, takeH, d0, d1m, hR6]
  refine ⟨.inl (by omega), .inl (by omega), fun b hb => ?_⟩
  rw [w_set_ne (by simp; omega) (by omega), w_set_ne (by simp; omega) (by omega), w_set_ne hl7 (by omega), hold7 b (by omega), k46 b (by omega), k4 b hb]
end Go.Proofs.Ytgkcbpagdfdpdaa
