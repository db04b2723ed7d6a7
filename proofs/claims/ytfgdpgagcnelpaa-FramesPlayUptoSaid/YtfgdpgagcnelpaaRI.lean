/- FramesPlay: the law. -/
import Derived.Test.YtfgdpgagcnelpaaRH
import Derived.Test.YtfgdpgagcnelpaaKn
import Derived.Test.YtfgdpgagcnelpaaV4
set_option linter.unusedVariables false
set_option linter.unusedSimpArgs false
set_option linter.unusedSimpArgs false
set_option maxRecDepth 100000
set_option linter.unusedVariables false
set_option linter.unusedSimpArgs false
namespace Go.Proofs.Ytfgdpgagcnelpaa
open Go Go.Vm
theorem known_ok (h : Heap) (R W : Set') : SF Try.prog 9 [] h R W fun v h' => v = .bool true ∧ h' = h := SF.closedH hm noHook_ok known_run h R W
set_option maxHeartbeats 2000000 in
theorem does_nil {h : Heap} {R W Rv : Set'} {mm : Nat} (hmm : mm ≤ h.n) (hR : ∀ b, R b) {kd k1 k2 : Int} {d : V} {m : Nat} {g : Nat → Int} (hv : BytesV h Rv d m g) (hm8 : m ≤ 1048576) :
    SF ⟨Try.prog, true⟩ 27 [.ptr none, .ptr none, .agg [.int .i64 kd, .int .i64 k1, .int .i64 k2, d]] h R W fun v h' => v = .bool true ∧ h.n ≤ h'.n ∧ (∀ b, b < mm → h'.get b = h.get b) := by
  obtain ⟨h1, e1, n1, b1, kk1⟩ : ∃ h1, h.push (.cells (Blk.of [.int .i64 kd, .int .i64 k1, .int .i64 k2, d]) 37) = h1 ∧ h1.n = h.n + 1 ∧ h1.get h.n = some (.cells (Blk.of [.int .i64 kd, .int .i64 k1, .int .i64 k2, d]) 37) ∧ ∀ b, b < h.n → h1.get b = h.get b := ⟨_, rfl, by simp, w_push_eq rfl _, fun b hb => w_push_ne (by omega) _⟩
  have hdl : d.one = true ∧ d.cellsV = [d] := by
    rcases hv.at' with ⟨_, rfl | ⟨a, rfl⟩⟩ | ⟨b, o, cap, c, ce, rfl, _⟩ <;> exact ⟨rfl, rfl⟩
  have hRn := hR h.n
  have hbb : ∀ x : Bool, (x == x) = true := fun x => by cases x <;> rfl
  have hxx : ∀ x : Int, (x == x) = true := fun x => by simp
  have fin : h.n ≤ h1.n ∧ ∀ b, b < mm → h1.get b = h.get b := ⟨by omega, fun b hb => kk1 b (by omega)⟩
  refine SF.go hm Try.func27 ir27_eq ?_
  by_cases d1 : kd = 1
  · subst d1
    simp -implicitDefEqProofs (disch := (first | omega | (simp -implicitDefEqProofs only [szs, ne_eq] <;> omega) | fail)) only [go_sem, Nat.reduceAdd, Nat.reduceSub, Nat.reduceMul, Nat.reduceLT, Nat.reduceMod, Nat.reduceDiv, Nat.reduceEqDiff, Nat.reduceBEq, Nat.reduceLeDiff, ↓reduceIte, reduceCtorEq, Int.reduceAdd, Int.reduceSub, Int.reduceLT, Int.reduceLE, Int.reduceBEq, Int.reduceEq, Int.reduceToNat, ir27, e1, b1, hRn, hdl.1, hdl.2]
    refine GCall.of (SF.any (grant_nil k1)) ?_
    rintro v g2 ⟨rfl, rfl⟩
    simp -implicitDefEqProofs (disch := (first | omega | (simp -implicitDefEqProofs only [szs, ne_eq] <;> omega) | fail)) only [go_sem, Nat.reduceAdd, Nat.reduceSub, Nat.reduceMul, Nat.reduceLT, Nat.reduceMod, Nat.reduceDiv, Nat.reduceEqDiff, Nat.reduceBEq, Nat.reduceLeDiff, ↓reduceIte, reduceCtorEq, Int.reduceAdd, Int.reduceSub, Int.reduceLT, Int.reduceLE, Int.reduceBEq, Int.reduceEq, Int.reduceToNat, b1, hRn]
    refine GCall.of (SF.any (rgrant_nil k1)) ?_
    rintro v g3 ⟨rfl, rfl⟩
    simp -implicitDefEqProofs (disch := (first | omega | (simp -implicitDefEqProofs only [szs, ne_eq] <;> omega) | fail)) only [go_sem, Nat.reduceAdd, Nat.reduceSub, Nat.reduceMul, Nat.reduceLT, Nat.reduceMod, Nat.reduceDiv, Nat.reduceEqDiff, Nat.reduceBEq, Nat.reduceLeDiff, ↓reduceIte, reduceCtorEq, Int.reduceAdd, Int.reduceSub, Int.reduceLT, Int.reduceLE, Int.reduceBEq, Int.reduceEq, Int.reduceToNat, hxx, undefV]
    exact fin
  by_cases d3 : kd = 3
  · subst d3
    simp -implicitDefEqProofs (disch := (first | omega | (simp -implicitDefEqProofs only [szs, ne_eq] <;> omega) | fail)) only [go_sem, Nat.reduceAdd, Nat.reduceSub, Nat.reduceMul, Nat.reduceLT, Nat.reduceMod, Nat.reduceDiv, Nat.reduceEqDiff, Nat.reduceBEq, Nat.reduceLeDiff, ↓reduceIte, reduceCtorEq, Int.reduceAdd, Int.reduceSub, Int.reduceLT, Int.reduceLE, Int.reduceBEq, Int.reduceEq, Int.reduceToNat, ir27, e1, b1, hRn, hdl.1, hdl.2]
    refine GCall.of (SF.any (drop_nil k1)) ?_
    rintro v g2 ⟨rfl, rfl⟩
    simp -implicitDefEqProofs (disch := (first | omega | (simp -implicitDefEqProofs only [szs, ne_eq] <;> omega) | fail)) only [go_sem, Nat.reduceAdd, Nat.reduceSub, Nat.reduceMul, Nat.reduceLT, Nat.reduceMod, Nat.reduceDiv, Nat.reduceEqDiff, Nat.reduceBEq, Nat.reduceLeDiff, ↓reduceIte, reduceCtorEq, Int.reduceAdd, Int.reduceSub, Int.reduceLT, Int.reduceLE, Int.reduceBEq, Int.reduceEq, Int.reduceToNat, b1, hRn]
    refine GCall.of (SF.any (rdrop_nil k1)) ?_
    rintro v g3 ⟨rfl, rfl⟩
    simp -implicitDefEqProofs (disch := (first | omega | (simp -implicitDefEqProofs only [szs, ne_eq] <;> omega) | fail)) only [go_sem, Nat.reduceAdd, Nat.reduceSub, Nat.reduceMul, Nat.reduceLT, Nat.reduceMod, Nat.reduceDiv, Nat.reduceEqDiff, Nat.reduceBEq, Nat.reduceLeDiff, ↓reduceIte, reduceCtorEq, Int.reduceAdd, Int.reduceSub, Int.reduceLT, Int.reduceLE, Int.reduceBEq, Int.reduceEq, Int.reduceToNat, hxx, hbb, undefV]
    exact fin
  by_cases d4 : kd = 4
  · subst d4
    simp -implicitDefEqProofs (disch := (first | omega | (simp -implicitDefEqProofs only [szs, ne_eq] <;> omega) | fail)) only [go_sem, Nat.reduceAdd, Nat.reduceSub, Nat.reduceMul, Nat.reduceLT, Nat.reduceMod, Nat.reduceDiv, Nat.reduceEqDiff, Nat.reduceBEq, Nat.reduceLeDiff, ↓reduceIte, reduceCtorEq, Int.reduceAdd, Int.reduceSub, Int.reduceLT, Int.reduceLE, Int.reduceBEq, Int.reduceEq, Int.reduceToNat, ir27, e1, b1, hRn, hdl.1, hdl.2]
    refine GCall.of (drops_nil k1) ?_
    rintro v g2 ⟨rfl, n2, k2⟩
    simp -implicitDefEqProofs (disch := (first | omega | (simp -implicitDefEqProofs only [szs, ne_eq] <;> omega) | fail)) only [go_sem, Nat.reduceAdd, Nat.reduceSub, Nat.reduceMul, Nat.reduceLT, Nat.reduceMod, Nat.reduceDiv, Nat.reduceEqDiff, Nat.reduceBEq, Nat.reduceLeDiff, ↓reduceIte, reduceCtorEq, Int.reduceAdd, Int.reduceSub, Int.reduceLT, Int.reduceLE, Int.reduceBEq, Int.reduceEq, Int.reduceToNat, (k2 h.n (by omega)).trans b1, hRn]
    refine GCall.of (SF.any (rdrops_nil k1)) ?_
    rintro v g3 ⟨rfl, rfl⟩
    simp -implicitDefEqProofs (disch := (first | omega | (simp -implicitDefEqProofs only [szs, ne_eq] <;> omega) | fail)) only [go_sem, Nat.reduceAdd, Nat.reduceSub, Nat.reduceMul, Nat.reduceLT, Nat.reduceMod, Nat.reduceDiv, Nat.reduceEqDiff, Nat.reduceBEq, Nat.reduceLeDiff, ↓reduceIte, reduceCtorEq, Int.reduceAdd, Int.reduceSub, Int.reduceLT, Int.reduceLE, Int.reduceBEq, Int.reduceEq, Int.reduceToNat, hxx, hbb, undefV]
    exact ⟨by omega, fun b hb => by rw [k2 b (by omega)]; exact kk1 b (by omega)⟩
  by_cases d2 : kd = 2
  · subst d2
    simp -implicitDefEqProofs (disch := (first | omega | (simp -implicitDefEqProofs only [szs, ne_eq] <;> omega) | fail)) only [go_sem, Nat.reduceAdd, Nat.reduceSub, Nat.reduceMul, Nat.reduceLT, Nat.reduceMod, Nat.reduceDiv, Nat.reduceEqDiff, Nat.reduceBEq, Nat.reduceLeDiff, ↓reduceIte, reduceCtorEq, Int.reduceAdd, Int.reduceSub, Int.reduceLT, Int.reduceLE, Int.reduceBEq, Int.reduceEq, Int.reduceToNat, ir27, e1, b1, hRn, hdl.1, hdl.2]
    refine GCallD.of (R' := fun _ => True) (W' := fun _ => False) (hold_nil k1) ?_
    rintro v g2 ⟨rfl, rfl⟩
    simp -implicitDefEqProofs (disch := (first | omega | (simp -implicitDefEqProofs only [szs, ne_eq] <;> omega) | fail)) only [go_sem, Nat.reduceAdd, Nat.reduceSub, Nat.reduceMul, Nat.reduceLT, Nat.reduceMod, Nat.reduceDiv, Nat.reduceEqDiff, Nat.reduceBEq, Nat.reduceLeDiff, ↓reduceIte, reduceCtorEq, Int.reduceAdd, Int.reduceSub, Int.reduceLT, Int.reduceLE, Int.reduceBEq, Int.reduceEq, Int.reduceToNat, b1, hRn]
    refine GCallD.of (R' := fun _ => True) (W' := fun _ => False) (rhold_nil k1) ?_
    rintro v g3 ⟨rfl, rfl⟩
    simp -implicitDefEqProofs (disch := (first | omega | (simp -implicitDefEqProofs only [szs, ne_eq] <;> omega) | fail)) only [go_sem, Nat.reduceAdd, Nat.reduceSub, Nat.reduceMul, Nat.reduceLT, Nat.reduceMod, Nat.reduceDiv, Nat.reduceEqDiff, Nat.reduceBEq, Nat.reduceLeDiff, ↓reduceIte, reduceCtorEq, Int.reduceAdd, Int.reduceSub, Int.reduceLT, Int.reduceLE, Int.reduceBEq, Int.reduceEq, Int.reduceToNat, hxx, undefV]
    refine ⟨?_, ⟨fun b _ _ => .inr (hR b), fun b _ h => h.elim, fun b _ _ => .inr (hR b), fun b _ h => h.elim⟩, fin⟩
    simp only [List.not_mem_nil, or_false, false_or, and_false, false_and, false_implies, implies_true, not_false_eq_true, List.mem_singleton, List.mem_cons, and_true, true_and]
    all_goals (try and_intros)
    all_goals (intros; omega)
  by_cases d6 : kd = 6
  · subst d6
    simp -implicitDefEqProofs (disch := (first | omega | (simp -implicitDefEqProofs only [szs, ne_eq] <;> omega) | fail)) only [go_sem, Nat.reduceAdd, Nat.reduceSub, Nat.reduceMul, Nat.reduceLT, Nat.reduceMod, Nat.reduceDiv, Nat.reduceEqDiff, Nat.reduceBEq, Nat.reduceLeDiff, ↓reduceIte, reduceCtorEq, Int.reduceAdd, Int.reduceSub, Int.reduceLT, Int.reduceLE, Int.reduceBEq, Int.reduceEq, Int.reduceToNat, ir27, e1, b1, hRn, hdl.1, hdl.2]
    refine GCallD.of (R' := fun _ => True) (W' := fun _ => False) (copy_nil k1 k2) ?_
    rintro v g2 ⟨rfl, rfl⟩
    simp -implicitDefEqProofs (disch := (first | omega | (simp -implicitDefEqProofs only [szs, ne_eq] <;> omega) | fail)) only [go_sem, Nat.reduceAdd, Nat.reduceSub, Nat.reduceMul, Nat.reduceLT, Nat.reduceMod, Nat.reduceDiv, Nat.reduceEqDiff, Nat.reduceBEq, Nat.reduceLeDiff, ↓reduceIte, reduceCtorEq, Int.reduceAdd, Int.reduceSub, Int.reduceLT, Int.reduceLE, Int.reduceBEq, Int.reduceEq, Int.reduceToNat, b1, hRn]
    refine GCallD.of (R' := fun _ => True) (W' := fun _ => False) (rcopy_nil k1 k2) ?_
    rintro v g3 ⟨rfl, rfl⟩
    simp -implicitDefEqProofs (disch := (first | omega | (simp -implicitDefEqProofs only [szs, ne_eq] <;> omega) | fail)) only [go_sem, Nat.reduceAdd, Nat.reduceSub, Nat.reduceMul, Nat.reduceLT, Nat.reduceMod, Nat.reduceDiv, Nat.reduceEqDiff, Nat.reduceBEq, Nat.reduceLeDiff, ↓reduceIte, reduceCtorEq, Int.reduceAdd, Int.reduceSub, Int.reduceLT, Int.reduceLE, Int.reduceBEq, Int.reduceEq, Int.reduceToNat, hxx, undefV]
    refine ⟨?_, ⟨fun b _ _ => .inr (hR b), fun b _ h => h.elim, fun b _ _ => .inr (hR b), fun b _ h => h.elim⟩, fin⟩
    simp only [List.not_mem_nil, or_false, false_or, and_false, false_and, false_implies, implies_true, not_false_eq_true, List.mem_singleton, List.mem_cons, and_true, true_and]
    all_goals (try and_intros)
    all_goals (intros; omega)
  by_cases d5 : kd = 5
  · subst d5
    simp -implicitDefEqProofs (disch := (first | omega | (simp -implicitDefEqProofs only [szs, ne_eq] <;> omega) | fail)) only [go_sem, Nat.reduceAdd, Nat.reduceSub, Nat.reduceMul, Nat.reduceLT, Nat.reduceMod, Nat.reduceDiv, Nat.reduceEqDiff, Nat.reduceBEq, Nat.reduceLeDiff, ↓reduceIte, reduceCtorEq, Int.reduceAdd, Int.reduceSub, Int.reduceLT, Int.reduceLE, Int.reduceBEq, Int.reduceEq, Int.reduceToNat, ir27, e1, b1, hRn, hdl.1, hdl.2]
    have hvT : BytesV h (fun b => b < h.n) d m g := ⟨hv.len, hv.at'.imp id fun ⟨b, o, cap, c, ce, e, _, hb, r⟩ => ⟨b, o, cap, c, ce, e, Heap.lt_of_get hb, hb, r⟩⟩
    refine GCall.of (SF.any (lent_ok (hvT.oldR fun b hb _ => kk1 b hb) hm8 (fun b => .inr (hR b)))) ?_
    rintro xl g1 ⟨nb, hnb, hl, nn1, kk2⟩
    have kk12 : ∀ b, b < h.n → g1.get b = h.get b := fun b hb => by rw [kk2 b (by omega), kk1 b hb]
    have b12 := (kk2 h.n (by omega)).trans b1
    simp -implicitDefEqProofs (disch := (first | omega | (simp -implicitDefEqProofs only [szs, ne_eq] <;> omega) | fail)) only [go_sem, Nat.reduceAdd, Nat.reduceSub, Nat.reduceMul, Nat.reduceLT, Nat.reduceMod, Nat.reduceDiv, Nat.reduceEqDiff, Nat.reduceBEq, Nat.reduceLeDiff, ↓reduceIte, reduceCtorEq, Int.reduceAdd, Int.reduceSub, Int.reduceLT, Int.reduceLE, Int.reduceBEq, Int.reduceEq, Int.reduceToNat, b12, hRn]
    refine GCallD.of (R' := fun _ => True) (W' := fun _ => False) (put_nil k1 k2 xl) ?_
    rintro v g2 ⟨rfl, rfl⟩
    simp -implicitDefEqProofs (disch := (first | omega | (simp -implicitDefEqProofs only [szs, ne_eq] <;> omega) | fail)) only [go_sem, Nat.reduceAdd, Nat.reduceSub, Nat.reduceMul, Nat.reduceLT, Nat.reduceMod, Nat.reduceDiv, Nat.reduceEqDiff, Nat.reduceBEq, Nat.reduceLeDiff, ↓reduceIte, reduceCtorEq, Int.reduceAdd, Int.reduceSub, Int.reduceLT, Int.reduceLE, Int.reduceBEq, Int.reduceEq, Int.reduceToNat, b12, hRn]
    refine GCallD.of (R' := fun _ => True) (W' := fun _ => False) (rput_nil k1 k2 d) ?_
    rintro v g3 ⟨rfl, rfl⟩
    simp -implicitDefEqProofs (disch := (first | omega | (simp -implicitDefEqProofs only [szs, ne_eq] <;> omega) | fail)) only [go_sem, Nat.reduceAdd, Nat.reduceSub, Nat.reduceMul, Nat.reduceLT, Nat.reduceMod, Nat.reduceDiv, Nat.reduceEqDiff, Nat.reduceBEq, Nat.reduceLeDiff, ↓reduceIte, reduceCtorEq, Int.reduceAdd, Int.reduceSub, Int.reduceLT, Int.reduceLE, Int.reduceBEq, Int.reduceEq, Int.reduceToNat, hxx, undefV, b12, hRn]
    refine ⟨?_, ⟨fun b _ _ => .inr (hR b), fun b _ h => h.elim, fun b _ _ => .inr (hR b), fun b _ h => h.elim⟩, ?_⟩
    · simp only [List.not_mem_nil, or_false, false_or, and_false, false_and, false_implies, implies_true, not_false_eq_true, List.mem_singleton, List.mem_cons, and_true, true_and]
      all_goals (try and_intros)
      all_goals (intros; omega)
    refine GCall.of (SF.any (byte_nil k1 k2)) ?_
    rintro v g4 ⟨rfl, rfl⟩
    simp -implicitDefEqProofs (disch := (first | omega | (simp -implicitDefEqProofs only [szs, ne_eq] <;> omega) | fail)) only [go_sem, Nat.reduceAdd, Nat.reduceSub, Nat.reduceMul, Nat.reduceLT, Nat.reduceMod, Nat.reduceDiv, Nat.reduceEqDiff, Nat.reduceBEq, Nat.reduceLeDiff, ↓reduceIte, reduceCtorEq, Int.reduceAdd, Int.reduceSub, Int.reduceLT, Int.reduceLE, Int.reduceBEq, Int.reduceEq, Int.reduceToNat, b12, hRn]
    refine GCall.of (SF.any (rbyte_nil k1 k2)) ?_
    rintro v g5 ⟨rfl, rfl⟩
    simp -implicitDefEqProofs (disch := (first | omega | (simp -implicitDefEqProofs only [szs, ne_eq] <;> omega) | fail)) only [go_sem, Nat.reduceAdd, Nat.reduceSub, Nat.reduceMul, Nat.reduceLT, Nat.reduceMod, Nat.reduceDiv, Nat.reduceEqDiff, Nat.reduceBEq, Nat.reduceLeDiff, ↓reduceIte, reduceCtorEq, Int.reduceAdd, Int.reduceSub, Int.reduceLT, Int.reduceLE, Int.reduceBEq, Int.reduceEq, Int.reduceToNat, b12, hRn]
    refine GCall.of (SF.any (left_ok (hvT.oldR fun b hb _ => kk12 b hb) hm8 hl (fun b => .inr (hR b)) (.inl (by omega)))) ?_
    rintro v g6 ⟨rfl, n6, k6⟩
    simp -implicitDefEqProofs (disch := (first | omega | (simp -implicitDefEqProofs only [szs, ne_eq] <;> omega) | fail)) only [go_sem, Nat.reduceAdd, Nat.reduceSub, Nat.reduceMul, Nat.reduceLT, Nat.reduceMod, Nat.reduceDiv, Nat.reduceEqDiff, Nat.reduceBEq, Nat.reduceLeDiff, ↓reduceIte, reduceCtorEq, Int.reduceAdd, Int.reduceSub, Int.reduceLT, Int.reduceLE, Int.reduceBEq, Int.reduceEq, Int.reduceToNat, undefV, hxx]
    exact ⟨by omega, fun b hb => by rw [k6 b (by omega)]; exact kk12 b (by omega)⟩
  have q1 : (kd == 1) = false := by simpa using d1
  have q2 : (kd == 2) = false := by simpa using d2
  have q3 : (kd == 3) = false := by simpa using d3
  have q4 : (kd == 4) = false := by simpa using d4
  have q5 : (kd == 5) = false := by simpa using d5
  have q6 : (kd == 6) = false := by simpa using d6
  simp -implicitDefEqProofs (disch := (first | omega | (simp -implicitDefEqProofs only [szs, ne_eq] <;> omega) | fail)) only [go_sem, Nat.reduceAdd, Nat.reduceSub, Nat.reduceMul, Nat.reduceLT, Nat.reduceMod, Nat.reduceDiv, Nat.reduceEqDiff, Nat.reduceBEq, Nat.reduceLeDiff, ↓reduceIte, reduceCtorEq, Int.reduceAdd, Int.reduceSub, Int.reduceLT, Int.reduceLE, Int.reduceBEq, Int.reduceEq, Int.reduceToNat, ir27, e1, b1, hRn, hdl.1, hdl.2, q1, q2, q3, q4, q5, q6]
  exact fin
/-- Two pools: both not there, or alike. -/
def PV (g : Heap) (m : Nat) (x y : V) : Prop := (x = .ptr none ∧ y = .ptr none) ∨ ∃ bp n0 rd L rl S bv, x = .ptr (some (bp, 0)) ∧ y = .ptr (some (rd, 0)) ∧ PairV g m bp n0 rd L rl S bv
theorem PairV.old {g g' : Heap} {m bp n0 rd : Nat} {L : PL} {rl : RL} {S : PS} {bv : Nat → V} (h : PairV g m bp n0 rd L rl S bv) (hn : g.n ≤ g'.n) (hk : ∀ b, b < g.n → g'.get b = g.get b) : PairV g' m bp n0 rd L rl S bv :=
  ⟨h.p.old hk, h.r.old hn hk, h.w, h.na, h.lo, h.hi⟩
theorem PV.old {g g' : Heap} {m : Nat} {x y : V} (h : PV g m x y) (hn : g.n ≤ g'.n) (hk : ∀ b, b < g.n → g'.get b = g.get b) : PV g' m x y := by
  rcases h with h | ⟨bp, n0, rd, L, rl, S, bv, h1, h2, h3⟩
  · exact .inl h
  · exact .inr ⟨bp, n0, rd, L, rl, S, bv, h1, h2, h3.old hn hk⟩
theorem does_pv {h : Heap} {R W Rv : Set'} {mm : Nat} {x y : V} (hx : PV h mm x y) (hmm : mm ≤ h.n) (hR : ∀ b, R b) (hW : ∀ b, mm ≤ b → W b) {kd k1 k2 : Int} {d : V} {m : Nat} {g : Nat → Int} (hv : BytesV h Rv d m g) (hm8 : m ≤ 1048576) (hRv : ∀ b, Rv b → b < mm) :
    SF ⟨Try.prog, true⟩ 27 [x, y, .agg [.int .i64 kd, .int .i64 k1, .int .i64 k2, d]] h R W fun v h' => v = .bool true ∧ h.n ≤ h'.n ∧ (∀ b, b < mm → h'.get b = h.get b) ∧ PV h' mm x y := by
  rcases hx with ⟨rfl, rfl⟩ | ⟨bp, n0, rd, L, rl, S, bv, rfl, rfl, h3⟩
  · refine (does_nil hmm hR hv hm8).mono ?_
    rintro v h' ⟨h1, h2, h3⟩
    exact ⟨h1, h2, h3, .inl ⟨rfl, rfl⟩⟩
  · refine (does_ok h3 hR hW hv hm8 hRv).mono ?_
    rintro v h' ⟨h1, h2, h3, S', bv', h4⟩
    exact ⟨h1, h2, h3, .inr ⟨bp, n0, rd, L, rl, S', bv', rfl, rfl, h4⟩⟩
theorem stands_pv {h : Heap} {R W : Set'} {mm : Nat} {x y : V} (hx : PV h mm x y) (hR : ∀ b, R b) (leave : Int) :
    SF ⟨Try.prog, true⟩ 24 [x, y, .int .i64 leave] h R W fun v h' => v = .bool true ∧ h.n ≤ h'.n ∧ ∀ b, b < h.n → h'.get b = h.get b := by
  rcases hx with ⟨rfl, rfl⟩ | ⟨bp, n0, rd, L, rl, S, bv, rfl, rfl, h3⟩
  · exact stands_nil hR leave
  · exact stands_dem h3.p h3.r h3.w hR leave
theorem pclone_pv {h : Heap} {R W : Set'} {mm : Nat} {x y : V} (hx : PV h mm x y) (hR : ∀ b, R b) :
    SF Try.prog 25 [x] h R W fun x' h' => h.n ≤ h'.n ∧ (∀ b, b < h.n → h'.get b = h.get b) ∧ ((x' = .ptr none ∧ y = .ptr none) ∨ ∃ bp' L' S n0 rd rl bv, x' = .ptr (some (bp', 0)) ∧ y = .ptr (some (rd, 0)) ∧ PoolAt h' bp' L' S ∧ RPool h n0 rd rl S bv ∧ WF S ∧ (1 ≤ S.na ∧ S.na ≤ 8) ∧ h.n ≤ bp' ∧ h.n ≤ L'.fb ∧ h.n ≤ L'.qb ∧ h.n ≤ L'.ub) := by
  rcases hx with ⟨rfl, rfl⟩ | ⟨bp, n0, rd, L, rl, S, bv, rfl, rfl, h3⟩
  · refine clone_nil.mono ?_
    rintro v h' ⟨rfl, rfl⟩
    exact ⟨Nat.le_refl _, fun _ _ => rfl, .inl ⟨rfl, rfl⟩⟩
  · refine (clone_ok h3.p h3.w h3.na hR).mono ?_
    rintro v h' ⟨bp', L', rfl, h4, h5, h6, h7, h8, h9, h10⟩
    exact ⟨h9, h10, .inr ⟨bp', L', S, n0, rd, rl, bv, rfl, rfl, h4, h3.r, h3.w, h3.na, h5, h6, h7, h8⟩⟩
structure StepsU (h : Heap) (v : V) (m : Nat) : Prop where
  len : m ≤ 9223372036854775807
  at' : (m = 0 ∧ (v = .slice none 0 0 true ∨ ∃ a, v = .esl a)) ∨ ∃ b o cap c ce, v = .slice (some (b, o)) m cap true ∧ h.get b = some (.cells c ce) ∧ o + m * 4 ≤ c.size ∧ ∀ i, i < m → ∃ kd n1 n2 d ml g, c.get (o + i * 4) = .int .i64 kd ∧ c.get (o + i * 4 + 1) = .int .i64 n1 ∧ c.get (o + i * 4 + 2) = .int .i64 n2 ∧ c.get (o + i * 4 + 3) = d ∧ BytesV h (fun b => b < h.n) d ml g ∧ ml ≤ 1048576
theorem StepsU.lenV {h : Heap} {v : V} {m : Nat} (hv : StepsU h v m) (k : Heap) : lenV Try.prog 34 v k = some (m, []) := by
  rcases hv.at' with ⟨rfl, rfl | ⟨a, rfl⟩⟩ | ⟨b, o, cap, c, ce, rfl, _⟩ <;> simp [Vm.lenV, Try.underlying34]
/-- The pair that a Clone left behind. -/
def OldV (g : Heap) (m : Nat) (x y : V) : Prop := y = .ptr none ∨ ∃ hc m0, PV hc m0 x y ∧ hc.n ≤ m ∧ ∀ b, b < hc.n → g.get b = hc.get b
theorem OldV.keep {g g' : Heap} {m m' : Nat} {x y : V} (h : OldV g m x y) (hm' : m ≤ m') (hk : ∀ b, b < m → g'.get b = g.get b) : OldV g' m' x y := by
  rcases h with h | ⟨hc, m0, h1, h2, h3⟩
  · exact .inl h
  · exact .inr ⟨hc, m0, h1, by omega, fun b hb => by rw [hk b (by omega)]; exact h3 b hb⟩
def WH (H : Heap) : Set' := fun b => H.n ≤ b
end Go.Proofs.Ytfgdpgagcnelpaa
