/- The pool: hold, free, drop. -/
import Derived.Test.YtfgdpgagcnelpaaB
set_option maxRecDepth 100000
set_option linter.unusedVariables false
set_option linter.unusedSimpArgs false
namespace Go.Proofs.Ytfgdpgagcnelpaa
open Go Go.Vm

theorem hold_ok {h : Heap} {R W : Set'} {bp : Nat} {L : PL} {S : PS} (hp : PoolAt h bp L S) (hR : R bp) (hRf : R L.fb) (hWf : W L.fb) (i : Nat) (hi : i < S.n) (ho : S.ho i ≠ 0) (h1 : S.ho i ≠ 65535) (h2 : 0 ≤ S.ho i ∧ S.ho i ≤ 65535) :
    SF Try.prog 12 [.ptr (some (bp, 0)), .int .i64 i] h R W fun v h' => v = .int .i64 0 ∧ PoolAt h' bp L (S.setHo i (S.ho i + 1)) := by
  obtain ⟨d, h5, id⟩ := hp.f
  have h6 : Nat.blt (i * 258 + 1) d.size = true := blt_true (by rw [id.size]; omega)
  have h7 := id.ho i hi
  have e3 : (S.ho i == 65535) = false := by simpa using h1
  have e4 := IntWalk.i64_in (S.ho i + 1) (by omega)
  refine SF.go hm Try.func12 ir12_eq ?_
  simp -implicitDefEqProofs only [go_sem, List.length_cons, List.length_nil, Nat.one_mod, Nat.zero_div, List.getElem?_cons_zero, List.getElem?_cons_succ, List.getElem?_toArray, List.getElem?_nil, Bool.not_false, Bool.not_true, beq_self_eq_true, Bool.not_eq_true, true_and, and_true, true_or, or_true, false_or, or_false, List.append_nil, List.nil_append, List.cons_append, Option.map_some, Option.map_none, Option.some.injEq, decide_true, decide_false, if_true, if_false, Bool.false_eq_true, gt_iff_lt, ge_iff_le, Nat.zero_add, Nat.add_zero, Nat.zero_mul, Nat.mul_zero, Nat.mul_one, Nat.one_mul, implies_true, Nat.reduceAdd, Nat.reduceSub, Nat.reduceMul, Nat.reduceLT, Nat.reduceMod, Nat.reduceDiv, Nat.reduceEqDiff, Nat.reduceBEq, Nat.reduceLeDiff, ↓reduceIte, reduceCtorEq, Int.reduceAdd, Int.reduceSub, Int.reduceLT, Int.reduceLE, Int.reduceBEq, Int.reduceEq, Int.reduceToNat, ir12]
  refine GCall.of (at_yes hp (.inr hR) (.inr hRf) i hi ho) ?_
  rintro v h' ⟨rfl, rfl⟩
  have hro := id.ro
  simp -implicitDefEqProofs (disch := (first | omega | (simp -implicitDefEqProofs only [Heap.n_push, Heap.n_set, Blk.size_set, Blk.size_puts, Blk.size_putA, w_of_size, w_rep_size, List.length_cons, List.length_nil, ne_eq] <;> omega) | fail)) only [go_sem, List.length_cons, List.length_nil, Nat.one_mod, Nat.zero_div, List.getElem?_cons_zero, List.getElem?_cons_succ, List.getElem?_toArray, List.getElem?_nil, Bool.not_false, Bool.not_true, beq_self_eq_true, Bool.not_eq_true, true_and, and_true, true_or, or_true, false_or, or_false, List.append_nil, List.nil_append, List.cons_append, Option.map_some, Option.map_none, Option.some.injEq, decide_true, decide_false, if_true, if_false, Bool.false_eq_true, gt_iff_lt, ge_iff_le, Nat.zero_add, Nat.add_zero, Nat.zero_mul, Nat.mul_zero, Nat.mul_one, Nat.one_mul, implies_true, Nat.reduceAdd, Nat.reduceSub, Nat.reduceMul, Nat.reduceLT, Nat.reduceMod, Nat.reduceDiv, Nat.reduceEqDiff, Nat.reduceBEq, Nat.reduceLeDiff, ↓reduceIte, reduceCtorEq, Int.reduceAdd, Int.reduceSub, Int.reduceLT, Int.reduceLE, Int.reduceBEq, Int.reduceEq, Int.reduceToNat, w_blt_t, w_blt_f, w_ble_t, w_ble_f, w_beq_t, w_beq_f, w_ilt_t, w_ilt_f, w_ile_t, w_ile_f, w_ieq_t, w_ieq_f, w_idx, w_ite, w_push_eq, w_push_ne, w_set_eq, w_set_ne, w_bset_eq, w_bset_ne, w_of_get, w_i64, Blk.putA_short, and_self, Nat.add_eq, Nat.reduceLeDiff, Nat.le_refl, Nat.le_add_right, h5, h6, h7, e3, e4, hRf, hWf, hro]
  exact hp.set_ho h5 hi _
theorem hold_full {h : Heap} {R W : Set'} {bp : Nat} {L : PL} {S : PS} (hp : PoolAt h bp L S) (hR : R bp) (hRf : R L.fb) (i : Nat) (hi : i < S.n) (h1 : S.ho i = 65535) :
    SF Try.prog 12 [.ptr (some (bp, 0)), .int .i64 i] h R W fun v h' => v = .int .i64 5 ∧ h' = h := by
  obtain ⟨d, h5, id⟩ := hp.f
  have h6 : Nat.blt (i * 258 + 1) d.size = true := blt_true (by rw [id.size]; omega)
  have h7 := id.ho i hi
  rw [h1] at h7
  refine SF.go hm Try.func12 ir12_eq ?_
  simp -implicitDefEqProofs only [go_sem, List.length_cons, List.length_nil, Nat.one_mod, Nat.zero_div, List.getElem?_cons_zero, List.getElem?_cons_succ, List.getElem?_toArray, List.getElem?_nil, Bool.not_false, Bool.not_true, beq_self_eq_true, Bool.not_eq_true, true_and, and_true, true_or, or_true, false_or, or_false, List.append_nil, List.nil_append, List.cons_append, Option.map_some, Option.map_none, Option.some.injEq, decide_true, decide_false, if_true, if_false, Bool.false_eq_true, gt_iff_lt, ge_iff_le, Nat.zero_add, Nat.add_zero, Nat.zero_mul, Nat.mul_zero, Nat.mul_one, Nat.one_mul, implies_true, Nat.reduceAdd, Nat.reduceSub, Nat.reduceMul, Nat.reduceLT, Nat.reduceMod, Nat.reduceDiv, Nat.reduceEqDiff, Nat.reduceBEq, Nat.reduceLeDiff, ↓reduceIte, reduceCtorEq, Int.reduceAdd, Int.reduceSub, Int.reduceLT, Int.reduceLE, Int.reduceBEq, Int.reduceEq, Int.reduceToNat, ir12]
  refine GCall.of (at_yes hp (.inr hR) (.inr hRf) i hi (by omega)) ?_
  rintro v h' ⟨rfl, rfl⟩
  simp -implicitDefEqProofs only [go_sem, List.length_cons, List.length_nil, Nat.one_mod, Nat.zero_div, List.getElem?_cons_zero, List.getElem?_cons_succ, List.getElem?_toArray, List.getElem?_nil, Bool.not_false, Bool.not_true, beq_self_eq_true, Bool.not_eq_true, true_and, and_true, true_or, or_true, false_or, or_false, List.append_nil, List.nil_append, List.cons_append, Option.map_some, Option.map_none, Option.some.injEq, decide_true, decide_false, if_true, if_false, Bool.false_eq_true, gt_iff_lt, ge_iff_le, Nat.zero_add, Nat.add_zero, Nat.zero_mul, Nat.mul_zero, Nat.mul_one, Nat.one_mul, implies_true, Nat.reduceAdd, Nat.reduceSub, Nat.reduceMul, Nat.reduceLT, Nat.reduceMod, Nat.reduceDiv, Nat.reduceEqDiff, Nat.reduceBEq, Nat.reduceLeDiff, ↓reduceIte, reduceCtorEq, Int.reduceAdd, Int.reduceSub, Int.reduceLT, Int.reduceLE, Int.reduceBEq, Int.reduceEq, Int.reduceToNat, h5, h6, h7, hRf]
theorem free_ok {h : Heap} {R W : Set'} {bp : Nat} {L : PL} {S : PS} (hp : PoolAt h bp L S) (hR : R bp) (hRf : R L.fb) (hRu : R L.ub) (hWf : W L.fb) (hWu : W L.ub) (i a : Nat) (hi : i < S.n) (ha : a < S.na) (ho : S.ow i = a) (h2 : 1 ≤ S.us a ∧ S.us a ≤ 65535) :
    SF Try.prog 33 [.ptr (some (bp, 0)), .ptr (some (L.fb, i * 258))] h R W fun v h' => PoolAt h' bp L ((S.setHo i 0).setUs a (S.us a - 1)) := by
  obtain ⟨d, h5, id⟩ := hp.f
  have h6 : Nat.blt (i * 258 + 1) d.size = true := blt_true (by rw [id.size]; omega)
  have hp1 := hp.set_ho h5 hi 0
  refine SF.go hm Try.func33 ir33_eq ?_
  have hro := id.ro
  simp -implicitDefEqProofs (disch := (first | omega | (simp -implicitDefEqProofs only [Heap.n_push, Heap.n_set, Blk.size_set, Blk.size_puts, Blk.size_putA, w_of_size, w_rep_size, List.length_cons, List.length_nil, ne_eq] <;> omega) | fail)) only [go_sem, List.length_cons, List.length_nil, Nat.one_mod, Nat.zero_div, List.getElem?_cons_zero, List.getElem?_cons_succ, List.getElem?_toArray, List.getElem?_nil, Bool.not_false, Bool.not_true, beq_self_eq_true, Bool.not_eq_true, true_and, and_true, true_or, or_true, false_or, or_false, List.append_nil, List.nil_append, List.cons_append, Option.map_some, Option.map_none, Option.some.injEq, decide_true, decide_false, if_true, if_false, Bool.false_eq_true, gt_iff_lt, ge_iff_le, Nat.zero_add, Nat.add_zero, Nat.zero_mul, Nat.mul_zero, Nat.mul_one, Nat.one_mul, implies_true, Nat.reduceAdd, Nat.reduceSub, Nat.reduceMul, Nat.reduceLT, Nat.reduceMod, Nat.reduceDiv, Nat.reduceEqDiff, Nat.reduceBEq, Nat.reduceLeDiff, ↓reduceIte, reduceCtorEq, Int.reduceAdd, Int.reduceSub, Int.reduceLT, Int.reduceLE, Int.reduceBEq, Int.reduceEq, Int.reduceToNat, w_blt_t, w_blt_f, w_ble_t, w_ble_f, w_beq_t, w_beq_f, w_ilt_t, w_ilt_f, w_ile_t, w_ile_f, w_ieq_t, w_ieq_f, w_idx, w_ite, w_push_eq, w_push_ne, w_set_eq, w_set_ne, w_bset_eq, w_bset_ne, w_of_get, w_i64, Blk.putA_short, and_self, Nat.add_eq, Nat.reduceLeDiff, Nat.le_refl, Nat.le_add_right, ir33, h5, h6, hWf, hro]
  generalize h.set L.fb _ = h1 at hp1 ⊢
  obtain ⟨c, g1, ic⟩ := hp1.p
  have g2 : Nat.blt 2 c.size = true := blt_true (by rw [ic.size]; omega)
  have g3 := ic.c2
  obtain ⟨f, g4, if'⟩ := hp1.f
  have g5 : Nat.blt (i * 258) f.size = true := blt_true (by rw [if'.size]; simp only [PS.setHo]; omega)
  have g6 := if'.ow i hi
  obtain ⟨u, g7, iu⟩ := hp1.u
  have g8 : Nat.blt a u.size = true := blt_true (by have := iu.size; simp only [PS.setHo] at this; omega)
  have g9 := iu.get a ha
  simp only [PS.setHo, ho] at g3 g6 g9
  have e1 : (0 : Int) ≤ a ∧ (a : Int) < S.na := by omega
  have e2 : (a : Int).toNat = a := by omega
  have e3 := IntWalk.i64_in (S.us a - 1) (by omega)
  have hro2 := iu.ro
  simp -implicitDefEqProofs only [go_sem, List.length_cons, List.length_nil, Nat.one_mod, Nat.zero_div, List.getElem?_cons_zero, List.getElem?_cons_succ, List.getElem?_toArray, List.getElem?_nil, Bool.not_false, Bool.not_true, beq_self_eq_true, Bool.not_eq_true, true_and, and_true, true_or, or_true, false_or, or_false, List.append_nil, List.nil_append, List.cons_append, Option.map_some, Option.map_none, Option.some.injEq, decide_true, decide_false, if_true, if_false, Bool.false_eq_true, gt_iff_lt, ge_iff_le, Nat.zero_add, Nat.add_zero, Nat.zero_mul, Nat.mul_zero, Nat.mul_one, Nat.one_mul, implies_true, Nat.reduceAdd, Nat.reduceSub, Nat.reduceMul, Nat.reduceLT, Nat.reduceMod, Nat.reduceDiv, Nat.reduceEqDiff, Nat.reduceBEq, Nat.reduceLeDiff, ↓reduceIte, reduceCtorEq, Int.reduceAdd, Int.reduceSub, Int.reduceLT, Int.reduceLE, Int.reduceBEq, Int.reduceEq, Int.reduceToNat, g1, g2, g3, g4, g5, g6, g7, g8, g9, e1, e2, e3, hro2]
  exact ⟨⟨fun _ => .inr hR, fun _ => .inr hRf, fun _ => .inr hRu, fun _ => .inr hWu⟩, hp1.set_us g7 ha _⟩
theorem drop_more {h : Heap} {R W : Set'} {bp : Nat} {L : PL} {S : PS} (hp : PoolAt h bp L S) (hR : R bp) (hRf : R L.fb) (hWf : W L.fb) (i : Nat) (hi : i < S.n) (h2 : 1 < S.ho i ∧ S.ho i ≤ 65535) :
    SF Try.prog 13 [.ptr (some (bp, 0)), .int .i64 i] h R W fun v h' => v = .tuple [.bool false, .int .i64 0] ∧ PoolAt h' bp L (S.setHo i (S.ho i - 1)) := by
  obtain ⟨d, h5, id⟩ := hp.f
  have h6 : Nat.blt (i * 258 + 1) d.size = true := blt_true (by rw [id.size]; omega)
  have h7 := id.ho i hi
  have e3 : decide (1 < S.ho i) = true := by simpa using h2.1
  have e4 := IntWalk.i64_in (S.ho i - 1) (by omega)
  refine SF.go hm Try.func13 ir13_eq ?_
  simp -implicitDefEqProofs only [go_sem, List.length_cons, List.length_nil, Nat.one_mod, Nat.zero_div, List.getElem?_cons_zero, List.getElem?_cons_succ, List.getElem?_toArray, List.getElem?_nil, Bool.not_false, Bool.not_true, beq_self_eq_true, Bool.not_eq_true, true_and, and_true, true_or, or_true, false_or, or_false, List.append_nil, List.nil_append, List.cons_append, Option.map_some, Option.map_none, Option.some.injEq, decide_true, decide_false, if_true, if_false, Bool.false_eq_true, gt_iff_lt, ge_iff_le, Nat.zero_add, Nat.add_zero, Nat.zero_mul, Nat.mul_zero, Nat.mul_one, Nat.one_mul, implies_true, Nat.reduceAdd, Nat.reduceSub, Nat.reduceMul, Nat.reduceLT, Nat.reduceMod, Nat.reduceDiv, Nat.reduceEqDiff, Nat.reduceBEq, Nat.reduceLeDiff, ↓reduceIte, reduceCtorEq, Int.reduceAdd, Int.reduceSub, Int.reduceLT, Int.reduceLE, Int.reduceBEq, Int.reduceEq, Int.reduceToNat, ir13]
  refine GCall.of (at_yes hp (.inr hR) (.inr hRf) i hi (by omega)) ?_
  rintro v h' ⟨rfl, rfl⟩
  have hro := id.ro
  simp -implicitDefEqProofs (disch := (first | omega | (simp -implicitDefEqProofs only [Heap.n_push, Heap.n_set, Blk.size_set, Blk.size_puts, Blk.size_putA, w_of_size, w_rep_size, List.length_cons, List.length_nil, ne_eq] <;> omega) | fail)) only [go_sem, List.length_cons, List.length_nil, Nat.one_mod, Nat.zero_div, List.getElem?_cons_zero, List.getElem?_cons_succ, List.getElem?_toArray, List.getElem?_nil, Bool.not_false, Bool.not_true, beq_self_eq_true, Bool.not_eq_true, true_and, and_true, true_or, or_true, false_or, or_false, List.append_nil, List.nil_append, List.cons_append, Option.map_some, Option.map_none, Option.some.injEq, decide_true, decide_false, if_true, if_false, Bool.false_eq_true, gt_iff_lt, ge_iff_le, Nat.zero_add, Nat.add_zero, Nat.zero_mul, Nat.mul_zero, Nat.mul_one, Nat.one_mul, implies_true, Nat.reduceAdd, Nat.reduceSub, Nat.reduceMul, Nat.reduceLT, Nat.reduceMod, Nat.reduceDiv, Nat.reduceEqDiff, Nat.reduceBEq, Nat.reduceLeDiff, ↓reduceIte, reduceCtorEq, Int.reduceAdd, Int.reduceSub, Int.reduceLT, Int.reduceLE, Int.reduceBEq, Int.reduceEq, Int.reduceToNat, w_blt_t, w_blt_f, w_ble_t, w_ble_f, w_beq_t, w_beq_f, w_ilt_t, w_ilt_f, w_ile_t, w_ile_f, w_ieq_t, w_ieq_f, w_idx, w_ite, w_push_eq, w_push_ne, w_set_eq, w_set_ne, w_bset_eq, w_bset_ne, w_of_get, w_i64, Blk.putA_short, and_self, Nat.add_eq, Nat.reduceLeDiff, Nat.le_refl, Nat.le_add_right, h5, h6, h7, e3, e4, hRf, hWf, hro]
  exact hp.set_ho h5 hi _
theorem drop_last {h : Heap} {R W : Set'} {bp : Nat} {L : PL} {S : PS} (hp : PoolAt h bp L S) (hR : R bp) (hRf : R L.fb) (hRu : R L.ub) (hWf : W L.fb) (hWu : W L.ub) (i a : Nat) (hi : i < S.n) (ha : a < S.na) (ho : S.ow i = a) (h1 : S.ho i = 1) (h2 : 1 ≤ S.us a ∧ S.us a ≤ 65535) :
    SF Try.prog 13 [.ptr (some (bp, 0)), .int .i64 i] h R W fun v h' => v = .tuple [.bool true, .int .i64 0] ∧ PoolAt h' bp L ((S.setHo i 0).setUs a (S.us a - 1)) := by
  obtain ⟨d, h5, id⟩ := hp.f
  have h6 : Nat.blt (i * 258 + 1) d.size = true := blt_true (by rw [id.size]; omega)
  have h7 := id.ho i hi
  rw [h1] at h7
  refine SF.go hm Try.func13 ir13_eq ?_
  simp -implicitDefEqProofs only [go_sem, List.length_cons, List.length_nil, Nat.one_mod, Nat.zero_div, List.getElem?_cons_zero, List.getElem?_cons_succ, List.getElem?_toArray, List.getElem?_nil, Bool.not_false, Bool.not_true, beq_self_eq_true, Bool.not_eq_true, true_and, and_true, true_or, or_true, false_or, or_false, List.append_nil, List.nil_append, List.cons_append, Option.map_some, Option.map_none, Option.some.injEq, decide_true, decide_false, if_true, if_false, Bool.false_eq_true, gt_iff_lt, ge_iff_le, Nat.zero_add, Nat.add_zero, Nat.zero_mul, Nat.mul_zero, Nat.mul_one, Nat.one_mul, implies_true, Nat.reduceAdd, Nat.reduceSub, Nat.reduceMul, Nat.reduceLT, Nat.reduceMod, Nat.reduceDiv, Nat.reduceEqDiff, Nat.reduceBEq, Nat.reduceLeDiff, ↓reduceIte, reduceCtorEq, Int.reduceAdd, Int.reduceSub, Int.reduceLT, Int.reduceLE, Int.reduceBEq, Int.reduceEq, Int.reduceToNat, ir13]
  refine GCall.of (at_yes hp (.inr hR) (.inr hRf) i hi (by omega)) ?_
  rintro v h' ⟨rfl, rfl⟩
  simp -implicitDefEqProofs only [go_sem, List.length_cons, List.length_nil, Nat.one_mod, Nat.zero_div, List.getElem?_cons_zero, List.getElem?_cons_succ, List.getElem?_toArray, List.getElem?_nil, Bool.not_false, Bool.not_true, beq_self_eq_true, Bool.not_eq_true, true_and, and_true, true_or, or_true, false_or, or_false, List.append_nil, List.nil_append, List.cons_append, Option.map_some, Option.map_none, Option.some.injEq, decide_true, decide_false, if_true, if_false, Bool.false_eq_true, gt_iff_lt, ge_iff_le, Nat.zero_add, Nat.add_zero, Nat.zero_mul, Nat.mul_zero, Nat.mul_one, Nat.one_mul, implies_true, Nat.reduceAdd, Nat.reduceSub, Nat.reduceMul, Nat.reduceLT, Nat.reduceMod, Nat.reduceDiv, Nat.reduceEqDiff, Nat.reduceBEq, Nat.reduceLeDiff, ↓reduceIte, reduceCtorEq, Int.reduceAdd, Int.reduceSub, Int.reduceLT, Int.reduceLE, Int.reduceBEq, Int.reduceEq, Int.reduceToNat, h5, h6, h7, hRf, hWf]
  refine GCall.of (free_ok hp (.inr hR) (.inr hRf) (.inr hRu) (.inr hWf) (.inr hWu) i a hi ha ho h2) ?_
  rintro v h'' hq
  simp -implicitDefEqProofs only [go_sem, List.length_cons, List.length_nil, Nat.one_mod, Nat.zero_div, List.getElem?_cons_zero, List.getElem?_cons_succ, List.getElem?_toArray, List.getElem?_nil, Bool.not_false, Bool.not_true, beq_self_eq_true, Bool.not_eq_true, true_and, and_true, true_or, or_true, false_or, or_false, List.append_nil, List.nil_append, List.cons_append, Option.map_some, Option.map_none, Option.some.injEq, decide_true, decide_false, if_true, if_false, Bool.false_eq_true, gt_iff_lt, ge_iff_le, Nat.zero_add, Nat.add_zero, Nat.zero_mul, Nat.mul_zero, Nat.mul_one, Nat.one_mul, implies_true, Nat.reduceAdd, Nat.reduceSub, Nat.reduceMul, Nat.reduceLT, Nat.reduceMod, Nat.reduceDiv, Nat.reduceEqDiff, Nat.reduceBEq, Nat.reduceLeDiff, ↓reduceIte, reduceCtorEq, Int.reduceAdd, Int.reduceSub, Int.reduceLT, Int.reduceLE, Int.reduceBEq, Int.reduceEq, Int.reduceToNat]
  exact hq
end Go.Proofs.Ytfgdpgagcnelpaa
