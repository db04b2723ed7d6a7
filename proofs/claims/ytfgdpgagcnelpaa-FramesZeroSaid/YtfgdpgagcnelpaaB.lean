/- The pool: a frame that is owned; holding and dropping. -/
import Derived.Test.YtfgdpgagcnelpaaA
set_option maxRecDepth 100000
set_option linter.unusedVariables false
set_option linter.unusedSimpArgs false
namespace Go.Proofs.Ytfgdpgagcnelpaa
open Go Go.Vm

/-- The frame that is asked for is owned. -/
def Owned (S : PS) (k : Int) : Prop := 0 ≤ k ∧ k < S.n ∧ S.ho k.toNat ≠ 0

theorem at_yes {h : Heap} {R W : Set'} {bp : Nat} {L : PL} {S : PS} (hp : PoolAt h bp L S) (hR : R bp) (hRf : R L.fb) (i : Nat) (hi : i < S.n) (ho : S.ho i ≠ 0) : SF Try.prog 32 [.ptr (some (bp, 0)), .int .i64 i] h R W fun v h' => v = .tuple [.ptr (some (L.fb, i * 258)), .int .i64 0] ∧ h' = h := by
  obtain ⟨c, h1, ic⟩ := hp.p
  obtain ⟨d, h5, id⟩ := hp.f
  have h2 : Nat.blt 0 c.size = true := blt_true (by rw [ic.size]; omega)
  have h3 := ic.c0
  have h6 : Nat.blt (i * 258 + 1) d.size = true := blt_true (by rw [id.size]; omega)
  have h7 := id.ho i hi
  have e1 : decide ((i : Int) < 0) = false := by simp
  have e2 : decide ((S.n : Int) ≤ i) = false := by simp; omega
  have e3 : (S.ho i == 0) = false := by simpa using ho
  have e4 : (0 : Int) ≤ i ∧ (i : Int) < S.n := by omega
  have e5 : (i : Int).toNat = i := by omega
  refine SF.go hm Try.func32 ir32_eq ?_
  simp -implicitDefEqProofs only [go_sem, List.length_cons, List.length_nil, Nat.one_mod, Nat.zero_div, List.getElem?_cons_zero, List.getElem?_cons_succ, List.getElem?_toArray, List.getElem?_nil, Bool.not_false, Bool.not_true, beq_self_eq_true, Bool.not_eq_true, true_and, and_true, true_or, or_true, false_or, or_false, List.append_nil, List.nil_append, List.cons_append, Option.map_some, Option.map_none, Option.some.injEq, decide_true, decide_false, if_true, if_false, Bool.false_eq_true, gt_iff_lt, ge_iff_le, Nat.zero_add, Nat.add_zero, Nat.zero_mul, Nat.mul_zero, Nat.mul_one, Nat.one_mul, implies_true, Nat.reduceAdd, Nat.reduceSub, Nat.reduceMul, Nat.reduceLT, Nat.reduceMod, Nat.reduceDiv, Nat.reduceEqDiff, Nat.reduceBEq, Nat.reduceLeDiff, ↓reduceIte, reduceCtorEq, Int.reduceAdd, Int.reduceSub, Int.reduceLT, Int.reduceLE, Int.reduceBEq, Int.reduceEq, Int.reduceToNat, ir32]
  refine GCall.of (there_ok hp (.inr hR)) ?_
  rintro v h' ⟨rfl, rfl⟩
  simp -implicitDefEqProofs only [go_sem, List.length_cons, List.length_nil, Nat.one_mod, Nat.zero_div, List.getElem?_cons_zero, List.getElem?_cons_succ, List.getElem?_toArray, List.getElem?_nil, Bool.not_false, Bool.not_true, beq_self_eq_true, Bool.not_eq_true, true_and, and_true, true_or, or_true, false_or, or_false, List.append_nil, List.nil_append, List.cons_append, Option.map_some, Option.map_none, Option.some.injEq, decide_true, decide_false, if_true, if_false, Bool.false_eq_true, gt_iff_lt, ge_iff_le, Nat.zero_add, Nat.add_zero, Nat.zero_mul, Nat.mul_zero, Nat.mul_one, Nat.one_mul, implies_true, Nat.reduceAdd, Nat.reduceSub, Nat.reduceMul, Nat.reduceLT, Nat.reduceMod, Nat.reduceDiv, Nat.reduceEqDiff, Nat.reduceBEq, Nat.reduceLeDiff, ↓reduceIte, reduceCtorEq, Int.reduceAdd, Int.reduceSub, Int.reduceLT, Int.reduceLE, Int.reduceBEq, Int.reduceEq, Int.reduceToNat, h1, h2, h3, hR, e1, e2, e4, e5, h5, h6, h7, hRf, e3]

theorem at_no {h : Heap} {R W : Set'} {bp : Nat} {L : PL} {S : PS} (hp : PoolAt h bp L S) (hR : R bp) (hRf : R L.fb) (k : Int) (hk : ¬ Owned S k) : SF Try.prog 32 [.ptr (some (bp, 0)), .int .i64 k] h R W fun v h' => v = .tuple [.ptr none, .int .i64 6] ∧ h' = h := by
  obtain ⟨c, h1, ic⟩ := hp.p
  obtain ⟨d, h5, id⟩ := hp.f
  have h2 : Nat.blt 0 c.size = true := blt_true (by rw [ic.size]; omega)
  have h3 := ic.c0
  refine SF.go hm Try.func32 ir32_eq ?_
  simp -implicitDefEqProofs only [go_sem, List.length_cons, List.length_nil, Nat.one_mod, Nat.zero_div, List.getElem?_cons_zero, List.getElem?_cons_succ, List.getElem?_toArray, List.getElem?_nil, Bool.not_false, Bool.not_true, beq_self_eq_true, Bool.not_eq_true, true_and, and_true, true_or, or_true, false_or, or_false, List.append_nil, List.nil_append, List.cons_append, Option.map_some, Option.map_none, Option.some.injEq, decide_true, decide_false, if_true, if_false, Bool.false_eq_true, gt_iff_lt, ge_iff_le, Nat.zero_add, Nat.add_zero, Nat.zero_mul, Nat.mul_zero, Nat.mul_one, Nat.one_mul, implies_true, Nat.reduceAdd, Nat.reduceSub, Nat.reduceMul, Nat.reduceLT, Nat.reduceMod, Nat.reduceDiv, Nat.reduceEqDiff, Nat.reduceBEq, Nat.reduceLeDiff, ↓reduceIte, reduceCtorEq, Int.reduceAdd, Int.reduceSub, Int.reduceLT, Int.reduceLE, Int.reduceBEq, Int.reduceEq, Int.reduceToNat, ir32]
  refine GCall.of (there_ok hp (.inr hR)) ?_
  rintro v h' ⟨rfl, rfl⟩
  by_cases k0 : k < 0
  · have e1 : decide (k < 0) = true := by simpa using k0
    simp -implicitDefEqProofs only [go_sem, List.length_cons, List.length_nil, Nat.one_mod, Nat.zero_div, List.getElem?_cons_zero, List.getElem?_cons_succ, List.getElem?_toArray, List.getElem?_nil, Bool.not_false, Bool.not_true, beq_self_eq_true, Bool.not_eq_true, true_and, and_true, true_or, or_true, false_or, or_false, List.append_nil, List.nil_append, List.cons_append, Option.map_some, Option.map_none, Option.some.injEq, decide_true, decide_false, if_true, if_false, Bool.false_eq_true, gt_iff_lt, ge_iff_le, Nat.zero_add, Nat.add_zero, Nat.zero_mul, Nat.mul_zero, Nat.mul_one, Nat.one_mul, implies_true, Nat.reduceAdd, Nat.reduceSub, Nat.reduceMul, Nat.reduceLT, Nat.reduceMod, Nat.reduceDiv, Nat.reduceEqDiff, Nat.reduceBEq, Nat.reduceLeDiff, ↓reduceIte, reduceCtorEq, Int.reduceAdd, Int.reduceSub, Int.reduceLT, Int.reduceLE, Int.reduceBEq, Int.reduceEq, Int.reduceToNat, h1, h2, h3, hR, e1]
  · have e1 : decide (k < 0) = false := by simpa using k0
    by_cases k1 : (S.n : Int) ≤ k
    · have e2 : decide ((S.n : Int) ≤ k) = true := by simpa using k1
      simp -implicitDefEqProofs only [go_sem, List.length_cons, List.length_nil, Nat.one_mod, Nat.zero_div, List.getElem?_cons_zero, List.getElem?_cons_succ, List.getElem?_toArray, List.getElem?_nil, Bool.not_false, Bool.not_true, beq_self_eq_true, Bool.not_eq_true, true_and, and_true, true_or, or_true, false_or, or_false, List.append_nil, List.nil_append, List.cons_append, Option.map_some, Option.map_none, Option.some.injEq, decide_true, decide_false, if_true, if_false, Bool.false_eq_true, gt_iff_lt, ge_iff_le, Nat.zero_add, Nat.add_zero, Nat.zero_mul, Nat.mul_zero, Nat.mul_one, Nat.one_mul, implies_true, Nat.reduceAdd, Nat.reduceSub, Nat.reduceMul, Nat.reduceLT, Nat.reduceMod, Nat.reduceDiv, Nat.reduceEqDiff, Nat.reduceBEq, Nat.reduceLeDiff, ↓reduceIte, reduceCtorEq, Int.reduceAdd, Int.reduceSub, Int.reduceLT, Int.reduceLE, Int.reduceBEq, Int.reduceEq, Int.reduceToNat, h1, h2, h3, hR, e1, e2]
    · have e2 : decide ((S.n : Int) ≤ k) = false := by simpa using k1
      obtain ⟨i, rfl⟩ := Int.eq_ofNat_of_zero_le (show 0 ≤ k by omega)
      have hi : i < S.n := by omega
      have hz : S.ho i = 0 := by
        by_cases e : S.ho i = 0
        · exact e
        · exact absurd ⟨by omega, by omega, by simpa using e⟩ hk
      have h6 : Nat.blt (i * 258 + 1) d.size = true := blt_true (by rw [id.size]; omega)
      have h7 := id.ho i hi
      have e3 : (S.ho i == 0) = true := by simpa using hz
      have e4 : (0 : Int) ≤ i ∧ (i : Int) < S.n := by omega
      have e5 : (i : Int).toNat = i := by omega
      simp -implicitDefEqProofs only [go_sem, List.length_cons, List.length_nil, Nat.one_mod, Nat.zero_div, List.getElem?_cons_zero, List.getElem?_cons_succ, List.getElem?_toArray, List.getElem?_nil, Bool.not_false, Bool.not_true, beq_self_eq_true, Bool.not_eq_true, true_and, and_true, true_or, or_true, false_or, or_false, List.append_nil, List.nil_append, List.cons_append, Option.map_some, Option.map_none, Option.some.injEq, decide_true, decide_false, if_true, if_false, Bool.false_eq_true, gt_iff_lt, ge_iff_le, Nat.zero_add, Nat.add_zero, Nat.zero_mul, Nat.mul_zero, Nat.mul_one, Nat.one_mul, implies_true, Nat.reduceAdd, Nat.reduceSub, Nat.reduceMul, Nat.reduceLT, Nat.reduceMod, Nat.reduceDiv, Nat.reduceEqDiff, Nat.reduceBEq, Nat.reduceLeDiff, ↓reduceIte, reduceCtorEq, Int.reduceAdd, Int.reduceSub, Int.reduceLT, Int.reduceLE, Int.reduceBEq, Int.reduceEq, Int.reduceToNat, h1, h2, h3, hR, e1, e2, e4, e5, h5, h6, h7, hRf, e3]

end Go.Proofs.Ytfgdpgagcnelpaa
