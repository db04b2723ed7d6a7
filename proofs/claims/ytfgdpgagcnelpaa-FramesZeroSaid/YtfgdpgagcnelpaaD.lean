/- The pool: how many are free. -/
import Derived.Test.YtfgdpgagcnelpaaC
set_option maxRecDepth 100000
set_option linter.unusedVariables false
set_option linter.unusedSimpArgs false
namespace Go.Proofs.Ytfgdpgagcnelpaa
open Go Go.Vm

def sumTo (g : Nat → Int) : Nat → Int
  | 0 => 0
  | k + 1 => sumTo g k + g k
theorem sumTo_in {g : Nat → Int} {n : Nat} (hg : ∀ a, a < n → 0 ≤ g a ∧ g a ≤ 65535) : ∀ k, k ≤ n → 0 ≤ sumTo g k ∧ sumTo g k ≤ 65535 * k
  | 0, _ => by simp [sumTo]
  | k + 1, hk => by have := sumTo_in hg k (by omega); have := hg k (by omega); simp only [sumTo]; omega
theorem free_count {h : Heap} {R W : Set'} {bp : Nat} {L : PL} {S : PS} (hp : PoolAt h bp L S) (hR : R bp) (hRu : R L.ub) (hu : ∀ a, a < S.na → 0 ≤ S.us a ∧ S.us a ≤ 65535) :
    SF Try.prog 14 [.ptr (some (bp, 0))] h R W fun v h' => v = .int .i64 (S.n - sumTo S.us S.na) ∧ h' = h := by
  obtain ⟨c, h1, ic⟩ := hp.p
  have h2 : Nat.blt 0 c.size = true := blt_true (by rw [ic.size]; omega)
  have h2' : Nat.blt 2 c.size = true := blt_true (by rw [ic.size]; omega)
  have h3 := ic.c0
  have h3' := ic.c2
  obtain ⟨u, g7, iu⟩ := hp.u
  refine SF.go hm Try.func14 ir14_eq ?_
  simp -implicitDefEqProofs only [go_sem, List.length_cons, List.length_nil, Nat.one_mod, Nat.zero_div, List.getElem?_cons_zero, List.getElem?_cons_succ, List.getElem?_toArray, List.getElem?_nil, Bool.not_false, Bool.not_true, beq_self_eq_true, Bool.not_eq_true, true_and, and_true, true_or, or_true, false_or, or_false, List.append_nil, List.nil_append, List.cons_append, Option.map_some, Option.map_none, Option.some.injEq, decide_true, decide_false, if_true, if_false, Bool.false_eq_true, gt_iff_lt, ge_iff_le, Nat.zero_add, Nat.add_zero, Nat.zero_mul, Nat.mul_zero, Nat.mul_one, Nat.one_mul, implies_true, Nat.reduceAdd, Nat.reduceSub, Nat.reduceMul, Nat.reduceLT, Nat.reduceMod, Nat.reduceDiv, Nat.reduceEqDiff, Nat.reduceBEq, Nat.reduceLeDiff, ↓reduceIte, reduceCtorEq, Int.reduceAdd, Int.reduceSub, Int.reduceLT, Int.reduceLE, Int.reduceBEq, Int.reduceEq, Int.reduceToNat, ir14]
  refine GCall.of (there_ok hp (.inr hR)) ?_
  rintro v h' ⟨rfl, rfl⟩
  simp -implicitDefEqProofs only [go_sem, List.length_cons, List.length_nil, Nat.one_mod, Nat.zero_div, List.getElem?_cons_zero, List.getElem?_cons_succ, List.getElem?_toArray, List.getElem?_nil, Bool.not_false, Bool.not_true, beq_self_eq_true, Bool.not_eq_true, true_and, and_true, true_or, or_true, false_or, or_false, List.append_nil, List.nil_append, List.cons_append, Option.map_some, Option.map_none, Option.some.injEq, decide_true, decide_false, if_true, if_false, Bool.false_eq_true, gt_iff_lt, ge_iff_le, Nat.zero_add, Nat.add_zero, Nat.zero_mul, Nat.mul_zero, Nat.mul_one, Nat.one_mul, implies_true, Nat.reduceAdd, Nat.reduceSub, Nat.reduceMul, Nat.reduceLT, Nat.reduceMod, Nat.reduceDiv, Nat.reduceEqDiff, Nat.reduceBEq, Nat.reduceLeDiff, ↓reduceIte, reduceCtorEq, Int.reduceAdd, Int.reduceSub, Int.reduceLT, Int.reduceLE, Int.reduceBEq, Int.reduceEq, Int.reduceToNat, h1, h2, h2', h3, h3', hR]
  refine GLoop.inv hm (fun k f h => h = h' ∧ f.mks = [] ∧ f.tm.n = 28 ∧ f.tm.get 17 = some (.slice (some (L.ub, 0)) S.na L.ucap L.uex) ∧ f.tm.get 18 = some (.int .i64 S.na) ∧ ∃ i : Nat, i + k = S.na ∧ f.tm.get 19 = some (.int .i64 i) ∧ f.tm.get 3 = some (.int .i64 (S.n - sumTo S.us i))) S.na ?_ ?_
  · exact ⟨rfl, rfl, rfl, rfl, rfl, 0, by omega, rfl, by simp [sumTo]; rfl⟩
  · rintro k ⟨⟨n, tr⟩, mks⟩ h ⟨rfl, hmk, hn, t17, t18, i, hik, t19, t3⟩
    simp only [Tm.get_mk] at hmk hn t17 t18 t19 t3
    subst hmk hn
    have hs := sumTo_in hu i (by omega)
    have hl := hp.lo
    by_cases hlt : i < S.na
    · have e1 : decide ((i : Int) < S.na) = true := by simpa using hlt
      have e2 : (0 : Int) ≤ i ∧ (i : Int) < S.na := by omega
      have e3 : (i : Int).toNat = i := by omega
      have g8 : Nat.blt i u.size = true := blt_true (by have := iu.size; omega)
      have g9 := iu.get i hlt
      have hs' := hu i hlt
      have e4 := IntWalk.i64_in (S.n - sumTo S.us i - S.us i) (by omega)
      have e5 := IntWalk.i64_in ((i : Int) + 1) (by omega)
      simp -implicitDefEqProofs only [go_sem, List.length_cons, List.length_nil, Nat.one_mod, Nat.zero_div, List.getElem?_cons_zero, List.getElem?_cons_succ, List.getElem?_toArray, List.getElem?_nil, Bool.not_false, Bool.not_true, beq_self_eq_true, Bool.not_eq_true, true_and, and_true, true_or, or_true, false_or, or_false, List.append_nil, List.nil_append, List.cons_append, Option.map_some, Option.map_none, Option.some.injEq, decide_true, decide_false, if_true, if_false, Bool.false_eq_true, gt_iff_lt, ge_iff_le, Nat.zero_add, Nat.add_zero, Nat.zero_mul, Nat.mul_zero, Nat.mul_one, Nat.one_mul, implies_true, Nat.reduceAdd, Nat.reduceSub, Nat.reduceMul, Nat.reduceLT, Nat.reduceMod, Nat.reduceDiv, Nat.reduceEqDiff, Nat.reduceBEq, Nat.reduceLeDiff, ↓reduceIte, reduceCtorEq, Int.reduceAdd, Int.reduceSub, Int.reduceLT, Int.reduceLE, Int.reduceBEq, Int.reduceEq, Int.reduceToNat, ir14_l0, t17, t18, t19, t3, e1, e2, e3, g7, g8, g9, e4, e5, hRu]
      refine ⟨k - 1, by omega, i + 1, by omega, by simp, ?_⟩
      simp only [sumTo]
      congr 1
      omega
    · have e1 : decide ((i : Int) < S.na) = false := by simpa using hlt
      have : i = S.na := by omega
      subst this
      simp -implicitDefEqProofs only [go_sem, List.length_cons, List.length_nil, Nat.one_mod, Nat.zero_div, List.getElem?_cons_zero, List.getElem?_cons_succ, List.getElem?_toArray, List.getElem?_nil, Bool.not_false, Bool.not_true, beq_self_eq_true, Bool.not_eq_true, true_and, and_true, true_or, or_true, false_or, or_false, List.append_nil, List.nil_append, List.cons_append, Option.map_some, Option.map_none, Option.some.injEq, decide_true, decide_false, if_true, if_false, Bool.false_eq_true, gt_iff_lt, ge_iff_le, Nat.zero_add, Nat.add_zero, Nat.zero_mul, Nat.mul_zero, Nat.mul_one, Nat.one_mul, implies_true, Nat.reduceAdd, Nat.reduceSub, Nat.reduceMul, Nat.reduceLT, Nat.reduceMod, Nat.reduceDiv, Nat.reduceEqDiff, Nat.reduceBEq, Nat.reduceLeDiff, ↓reduceIte, reduceCtorEq, Int.reduceAdd, Int.reduceSub, Int.reduceLT, Int.reduceLE, Int.reduceBEq, Int.reduceEq, Int.reduceToNat, ir14_l0, t17, t18, t19, t3, e1]
end Go.Proofs.Ytfgdpgagcnelpaa
