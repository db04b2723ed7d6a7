/- Runs with fuel that may not be; few. -/
import Derived.Test.YtmkdbninmimndaaF2
set_option linter.unusedVariables false
set_option maxRecDepth 100000
namespace Go.Proofs.Ytmkdbninmimndaa
open Go Go.Vm
variable {rs : Regs} {pc : BitVec 32}
abbrev startV (vC vB vR : V) (rs : Regs) (pc : BitVec 32) (n : Int) : V := .agg [vC, vB, vR, U (rs 0), U (rs 1), U (rs 2), U (rs 3), U (rs 4), U (rs 5), U (rs 6), U (rs 7), U (rs 8), U (rs 9), U (rs 10), U (rs 11), U (rs 12), U (rs 13), U (rs 14), U (rs 15), U pc, .int .i64 n]
def fewB (nC nB nR : Nat) (n : Int) : Bool := decide (nC ≤ 200 ∧ nB ≤ 2000 ∧ nR ≤ 32 ∧ n ≤ 2000)
set_option maxHeartbeats 4000000 in
theorem few_ok {h : Heap} {vC vB vR : V} {nC nB nR : Nat} (hC : ∀ g : Heap, lenV Try.prog 22 vC g = some (nC, [])) (hB : ∀ g : Heap, lenV Try.prog 23 vB g = some (nB, [])) (hR : ∀ g : Heap, lenV Try.prog 24 vR g = some (nR, [])) (o1 : vC.one = true) (o2 : vB.one = true) (o3 : vR.one = true) (n : Int) : SF (Try.prog : MP) 9 [startV vC vB vR rs pc n] h (fun _ => False) (fun _ => False) fun v h' => v = .bool (fewB nC nB nR n) := by
  refine SF.go hm Try.func9 ir9_eq ?_
  unfold fewB
  by_cases c1 : (nC : Int) ≤ 200
  · by_cases c2 : (nB : Int) ≤ 2000
    · by_cases c3 : (nR : Int) ≤ 32
      · by_cases c4 : n ≤ 2000
        · simp -implicitDefEqProofs (disch := (first | omega | (simp -implicitDefEqProofs only [szs, ne_eq] <;> omega) | fail)) only [go_sem, seval, ↓reduceIte, reduceCtorEq, ir9, undefV, ↓hC, ↓hB, ↓hR, c1, c2, c3, c4]
          rw [decide_eq_true (by omega)]
        · simp -implicitDefEqProofs (disch := (first | omega | (simp -implicitDefEqProofs only [szs, ne_eq] <;> omega) | fail)) only [go_sem, seval, ↓reduceIte, reduceCtorEq, ir9, undefV, ↓hC, ↓hB, ↓hR, c1, c2, c3, c4]
          simp
      · simp -implicitDefEqProofs (disch := (first | omega | (simp -implicitDefEqProofs only [szs, ne_eq] <;> omega) | fail)) only [go_sem, seval, ↓reduceIte, reduceCtorEq, ir9, undefV, ↓hC, ↓hB, ↓hR, c1, c2, c3]
        rw [decide_eq_false (by omega)]
    · simp -implicitDefEqProofs (disch := (first | omega | (simp -implicitDefEqProofs only [szs, ne_eq] <;> omega) | fail)) only [go_sem, seval, ↓reduceIte, reduceCtorEq, ir9, undefV, ↓hC, ↓hB, c1, c2]
      rw [decide_eq_false (by omega)]
  · simp -implicitDefEqProofs (disch := (first | omega | (simp -implicitDefEqProofs only [szs, ne_eq] <;> omega) | fail)) only [go_sem, seval, ↓reduceIte, reduceCtorEq, ir9, undefV, ↓hC, c1]
    rw [decide_eq_false (by omega)]
end Go.Proofs.Ytmkdbninmimndaa
