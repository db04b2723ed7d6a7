/- The document's ports: SameTests. -/
import Derived.Test.YtmimialblhlklaaR1
set_option linter.unusedVariables false
set_option maxRecDepth 100000
namespace Go.Proofs.Ytmimialblhlklaa
open Go Go.Vm
variable {h : Heap} {R W I : Set'}
theorem te_ext {a b : Te} (h1 : a.at' = b.at') (h2 : a.mask = b.mask) (h3 : a.val = b.val) : a = b := by
  cases a; cases b; simp only at h1 h2 h3; subst h1 h2 h3; rfl
theorem eq_79 (a b c d e f : Int) : eqD Try.prog 10 79 (.agg [.int .i64 a, .int .i64 c, .int .i64 e]) (.agg [.int .i64 b, .int .i64 d, .int .i64 f]) = some (decide (a = b ∧ c = d ∧ e = f)) := by
  have ee : eqD Try.prog 10 79 (.agg [.int .i64 a, .int .i64 c, .int .i64 e]) (.agg [.int .i64 b, .int .i64 d, .int .i64 f]) = (match (a == b) with | true => (match (c == d) with | true => (match (e == f) with | true => some true | false => some false) | false => some false) | false => some false) := by kernel_rfl
  rw [ee]
  by_cases h1 : a = b
  · by_cases h2 : c = d
    · by_cases h3 : e = f
      · subst h1 h2 h3; simp
      · have h4 : (e == f) = false := by simpa using h3
        subst h1 h2; rw [h4, decide_eq_false fun h => h3 h.2.2]; simp only [beq_self_eq_true]
    · have h4 : (c == d) = false := by simpa using h2
      subst h1; rw [h4, decide_eq_false fun h => h2 h.2.1]; simp only [beq_self_eq_true]
  · have h4 : (a == b) = false := by simpa using h1
    rw [h4, decide_eq_false fun h => h1 h.1]
theorem eg_79 : Try.prog.eqGuardType Try.prog.depth 79 = false := by kernel_rfl
end Go.Proofs.Ytmimialblhlklaa
