/- Runs with fuel that may not be; few. -/
import Derived.Test.YtmkdbninmimndaaF2
set_option linter.unusedVariables false
set_option maxRecDepth 100000
namespace Go.Proofs.Ytmkdbninmimndaa
open Go Go.Vm
variable {rs : Regs} {pc : BitVec 32}
def badRes : V := .tuple [.agg zeros17, stopV 0 0 0 0 0, .int .i64 2]
set_option maxHeartbeats 4000000 in
theorem run12_neg {h : Heap} (fp : Nat) {n : Int} (hn : n < 0) : SF (Try.prog : MP) 12 [stateV rs pc, .iface 32 (.ptr (some (fp, 0))), .int .i64 n] h (fun _ => False) (fun _ => False) fun v h' => v = badRes := by
  rw [show stateV rs pc = .agg (regs17 rs pc) from rfl]
  refine SF.go hm Try.func12 ir12_eq ?_
  simp -implicitDefEqProofs (disch := (first | omega | (simp -implicitDefEqProofs only [szs, ne_eq] <;> omega) | fail)) only [go_sem, seval, ↓reduceIte, reduceCtorEq, ir12, undefV, hn]
  exact ⟨by omega, by omega, rfl⟩
set_option maxHeartbeats 4000000 in
theorem run13_neg {h : Heap} (rm : Nat) {n : Int} (hn : n < 0) : SF (Try.prog : MP) 13 [stateV rs pc, .ptr (some (rm, 0)), .int .i64 n] h (fun _ => False) (fun _ => False) fun v h' => v = badRes := by
  rw [show stateV rs pc = .agg (regs17 rs pc) from rfl]
  refine SF.go hm Try.func13 ir13_eq ?_
  simp -implicitDefEqProofs (disch := (first | omega | (simp -implicitDefEqProofs only [szs, ne_eq] <;> omega) | fail)) only [go_sem, seval, ↓reduceIte, reduceCtorEq, ir13, undefV, hn]
  exact ⟨by omega, by omega, rfl⟩
abbrev startV (vC vB vR : V) (rs : Regs) (pc : BitVec 32) (n : Int) : V := .agg [vC, vB, vR, U (rs 0), U (rs 1), U (rs 2), U (rs 3), U (rs 4), U (rs 5), U (rs 6), U (rs 7), U (rs 8), U (rs 9), U (rs 10), U (rs 11), U (rs 12), U (rs 13), U (rs 14), U (rs 15), U pc, .int .i64 n]
end Go.Proofs.Ytmkdbninmimndaa
