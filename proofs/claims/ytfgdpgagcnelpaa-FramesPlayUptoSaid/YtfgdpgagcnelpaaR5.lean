/- The document's pool: Put's refusals. -/
import Derived.Test.YtfgdpgagcnelpaaR4
set_option linter.unusedVariables false
set_option linter.unusedSimpArgs false
set_option linter.unusedSimpArgs false
set_option maxRecDepth 100000
set_option linter.unusedVariables false
set_option linter.unusedSimpArgs false
namespace Go.Proofs.Ytfgdpgagcnelpaa
open Go Go.Vm
theorem rput_bad {h : Heap} {R W Rv : Set'} {n0 rd : Nat} {L : RL} {S : PS} {bv : Nat → V} (hr : RPool h n0 rd L S bv) (hR : ∀ b, R b) {v : V} {m : Nat} {g : Nat → Int} (hv : BytesV h Rv v m g) (k at' : Int) (hk : ¬ (0 ≤ at' ∧ at' < 256 ∧ m ≤ 256 - at')) :
    SF Try.prog 50 [.ptr (some (rd, 0)), .int .i64 k, .int .i64 at', v] h R W fun v h' => v = .int .i64 2 ∧ h' = h := by
  have hlv := hv.lenV
  have hml := hv.len
  refine SF.go hm Try.func50 ir50_eq ?_
  by_cases h0 : at' < 0
  · simp -implicitDefEqProofs (disch := (first | omega | (simp -implicitDefEqProofs only [szs, ne_eq] <;> omega) | fail)) only [go_sem, Nat.reduceAdd, Nat.reduceSub, Nat.reduceMul, Nat.reduceLT, Nat.reduceMod, Nat.reduceDiv, Nat.reduceEqDiff, Nat.reduceBEq, Nat.reduceLeDiff, ↓reduceIte, reduceCtorEq, Int.reduceAdd, Int.reduceSub, Int.reduceLT, Int.reduceLE, Int.reduceBEq, Int.reduceEq, Int.reduceToNat, ir50, ↓hlv, h0, undefV]
  · by_cases h1 : at' ≥ 256
    · simp -implicitDefEqProofs (disch := (first | omega | (simp -implicitDefEqProofs only [szs, ne_eq] <;> omega) | fail)) only [go_sem, Nat.reduceAdd, Nat.reduceSub, Nat.reduceMul, Nat.reduceLT, Nat.reduceMod, Nat.reduceDiv, Nat.reduceEqDiff, Nat.reduceBEq, Nat.reduceLeDiff, ↓reduceIte, reduceCtorEq, Int.reduceAdd, Int.reduceSub, Int.reduceLT, Int.reduceLE, Int.reduceBEq, Int.reduceEq, Int.reduceToNat, ir50, ↓hlv, h0, h1, undefV]
    · have h2 : (m : Int) > 256 - at' := by omega
      simp -implicitDefEqProofs (disch := (first | omega | (simp -implicitDefEqProofs only [szs, ne_eq] <;> omega) | fail)) only [go_sem, Nat.reduceAdd, Nat.reduceSub, Nat.reduceMul, Nat.reduceLT, Nat.reduceMod, Nat.reduceDiv, Nat.reduceEqDiff, Nat.reduceBEq, Nat.reduceLeDiff, ↓reduceIte, reduceCtorEq, Int.reduceAdd, Int.reduceSub, Int.reduceLT, Int.reduceLE, Int.reduceBEq, Int.reduceEq, Int.reduceToNat, ir50, ↓hlv, h0, h1, h2, undefV]
theorem rput_none {h : Heap} {R W Rv : Set'} {n0 rd : Nat} {L : RL} {S : PS} {bv : Nat → V} (hr : RPool h n0 rd L S bv) (w : WF S) (hR : ∀ b, R b) {v : V} {m : Nat} {g : Nat → Int} (hv : BytesV h Rv v m g) (k at' : Int) (hk : 0 ≤ at' ∧ at' < 256 ∧ m ≤ 256 - at') (ho : ¬ Owned S k) :
    SF Try.prog 50 [.ptr (some (rd, 0)), .int .i64 k, .int .i64 at', v] h R W fun v h' => v = .int .i64 6 ∧ h' = h := by
  have hlv := hv.lenV
  have h0 : ¬ at' < 0 := by omega
  have h1 : ¬ at' ≥ 256 := by omega
  have h2 : ¬ (m : Int) > 256 - at' := by omega
  refine SF.go hm Try.func50 ir50_eq ?_
  simp -implicitDefEqProofs (disch := (first | omega | (simp -implicitDefEqProofs only [szs, ne_eq] <;> omega) | fail)) only [go_sem, Nat.reduceAdd, Nat.reduceSub, Nat.reduceMul, Nat.reduceLT, Nat.reduceMod, Nat.reduceDiv, Nat.reduceEqDiff, Nat.reduceBEq, Nat.reduceLeDiff, ↓reduceIte, reduceCtorEq, Int.reduceAdd, Int.reduceSub, Int.reduceLT, Int.reduceLE, Int.reduceBEq, Int.reduceEq, Int.reduceToNat, ir50, ↓hlv, h0, h1, h2, undefV]
  refine GCall.of (rowned_ok hr w (fun b => .inr (hR b)) k) ?_
  rintro _ h3 ⟨rfl, rfl⟩
  rw [decide_eq_false ho]
  simp -implicitDefEqProofs (disch := (first | omega | (simp -implicitDefEqProofs only [szs, ne_eq] <;> omega) | fail)) only [go_sem, Nat.reduceAdd, Nat.reduceSub, Nat.reduceMul, Nat.reduceLT, Nat.reduceMod, Nat.reduceDiv, Nat.reduceEqDiff, Nat.reduceBEq, Nat.reduceLeDiff, ↓reduceIte, reduceCtorEq, Int.reduceAdd, Int.reduceSub, Int.reduceLT, Int.reduceLE, Int.reduceBEq, Int.reduceEq, Int.reduceToNat]
end Go.Proofs.Ytfgdpgagcnelpaa
