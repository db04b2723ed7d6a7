/- CpuMoves' code in pieces (printed by ir_chain.py). -/
import Derived.Test.YtmkdbninmimndaaIr3
set_option linter.unusedVariables false
set_option maxRecDepth 100000
namespace Go.Proofs.Ytmkdbninmimndaa
open Go Go.Vm
theorem ir3_r0_eq : ir3_r0 = .seq ir3_s0 ir3_r1 := rfl
theorem ir3_r1_eq : ir3_r1 = .seq ir3_s1 ir3_r2 := rfl
theorem ir3_r2_eq : ir3_r2 = .seq ir3_s2 ir3_r3 := rfl
theorem ir3_r3_eq : ir3_r3 = .seq ir3_s3 ir3_r4 := rfl
theorem ir3_r4_eq : ir3_r4 = .seq ir3_s4 ir3_r5 := rfl
theorem ir3_r5_eq : ir3_r5 = .seq ir3_s5 ir3_r6 := rfl
theorem ir3_r6_eq : ir3_r6 = .seq ir3_s6 ir3_r7 := rfl
theorem ir3_chain : ir3 = ir3_r0 := rfl
end Go.Proofs.Ytmkdbninmimndaa
