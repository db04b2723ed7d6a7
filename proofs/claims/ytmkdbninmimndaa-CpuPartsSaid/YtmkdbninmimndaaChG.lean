/- CpuMoves' code in pieces (printed by ir_chain.py). -/
import Derived.Test.YtmkdbninmimndaaIr3
set_option linter.unusedVariables false
set_option maxRecDepth 100000
namespace Go.Proofs.Ytmkdbninmimndaa
open Go Go.Vm
theorem ir6_r0_eq : ir6_r0 = .seq ir6_s0 ir6_r1 := rfl
theorem ir6_r1_eq : ir6_r1 = .seq ir6_s1 ir6_r2 := rfl
theorem ir6_r2_eq : ir6_r2 = .seq ir6_s2 ir6_r3 := rfl
theorem ir6_r3_eq : ir6_r3 = .seq ir6_s3 ir6_r4 := rfl
theorem ir6_r4_eq : ir6_r4 = .seq ir6_s4 ir6_r5 := rfl
theorem ir6_r5_eq : ir6_r5 = .seq ir6_s5 ir6_r6 := rfl
theorem ir6_r6_eq : ir6_r6 = .seq ir6_s6 ir6_r7 := rfl
theorem ir6_r7_eq : ir6_r7 = .seq ir6_s7 ir6_r8 := rfl
theorem ir6_r8_eq : ir6_r8 = .seq ir6_s8 ir6_r9 := rfl
theorem ir6_r9_eq : ir6_r9 = .seq ir6_s9 ir6_r10 := rfl
theorem ir6_r10_eq : ir6_r10 = .seq ir6_s10 ir6_r11 := rfl
theorem ir6_r11_eq : ir6_r11 = .seq ir6_s11 ir6_r12 := rfl
theorem ir6_chain : ir6 = ir6_r0 := rfl
end Go.Proofs.Ytmkdbninmimndaa
