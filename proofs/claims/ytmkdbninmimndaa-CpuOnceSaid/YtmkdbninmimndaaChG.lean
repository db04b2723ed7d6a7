/- CpuMoves' code in pieces (printed by ir_chain.py). -/
import Derived.Test.YtmkdbninmimndaaIr3
set_option linter.unusedVariables false
set_option maxRecDepth 100000
namespace Go.Proofs.Ytmkdbninmimndaa
open Go Go.Vm
theorem ir4_r0_eq : ir4_r0 = .seq ir4_s0 ir4_r1 := rfl
theorem ir4_r1_eq : ir4_r1 = .seq ir4_s1 ir4_r2 := rfl
theorem ir4_r2_eq : ir4_r2 = .seq ir4_s2 ir4_r3 := rfl
theorem ir4_r3_eq : ir4_r3 = .seq ir4_s3 ir4_r4 := rfl
theorem ir4_r4_eq : ir4_r4 = .seq ir4_s4 ir4_r5 := rfl
theorem ir4_r5_eq : ir4_r5 = .seq ir4_s5 ir4_r6 := rfl
theorem ir4_r6_eq : ir4_r6 = .seq ir4_s6 ir4_r7 := rfl
theorem ir4_r7_eq : ir4_r7 = .seq ir4_s7 ir4_r8 := rfl
theorem ir4_r8_eq : ir4_r8 = .seq ir4_s8 ir4_r9 := rfl
theorem ir4_r9_eq : ir4_r9 = .seq ir4_s9 ir4_r10 := rfl
theorem ir4_r10_eq : ir4_r10 = .seq ir4_s10 ir4_r11 := rfl
theorem ir4_r11_eq : ir4_r11 = .seq ir4_s11 ir4_r12 := rfl
theorem ir4_r12_eq : ir4_r12 = .seq ir4_s12 ir4_r13 := rfl
theorem ir4_r13_eq : ir4_r13 = .seq ir4_s13 ir4_r14 := rfl
theorem ir4_r14_eq : ir4_r14 = .seq ir4_s14 ir4_r15 := rfl
theorem ir4_r15_eq : ir4_r15 = .seq ir4_s15 ir4_r16 := rfl
theorem ir4_r16_eq : ir4_r16 = .seq ir4_s16 ir4_r17 := rfl
theorem ir4_r17_eq : ir4_r17 = .seq ir4_s17 ir4_r18 := rfl
theorem ir4_chain : ir4 = ir4_r0 := rfl
end Go.Proofs.Ytmkdbninmimndaa
