/- The code of step in pieces (printed by ir_chain.py). -/
import Derived.Test.YtmkdbninmimndaaE3
set_option linter.unusedVariables false
set_option maxRecDepth 100000
namespace Go.Proofs.Ytmkdbninmimndaa
open Go Go.Vm
theorem ir27_r0_eq : ir27_r0 = .seq ir27_s0 ir27_r1 := rfl
theorem ir27_r1_eq : ir27_r1 = .seq ir27_s1 ir27_r2 := rfl
theorem ir27_r2_eq : ir27_r2 = .seq ir27_s2 ir27_r3 := rfl
theorem ir27_r3_eq : ir27_r3 = .seq ir27_s3 ir27_r4 := rfl
theorem ir27_r4_eq : ir27_r4 = .seq ir27_s4 ir27_r5 := rfl
theorem ir27_r5_eq : ir27_r5 = .seq ir27_s5 ir27_r6 := rfl
theorem ir27_r6_eq : ir27_r6 = .seq ir27_s6 ir27_r7 := rfl
theorem ir27_r7_eq : ir27_r7 = .seq ir27_s7 ir27_r8 := rfl
theorem ir27_r8_eq : ir27_r8 = .seq ir27_s8 ir27_r9 := rfl
theorem ir27_r9_eq : ir27_r9 = .seq ir27_s9 ir27_r10 := rfl
theorem ir27_r10_eq : ir27_r10 = .seq ir27_s10 ir27_r11 := rfl
theorem ir27_r11_eq : ir27_r11 = .seq ir27_s11 ir27_r12 := rfl
theorem ir27_r12_eq : ir27_r12 = .seq ir27_s12 ir27_r13 := rfl
theorem ir27_chain : ir27 = ir27_r0 := rfl
end Go.Proofs.Ytmkdbninmimndaa
