/- The code of this seat struck bare (printed by program). -/
import Derived.Test.YtakgjjbmniilhaaProg
import Derived.Test.YtakgjjbmniilhaaV4
import Derived.KernelRfl
set_option linter.unusedVariables false
set_option linter.unusedSimpArgs false
set_option linter.unusedSimpArgs false
set_option maxRecDepth 100000
namespace Go.Proofs.Ytakgjjbmniilhaa
open Go Go.Vm
noncomputable def ir6_l0 : LC := pk (irl Try.f6 [] [] 0) _
noncomputable def ir6_l1 : LC := (pk (fun l0 => irl Try.f6 [l0] [] 1) _) ir6_l0
noncomputable def ir6 : LC := (pk (fun l0 l1 => ir0 Try.f6 [l0, l1] []) _) ir6_l0 ir6_l1
theorem ir6_eq : IrV Try.f6 = (some ir6, 179, [.tmp 6]) := by kernel_rfl
noncomputable def rc31 := rcs Try.f31
noncomputable def ir31_a0 : LC := (pk (fun r => ira Try.f31 [] [r 0] 0) _) rc31
noncomputable def ir31_b0 : LC := (pk (fun r => irb Try.f31 [] [r 0] 0) _) rc31
theorem ir31_a0_eq : low (rc31 0).1 = ir31_a0 := by kernel_rfl
theorem ir31_b0_eq : low (rc31 0).2 = ir31_b0 := by kernel_rfl
noncomputable def ir31 : LC := (pk (fun r => ir0 Try.f31 [] [r 0]) _) rc31
theorem ir31_eq : IrV Try.f31 = (some ir31, 75, [.tmp 6, .tmp 7, .tmp 8]) := by kernel_rfl

end Go.Proofs.Ytakgjjbmniilhaa
