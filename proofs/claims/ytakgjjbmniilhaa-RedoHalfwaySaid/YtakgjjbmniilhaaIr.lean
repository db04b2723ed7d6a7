/- The code of this seat struck bare (printed by program). -/
import Derived.Test.YtakgjjbmniilhaaProg
import Derived.Test.YtakgjjbmniilhaaV4
import Derived.KernelRfl
set_option linter.unusedVariables false
set_option linter.unusedSimpArgs false
set_option linter.unusedSimpArgs false
set_option maxRecDepth 100000
namespace Go.Proofs.Ytakgjjbmniilhaa
open Go Go.Vm
noncomputable def ir86 : LC := pk (ir0 Try.f86 [] []) _
theorem ir86_eq : IrV Try.f86 = (some ir86, 9, [.tmp 2]) := by kernel_rfl
noncomputable def ir87 : LC := pk (ir0 Try.f87 [] []) _
theorem ir87_eq : IrV Try.f87 = (some ir87, 4, [.tmp 2]) := by kernel_rfl
noncomputable def ir97 : LC := pk (ir0 Try.f97 [] []) _
theorem ir97_eq : IrV Try.f97 = (some ir97, 5, [.tmp 2]) := by kernel_rfl
noncomputable def ir99_l0 : LC := pk (irl Try.f99 [] [] 0) _
noncomputable def ir99 : LC := (pk (fun l0 => ir0 Try.f99 [l0] []) _) ir99_l0
theorem ir99_eq : IrV Try.f99 = (some ir99, 14, []) := by kernel_rfl
noncomputable def rc102 := rcs Try.f102
noncomputable def ir102_a0 : LC := (pk (fun r => ira Try.f102 [] [r 0] 0) _) rc102
noncomputable def ir102_b0 : LC := (pk (fun r => irb Try.f102 [] [r 0] 0) _) rc102
theorem ir102_a0_eq : low (rc102 0).1 = ir102_a0 := by kernel_rfl
theorem ir102_b0_eq : low (rc102 0).2 = ir102_b0 := by kernel_rfl
noncomputable def ir102 : LC := (pk (fun r => ir0 Try.f102 [] [r 0]) _) rc102
theorem ir102_eq : IrV Try.f102 = (some ir102, 13, [.tmp 4]) := by kernel_rfl

end Go.Proofs.Ytakgjjbmniilhaa
