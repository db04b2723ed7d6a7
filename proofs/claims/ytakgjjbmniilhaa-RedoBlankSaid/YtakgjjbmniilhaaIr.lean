/- The code of this seat struck bare (printed by program). -/
import Derived.Test.YtakgjjbmniilhaaProg
import Derived.Test.YtakgjjbmniilhaaV4
import Derived.KernelRfl
set_option linter.unusedVariables false
set_option linter.unusedSimpArgs false
set_option linter.unusedSimpArgs false
set_option maxRecDepth 100000
namespace Go.Proofs.Ytakgjjbmniilhaa
open Go Go.Vm
def ir86 : LC := (.seq (.ops [⟨some 2, .assign (.const (.slice none 0 0)), none⟩])
 (.seq (.ops [⟨some 4, .move (.tmp 0), none⟩,
 ⟨some 5, .call ⟨.value (.func 97), #[.tmp 4], #[148]⟩, none⟩,
 ⟨some 3, .assign (.tmp 5), none⟩])
 (.seq (.ops [⟨some 6, .move (.tmp 3), none⟩,
 ⟨some 7, .call ⟨.value (.func 98), #[.tmp 6], #[66]⟩, none⟩])
 (.seq (.ops [⟨some 8, .move (.tmp 3), none⟩,
 ⟨some 2, .assign (.tmp 8), none⟩])
 .ret))))
theorem ir86_eq : (Try.f86.body.map low, Try.f86.ntmps, Try.f86.results.toList) = (some ir86, 9, [.tmp 2]) := by kernel_rfl
def ir97 : LC := (.seq (.ops [⟨some 2, .assign (.const (.slice none 0 0)), none⟩])
 (.seq (.ops [⟨some 3, .move (.tmp 0), none⟩,
 ⟨some 4, .call ⟨.value (.func 102), #[.const (.slice none 0 0), .tmp 3], #[66, 148]⟩, none⟩,
 ⟨some 2, .assign (.tmp 4), none⟩])
 .ret))
theorem ir97_eq : (Try.f97.body.map low, Try.f97.ntmps, Try.f97.results.toList) = (some ir97, 5, [.tmp 2]) := by kernel_rfl
def ir99_l0 : LC := (.seq (.ops [⟨some 6, .next (.tmp 5) false, none⟩,
 ⟨some 7, .extract (.tmp 6) 0, none⟩])
 (.seq (.cond (.tmp 7)
 .skip
 (.exit 0))
 (.block 1 (.seq (.ops [⟨some 8, .entry (.tmp 5), none⟩,
 ⟨some 9, .extract (.tmp 8) 0, none⟩,
 ⟨some 3, .assign (.tmp 9), none⟩])
 (.seq (.ops [⟨some 10, .move (.tmp 0), none⟩,
 ⟨some 11, .move (.tmp 3), none⟩,
 ⟨some 12, .call ⟨.value (.tmp 10), #[.tmp 11], #[3]⟩, none⟩,
 ⟨some 13, .unOp .not 4 (.tmp 12), none⟩])
 (.cond (.tmp 13)
 .ret
 .skip))))))
def ir99 : LC := (.seq (.ops [⟨some 4, .load 78 (.tmp 1), none⟩,
 ⟨some 5, .range 78 (.tmp 4), none⟩])
 (.block 0 (.loop ir99_l0)))
theorem ir99_eq : (Try.f99.body.map low, Try.f99.ntmps, Try.f99.results.toList) = (some ir99, 14, []) := by kernel_rfl
noncomputable def rc102 (i : Nat) : Code × Code := (((Try.f102.body.map rangesOf).getD [])[i]?).getD (.skip, .skip)
noncomputable def ir102_a0 : LC := (.ops [⟨some 5, .assign (.tmp 7), none⟩])
noncomputable def ir102_b0 : LC := (.block 1 (.ops [⟨some 8, .load 66 (.tmp 2), none⟩,
 ⟨some 9, .move (.tmp 5), none⟩,
 ⟨some 10, .buildSlice 66 1 #[(0, .tmp 9)], none⟩,
 ⟨some 11, .call ⟨.builtin .append, #[.tmp 8, .tmp 10], #[66, 66]⟩, none⟩,
 ⟨none, .store 66 (.tmp 2) (.tmp 11), none⟩]))
theorem ir102_a0_eq : low (rc102 0).1 = ir102_a0 := by kernel_rfl
theorem ir102_b0_eq : low (rc102 0).2 = ir102_b0 := by kernel_rfl
noncomputable def ir102 : LC := (.seq (.ops [⟨some 2, .box 66 (.tmp 0), none⟩,
 ⟨some 4, .assign (.const (.slice none 0 0)), none⟩])
 (.seq (.seq (.ops [⟨some 6, .move (.tmp 1), none⟩])
 (.block 0 (.range (.tmp 6) #[7] (rc102 0).1 (rc102 0).2)))
 (.seq (.ops [⟨some 12, .load 66 (.tmp 2), none⟩,
 ⟨some 4, .assign (.tmp 12), none⟩])
 .ret)))
theorem ir102_eq : (Try.f102.body.map low, Try.f102.ntmps, Try.f102.results.toList) = (some ir102, 13, [.tmp 4]) := by kernel_rfl



end Go.Proofs.Ytakgjjbmniilhaa
