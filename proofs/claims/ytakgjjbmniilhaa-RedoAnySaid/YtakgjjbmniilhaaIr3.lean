/- The code of known, reckoned. -/
import Derived.Test.YtakgjjbmniilhaaProg
import Derived.Test.YtakgjjbmniilhaaV4
import Derived.KernelRfl
set_option linter.unusedVariables false
set_option maxRecDepth 100000
namespace Go.Proofs.Ytakgjjbmniilhaa
open Go Go.Vm
noncomputable def ir7 : LC := pk (ir0 Try.f7 [] []) _
theorem ir7_eq : IrV Try.f7 = (some ir7, 172, [.tmp 0]) := by kernel_rfl


end Go.Proofs.Ytakgjjbmniilhaa
