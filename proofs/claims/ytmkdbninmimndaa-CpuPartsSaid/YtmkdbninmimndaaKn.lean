/- The known rows, run by the machine. -/
import Derived.Test.YtmkdbninmimndaaTy
import Derived.Test.YtmkdbninmimndaaV2
import Derived.KernelRfl
set_option linter.unusedVariables false
set_option maxRecDepth 100000
namespace Go.Proofs.Ytmkdbninmimndaa
open Go Go.Vm
theorem known_run : isTrue (evInvH Try.prog noHook 100000 60 (.fn 10) [] s0) = true := by kernel_rfl
end Go.Proofs.Ytmkdbninmimndaa
