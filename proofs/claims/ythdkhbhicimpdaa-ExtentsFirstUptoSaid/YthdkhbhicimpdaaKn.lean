/- The known rows, run by the machine. -/
import Derived.Test.YthdkhbhicimpdaaTy
import Derived.Test.YthdkhbhicimpdaaV2
import Derived.KernelRfl
set_option linter.unusedVariables false
set_option maxRecDepth 100000
namespace Go.Proofs.Ythdkhbhicimpdaa
open Go Go.Vm
theorem known_run : isTrue (evInvH Try.prog noHook 100000 60 (.fn 9) [] s0) = true := by kernel_rfl
end Go.Proofs.Ythdkhbhicimpdaa
