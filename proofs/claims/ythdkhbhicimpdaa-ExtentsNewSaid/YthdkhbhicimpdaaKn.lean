/- The known rows, run by the machine. -/
import Derived.Test.YthdkhbhicimpdaaTy
import Derived.Test.YthdkhbhicimpdaaV3
import Derived.KernelRfl
set_option linter.unusedVariables false
set_option linter.unusedSimpArgs false
set_option linter.unusedSimpArgs false
set_option maxRecDepth 100000
namespace Go.Proofs.Ythdkhbhicimpdaa
open Go Go.Vm
theorem known_run0 : isTrue (fInvH Try.prog noHook 100000 60 (.fn 9) [] s0) = true := by kernel_rfl
theorem known_run : isTrue (evInvH Try.prog noHook 100000 60 (.fn 9) [] s0) = true := fTrue known_run0
end Go.Proofs.Ythdkhbhicimpdaa
