/- goes: an account's runs gone over. -/
import Derived.Test.YthdkhbhicimpdaaE5
set_option linter.unusedVariables false
set_option maxRecDepth 100000
namespace Go.Proofs.Ythdkhbhicimpdaa
open Go Go.Vm
end Go.Proofs.Ythdkhbhicimpdaa
