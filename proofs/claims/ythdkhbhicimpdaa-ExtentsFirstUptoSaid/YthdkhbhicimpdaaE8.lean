/- stands. -/
import Derived.Test.YthdkhbhicimpdaaE7
set_option linter.unusedVariables false
set_option maxRecDepth 100000
namespace Go.Proofs.Ythdkhbhicimpdaa
open Go Go.Vm
attribute [-go_sem] sz_113
end Go.Proofs.Ythdkhbhicimpdaa
