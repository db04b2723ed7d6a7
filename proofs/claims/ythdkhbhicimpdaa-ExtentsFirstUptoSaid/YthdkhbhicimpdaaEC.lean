/- ExtentsNew: the law. -/
import Derived.Test.YthdkhbhicimpdaaEB
import Derived.Test.YthdkhbhicimpdaaV4
set_option linter.unusedVariables false
set_option maxRecDepth 100000
namespace Go.Proofs.Ythdkhbhicimpdaa
open Go Go.Vm
attribute [-go_sem] sz_113
def WN (H : Heap) : Set' := fun b => H.n ≤ b
end Go.Proofs.Ythdkhbhicimpdaa
