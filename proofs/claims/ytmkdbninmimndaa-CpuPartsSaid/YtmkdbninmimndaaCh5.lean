/- CpuMoves' code in pieces (printed by ir_chain.py). -/
import Derived.Test.YtmkdbninmimndaaIr2
set_option linter.unusedVariables false
set_option maxRecDepth 100000
namespace Go.Proofs.Ytmkdbninmimndaa
open Go Go.Vm
end Go.Proofs.Ytmkdbninmimndaa
