/- The document's Of (printed by genD7.py). -/
import Derived.Test.YtmkdbninmimndaaD6
set_option linter.unusedVariables false
set_option maxRecDepth 100000
namespace Go.Proofs.Ytmkdbninmimndaa
open Go Go.Vm
end Go.Proofs.Ytmkdbninmimndaa
