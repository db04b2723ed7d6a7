/- The document's May, Word, Of (printed by genD6.py). -/
import Derived.Test.YtmkdbninmimndaaD5
set_option linter.unusedVariables false
set_option maxRecDepth 100000
namespace Go.Proofs.Ytmkdbninmimndaa
open Go Go.Vm
end Go.Proofs.Ytmkdbninmimndaa
