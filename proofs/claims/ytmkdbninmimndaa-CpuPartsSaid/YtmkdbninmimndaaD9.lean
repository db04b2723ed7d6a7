/- The document's words in memory. -/
import Derived.Test.YtmkdbninmimndaaD8
set_option linter.unusedVariables false
set_option maxRecDepth 100000
namespace Go.Proofs.Ytmkdbninmimndaa
open Go Go.Vm
def wN (L : List V) (a : Nat) : Nat := wd fun i => bN L (ad a i)
end Go.Proofs.Ytmkdbninmimndaa
