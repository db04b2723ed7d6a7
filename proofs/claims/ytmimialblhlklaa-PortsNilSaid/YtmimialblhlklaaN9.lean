/- The law's stands. -/
import Derived.Test.YtmimialblhlklaaRR
import Derived.Test.YtmimialblhlklaaH3
import Derived.Test.YtmimialblhlklaaRO
set_option linter.unusedVariables false
set_option maxRecDepth 100000
namespace Go.Proofs.Ytmimialblhlklaa
open Go Go.Vm
variable {h : Heap} {R W : Set'} {M MD : Set'} {pp rd : Nat} {qs : List Nat} {S : AT}
end Go.Proofs.Ytmimialblhlklaa
namespace Go.Proofs.Ytmimialblhlklaa
open Go Go.Vm
variable {hb : Heap} {R W : Set'} {tr : Tr V} {Q : Ex → Fr → Heap → Prop} {t : List It}
end Go.Proofs.Ytmimialblhlklaa
