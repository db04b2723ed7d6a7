/- The document's ports: SameRing, Open. -/
import Derived.Test.YtmimialblhlklaaR8
set_option linter.unusedVariables false
set_option maxRecDepth 100000
namespace Go.Proofs.Ytmimialblhlklaa
open Go Go.Vm
variable {h : Heap} {R W I : Set'} {rd : Nat} {bl : Nat → Nat} {qs : List Nat} {S : AT}
def sameR (a b : List (List V)) : Bool := decide (a.map strB = b.map strB)
end Go.Proofs.Ytmimialblhlklaa
