/- The document's Step (printed by genED.py). -/
import Derived.Test.YtmkdbninmimndaaEC
set_option linter.unusedVariables false
set_option maxRecDepth 100000
namespace Go.Proofs.Ytmkdbninmimndaa
open Go Go.Vm
variable {h0 g : Heap} {tr : Tr V} {sp ip k4 k5 rm n1 N : Nat} {vB vr : V} {L Q : List V} {q : Nat → Int} {rs : Regs} {pc : BitVec 32} {op d a b : Nat} {m : Int} {W : Set'}
end Go.Proofs.Ytmkdbninmimndaa
