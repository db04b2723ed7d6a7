/- Runs as a list. -/
import Derived.Test.YthdkhbhicimpdaaE2
set_option linter.unusedVariables false
set_option maxRecDepth 100000
namespace Go.Proofs.Ythdkhbhicimpdaa
open Go Go.Vm
def rl (f : Nat → Bool) : Nat → List (Nat × Nat)
  | 0 => []
  | i + 1 => if f i = false then rl f i else match (rl f i).getLast? with
    | some x => if x.1 + x.2 = i then (rl f i).dropLast ++ [(x.1, x.2 + 1)] else rl f i ++ [(i, 1)]
    | none => [(i, 1)]
end Go.Proofs.Ythdkhbhicimpdaa
