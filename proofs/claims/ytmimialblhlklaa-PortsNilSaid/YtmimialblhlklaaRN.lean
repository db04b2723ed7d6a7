/- A step on both machines: kind 1. -/
import Derived.Test.YtmimialblhlklaaN7
set_option linter.unusedVariables false
set_option maxRecDepth 100000
namespace Go.Proofs.Ytmimialblhlklaa
open Go Go.Vm
variable {hb g0 : Heap} {R W M0 MD0 : Set'} {pp rd sb : Nat} {qs : List Nat} {S : AT} {kd a n : Int} {vf vp : V} {L : List Te} {l : List V} {tr : Tr V} {Q : Ex → Fr → Heap → Prop} {t : List It}
def StepQ (hb g g' : Heap) (M MD : Set') (rd : Nat) (qs : List Nat) (pp' : Nat) (S : AT) : Prop := ∃ M' MD', Both hb g' pp' M' rd MD' qs S S ∧ (∀ k, M' k → M k ∨ g.n ≤ k) ∧ (∀ k, MD' k → MD k ∨ g.n ≤ k) ∧ g.n ≤ g'.n ∧ ∀ k, k < g.n → ¬ (M k ∨ MD k) → g'.get k = g.get k
end Go.Proofs.Ytmimialblhlklaa
