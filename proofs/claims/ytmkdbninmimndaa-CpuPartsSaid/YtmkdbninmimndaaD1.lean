/- What a word says, what an instruction does: plain. -/
import Derived.Test.YtmkdbninmimndaaM2
import Derived.Test.YtmkdbninmimndaaV4
set_option linter.unusedVariables false
set_option maxRecDepth 100000
namespace Go.Proofs.Ytmkdbninmimndaa
open Go Go.Vm
def formI (op : Int) : Int := if op = 3 ∨ op = 23 then 1 else if op = 24 then 2 else if op = 5 ∨ op = 6 ∨ op = 25 then 3 else if op = 7 then 4 else if 8 ≤ op ∧ op ≤ 17 then 5 else if (18 ≤ op ∧ op ≤ 22) ∨ (26 ≤ op ∧ op ≤ 28) then 6 else 0
def wideI (op : Int) : Bool := op == 3 || op == 6
abbrev Regs := Nat → BitVec 32
def setR (rs : Regs) (d : Nat) (v : BitVec 32) : Regs := fun k => if k = d then v else rs k
def regL (rs : Regs) : List V := (List.range 16).map fun k => U (rs k)
end Go.Proofs.Ytmkdbninmimndaa
