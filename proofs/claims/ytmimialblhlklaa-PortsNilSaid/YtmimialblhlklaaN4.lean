/- The document's ports: Come. -/
import Derived.Test.YtmimialblhlklaaRC
set_option linter.unusedVariables false
set_option maxRecDepth 100000
namespace Go.Proofs.Ytmimialblhlklaa
open Go Go.Vm
variable {h : Heap} {R W I : Set'} {rd : Nat} {bl : Nat → Nat} {qs : List Nat} {S : AT}
end Go.Proofs.Ytmimialblhlklaa
namespace Go.Proofs.Ytmimialblhlklaa
open Go Go.Vm
variable {h : Heap} {R W I : Set'} {rd : Nat} {bl : Nat → Nat} {qs : List Nat} {S : AT}
def tsO (y : Option Pt) : List Te := match y with | some x => x.ts | none => []
def ringO (y : Option Pt) : List (List V) := match y with | some x => x.ring | none => []
def lostO (y : Option Pt) : Int := match y with | some x => x.lost | none => 0
def sameP (x y : Option Pt) : Bool := (x.isSome == y.isSome) && decide (lostO x = lostO y) && decide (tsO x = tsO y) && sameR (ringO x) (ringO y)
def SameA (qs qs' : List Nat) (S S' : AT) : Prop := qs = qs' ∧ ∀ a n, sameP (S a n) (S' a n) = true
structure OkS (S : AT) : Prop where
  r : ∀ a n, (ringO (S a n)).length ≤ 8 ∧ ∀ l ∈ ringO (S a n), Byt l
  t : ∀ a n, (tsO (S a n)).length ≤ 8
theorem RPorts.none (hr : RPorts h I rd bl qs S) {a n : Nat} (hn : ∀ q, qs[a]? = some q → ¬ n < q) : S a n = Option.none := by
  cases e : S a n with
  | none => rfl
  | some x =>
    obtain ⟨q, h1, h2⟩ := hr.dom _ _ _ e
    exact absurd h2 (hn q h1)
end Go.Proofs.Ytmimialblhlklaa
