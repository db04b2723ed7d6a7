/- Keeps of an account that is not there. -/
import Derived.Test.YthdkhbhicimpdaaFB
set_option linter.unusedVariables false
set_option maxRecDepth 100000
namespace Go.Proofs.Ythdkhbhicimpdaa
open Go Go.Vm
attribute [-go_sem] sz_113
theorem rkeeps_bad {h : Heap} {R W SX : Set'} {rx rd qb hb : Nat} {hk : Nat → Nat} {X : XS} (hr : RExt h SX rx rd qb hb hk X) (hR : ∀ b, R b) {a : Int} (ha : ¬ (0 ≤ a ∧ a < X.n)) (w : V) :
    SF Try.prog 54 [.ptr (some (rx, 0)), .int .i64 a, w] h R W fun r h' => r = .tuple [.slice none 0 0 true, .int .i64 2] ∧ h' = h := by
  refine SF.go hm Try.func54 ir54_eq ?_
  simp -implicitDefEqProofs (disch := (first | omega | fail)) only [go_sem, Nat.reduceAdd, Nat.reduceSub, Nat.reduceLT, Nat.reduceMod, Nat.reduceDiv, ↓reduceIte, reduceCtorEq, ir54]
  refine GCall.of (rin_ok hr (fun b _ => .inr (hR b)) a) ?_
  rintro v h' ⟨rfl, rfl⟩
  rw [decide_eq_false ha]
  simp -implicitDefEqProofs (disch := (first | omega | fail)) only [go_sem, Nat.reduceAdd, Nat.reduceSub, Nat.reduceLT, Nat.reduceMod, Nat.reduceDiv, ↓reduceIte, reduceCtorEq]
theorem xkeeps_bad {h : Heap} {R W : Set'} {bx bd : Nat} {tb : Nat → Nat} {X : XS} (hx : ExtAt h bx bd tb X) (hR : ∀ b, R b) {a : Int} (ha : ¬ (0 ≤ a ∧ a < X.n)) (w : V) :
    SF Try.prog 47 [.ptr (some (bx, 0)), .int .i64 a, w] h R W fun r h' => r = .tuple [.slice none 0 0 true, .int .i64 2] ∧ h' = h := by
  refine SF.go hm Try.func47 ir47_eq ?_
  simp -implicitDefEqProofs (disch := (first | omega | fail)) only [go_sem, Nat.reduceAdd, Nat.reduceSub, Nat.reduceLT, Nat.reduceMod, Nat.reduceDiv, ↓reduceIte, reduceCtorEq, ir47]
  refine GCall.of (of_bad hx (.inr (hR _)) ha) ?_
  rintro v h' ⟨rfl, rfl⟩
  simp -implicitDefEqProofs (disch := (first | omega | fail)) only [go_sem, Nat.reduceAdd, Nat.reduceSub, Nat.reduceLT, Nat.reduceMod, Nat.reduceDiv, ↓reduceIte, reduceCtorEq]
def DoX (P : Set') (X0 : XS) (K : Nat) (v : V) (h' : Heap) : Prop := ∃ (u : UU) (SX SD : Set') (rx rd qb hb fb pb : Nat) (hk : Nat → Nat), v = .tuple [.agg [.ptr (some (u.bx, 0)), .ptr (some (u.bd, 0)), .ptr (some (rx, 0))], .bool true] ∧ PX P h' u u.X u.D SX SD rx rd qb hb fb pb hk ∧ (∀ s, (u.D.pe s).length ≤ K + 1) ∧ u.X.n = X0.n ∧ u.X.first = X0.first ∧ u.X.count = X0.count
end Go.Proofs.Ythdkhbhicimpdaa
