/- begin: both sides' New. -/
import Derived.Test.YtmimialblhlklaaG2
set_option linter.unusedVariables false
set_option maxRecDepth 100000
namespace Go.Proofs.Ytmimialblhlklaa
open Go Go.Vm
variable {h : Heap} {R W I : Set'}
theorem PortC.same {g g' : Heap} {I : Set'} {c : Blk} {o : Nat} {y : Option Pt} (hp : PortC g I c o y) (hk : ∀ k, I k → g'.get k = g.get k) : PortC g' I c o y := by
  cases y with
  | none => exact hp
  | some x =>
    obtain ⟨h1, h2, h3, h6⟩ := hp
    exact ⟨h1, LRs.same h2 fun k h _ => hk k h, h3.same hk, h6⟩
theorem RPorts.same {g g' : Heap} {I : Set'} {rd : Nat} {bl : Nat → Nat} {qs : List Nat} {S : AT} (hr : RPorts g I rd bl qs S) (hk : ∀ k, (I k ∨ ∃ a, a < qs.length ∧ k = bl a) → g'.get k = g.get k) : RPorts g' I rd bl qs S := by
  obtain ⟨⟨c, c1, c2, c3⟩, ir, b, dom, inj, imm, hq⟩ := hr
  have hI : ∀ k, I k → g'.get k = g.get k := fun k h => hk k (.inl h)
  refine ⟨⟨c, (hI rd ir).trans c1, c2, c3.same fun k h _ => hI k h⟩, ir, fun a q e => ?_, dom, inj, fun k h => ?_, hq⟩
  · obtain ⟨c, q1, q2, q3, q4⟩ := b a q e
    exact ⟨c, (hk _ (.inr ⟨a, (List.getElem?_eq_some_iff.1 e).1, rfl⟩)).trans q1, q2, q3, fun n hn => (q4 n hn).same hI⟩
  · obtain ⟨c, e, h1, h2⟩ := imm k h
    exact ⟨c, e, (hI k h).trans h1, h2⟩
end Go.Proofs.Ytmimialblhlklaa
