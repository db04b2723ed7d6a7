/- The document's ports: Tests. -/
import Derived.Test.YtmimialblhlklaaR2
set_option linter.unusedVariables false
set_option maxRecDepth 100000
namespace Go.Proofs.Ytmimialblhlklaa
open Go Go.Vm
variable {h : Heap} {R W I : Set'}
end Go.Proofs.Ytmimialblhlklaa
namespace Go.Proofs.Ytmimialblhlklaa
open Go Go.Vm
variable {h : Heap} {R W I : Set'} {rd : Nat} {bl : Nat → Nat} {qs : List Nat} {S : AT}
theorem PortC.ones {c : Blk} {o : Nat} {y : Option Pt} (hp : PortC h I c o y) : (c.get o).one = true ∧ (c.get (o + 1)).one = true ∧ (c.get (o + 2)).one = true ∧ (c.get (o + 3)).one = true := by
  cases y with
  | none => obtain ⟨h1, h2, h3, h4⟩ := hp; rw [h1, h2, h3, h4]; exact ⟨rfl, rfl, rfl, rfl⟩
  | some x => obtain ⟨h1, h2, h3, h4⟩ := hp; rw [h1, h4]; exact ⟨rfl, LRs.one h2, h3.one, rfl⟩
theorem PortC.move {c : Blk} {o : Nat} {y : Option Pt} (hp : PortC h I c o y) : PortC h I (Blk.of [c.get o, c.get (o + 1), c.get (o + 2), c.get (o + 3)]) 0 y := by
  have e : ∀ a b d e : V, (Blk.of [a, b, d, e]).get 0 = a ∧ (Blk.of [a, b, d, e]).get (0 + 1) = b ∧ (Blk.of [a, b, d, e]).get (0 + 2) = d ∧ (Blk.of [a, b, d, e]).get (0 + 3) = e := fun a b d e => ⟨rfl, rfl, rfl, rfl⟩
  obtain ⟨e0, e1, e2, e3⟩ := e (c.get o) (c.get (o + 1)) (c.get (o + 2)) (c.get (o + 3))
  cases y with
  | none => exact ⟨e0.trans hp.1, e1.trans hp.2.1, e2.trans hp.2.2.1, e3.trans hp.2.2.2⟩
  | some x =>
    obtain ⟨h1, h2, h3, h5⟩ := hp
    exact ⟨e0.trans h1, by rw [e1]; exact h2, by rw [e2]; exact h3, e3.trans h5⟩
theorem RPorts.old {h' : Heap} (hr : RPorts h I rd bl qs S) (hk : ∀ b, b < h.n → h'.get b = h.get b) : RPorts h' I rd bl qs S := hr.same fun k h1 => hk k (by
  rcases h1 with h1 | ⟨a, ha, rfl⟩
  · obtain ⟨c, e, h2, _⟩ := hr.imm k h1
    exact Heap.lt_of_get h2
  · obtain ⟨c, h2, _⟩ := hr.b a _ (List.getElem?_eq_getElem ha)
    exact Heap.lt_of_get h2)
end Go.Proofs.Ytmimialblhlklaa
namespace Go.Proofs.Ytmimialblhlklaa
open Go Go.Vm
variable {h : Heap} {R W I : Set'}
end Go.Proofs.Ytmimialblhlklaa
