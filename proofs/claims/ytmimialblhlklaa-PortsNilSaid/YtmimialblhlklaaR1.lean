/- The document's ports: in, ask. -/
import Derived.Test.YtmimialblhlklaaG3
set_option linter.unusedVariables false
set_option maxRecDepth 100000
namespace Go.Proofs.Ytmimialblhlklaa
open Go Go.Vm
variable {h : Heap} {R W I : Set'} {rd : Nat} {bl : Nat → Nat} {qs : List Nat} {S : AT}
theorem RPorts.lenV (hr : RPorts h I rd bl qs S) : ∃ c, h.get rd = some (.cells c 106) ∧ c.size = 1 ∧ (∀ g, lenV Try.prog 104 (c.get 0) g = some (qs.length, [])) ∧ (c.get 0).one = true ∧ LR h I (c.get 0) (slV bl qs) := by
  obtain ⟨c, c1, c2, c3⟩ := hr.c
  have := c3.lenV Try.underlying104
  rw [slV_len] at this
  exact ⟨c, c1, c2, this, c3.one, c3⟩
theorem RPorts.acc (hr : RPorts h I rd bl qs S) {i : Nat} (hi : i < qs.length) : ∃ c b o cap ex cc ce, h.get rd = some (.cells c 106) ∧ c.size = 1 ∧ c.get 0 = .slice (some (b, o)) qs.length cap ex ∧ h.get b = some (.cells cc ce) ∧ o + qs.length ≤ cc.size ∧ cc.get (o + i) = .slice (some (bl i, 0)) qs[i] qs[i] true ∧ I b := by
  obtain ⟨c, c1, c2, c3⟩ := hr.c
  obtain ⟨b, o, cap, ex, cc, ce, e, hb, h1, h2, h3⟩ := c3.get (i := i) (by rw [slV_len]; exact hi)
  rw [slV_len] at e h2
  refine ⟨c, b, o, cap, ex, cc, ce, c1, c2, e, h1, h2, ?_, hb⟩
  rw [h3, List.getD_eq_getElem?_getD, slV_get bl qs (List.getElem?_eq_getElem hi)]; rfl
end Go.Proofs.Ytmimialblhlklaa
