/- The document's Run (printed by genF2.py). -/
import Derived.Test.YtmkdbninmimndaaF1
set_option linter.unusedVariables false
set_option maxRecDepth 100000
namespace Go.Proofs.Ytmkdbninmimndaa
open Go Go.Vm
variable {rm n1 : Nat} {vB vr : V} {L Q : List V} {q : Nat → Int} {rs : Regs} {pc : BitVec 32}
theorem SC.put {c : Blk} (hs : c.size = 17) (hr : c.ro = false) (rs : Regs) (pc : BitVec 32) : SC (c.putA 0 (regs17 rs pc)) rs pc :=
  ⟨by rw [Blk.size_putA]; exact hs, by rw [Blk.ro_putA]; exact hr, fun k hk => by
    rw [get_put17 hs _ rfl k (by omega)]
    rcases (show k = 0 ∨ k = 1 ∨ k = 2 ∨ k = 3 ∨ k = 4 ∨ k = 5 ∨ k = 6 ∨ k = 7 ∨ k = 8 ∨ k = 9 ∨ k = 10 ∨ k = 11 ∨ k = 12 ∨ k = 13 ∨ k = 14 ∨ k = 15 by omega) with rfl | rfl | rfl | rfl | rfl | rfl | rfl | rfl | rfl | rfl | rfl | rfl | rfl | rfl | rfl | rfl <;> rfl, by rw [get_put17 hs _ rfl 16 (by omega)]; rfl⟩
end Go.Proofs.Ytmkdbninmimndaa
