/- A step on both machines: taken apart; kinds 2, 4, 5. -/
import Derived.Test.YtmimialblhlklaaRJ
set_option linter.unusedVariables false
set_option maxRecDepth 100000
namespace Go.Proofs.Ytmimialblhlklaa
open Go Go.Vm
variable {hb g0 : Heap} {R W M0 MD0 : Set'} {pp rd sb : Nat} {qs : List Nat} {S : AT} {kd a n : Int} {vf vp : V} {L : List Te} {l : List V} {tr : Tr V} {Q : Ex → Fr → Heap → Prop} {t : List It}
structure StB (g : Heap) (sb : Nat) (kd a n : Int) (vf vp : V) : Prop where
  c : ∃ c, g.get sb = some (.cells c 49) ∧ c.size = 5 ∧ c.get 0 = .int .i64 kd ∧ c.get 1 = .int .i64 a ∧ c.get 2 = .int .i64 n ∧ c.get 3 = vf ∧ c.get 4 = vp
theorem StB.at' {g : Heap} {M MD : Set'} {S' SD : AT} {pp' : Nat} (h : StB g0 sb kd a n vf vp) (hs : ¬ (M0 sb ∨ MD0 sb)) (q : BothQ hb g0 g M0 MD0 pp' M rd MD qs S' SD) : StB g sb kd a n vf vp := by
  obtain ⟨c, h1, h2⟩ := h.c
  exact ⟨c, by rw [q.k _ (Heap.lt_of_get h1) hs]; exact h1, h2⟩
end Go.Proofs.Ytmimialblhlklaa
