/- slices.Sorted of a map's keys: the keys collected, whatever order the map hands them out in. -/
import Derived.Test.YtakgjjbmniilhaaTy
import Derived.Test.YtakgjjbmniilhaaIr
import Derived.Test.YtakgjjbmniilhaaV4
import Derived.Ground.SlgmProg
import Derived.Shelf.SortM.Plain
import Derived.Test.YtakgjjbmniilhaaProg
import Derived.Test.YtakgjjbmniilhaaV2
import Derived.Test.YtakgjjbmniilhaaMg18
import Derived.Test.YtakgjjbmniilhaaIrR
set_option linter.unusedVariables false
set_option maxRecDepth 100000
set_option linter.unusedVariables false
namespace Go.Proofs.Ytakgjjbmniilhaa
open Go Go.Vm

end Go.Proofs.Ytakgjjbmniilhaa
set_option maxRecDepth 100000
namespace Go.Proofs.Ytakgjjbmniilhaa
open Go Go.Shelf Go.Proofs
end Go.Proofs.Ytakgjjbmniilhaa
set_option maxRecDepth 100000
set_option linter.unusedVariables false
namespace Go.Proofs.Ytakgjjbmniilhaa
open Go Go.Vm

end Go.Proofs.Ytakgjjbmniilhaa
set_option maxRecDepth 100000
set_option linter.unusedVariables false
namespace Go.Proofs.Ytakgjjbmniilhaa
open Go Go.Vm
attribute [-go_sem] qQ
end Go.Proofs.Ytakgjjbmniilhaa
set_option maxRecDepth 100000
set_option linter.unusedVariables false
namespace Go.Proofs.Ytakgjjbmniilhaa
open Go Go.Vm
attribute [-go_sem] qQ
variable {h g : Heap} {R W M N : Set'} {bd lp fr ct : Nat} {D : DS} {G : LgS}
end Go.Proofs.Ytakgjjbmniilhaa
set_option maxRecDepth 100000
set_option linter.unusedVariables false
namespace Go.Proofs.Ytakgjjbmniilhaa
open Go Go.Vm
attribute [-go_sem] qQ
variable {h g : Heap} {R W M N : Set'} {bd lp fr ct : Nat} {D : DS} {G : LgS}
theorem crash_dk {v : V} {m : Nat} {ks kw : Nat → Int} {f : Nat → List V} {S : Set'} (hx : DkX h M bd D) (hR : ∀ b, R b) (hv : KeepV h S v m ks kw) (hf : crashF D ks kw m = some f) : SF Try.prog 32 [.ptr (some (bd, 0)), v] h R W fun r g => ∃ M' bd', r = .tuple [.ptr (some (bd', 0)), .int .i64 0] ∧ DkX g M' bd' (D.crashed f) ∧ (∀ k, M' k → h.n ≤ k) ∧ h.n ≤ g.n ∧ ∀ k, k < h.n → g.get k = h.get k := by
 obtain ⟨⟨L, hd, hfo⟩, hlt⟩ := hx
 refine SF.mono (crash_ok (R := R) (W := W) hd (fun b _ => hR b) (v := v) (m := m) (ks := ks) (kw := kw) ⟨hv.1, hv.2.imp id fun ⟨b, o, cap, ex, c, ce, e, _, hb, hs⟩ => ⟨b, o, cap, ex, c, ce, e, hR b, hb, hs⟩⟩).kept ?_
 rintro r g ⟨⟨hk, hq⟩, vf⟩
 rw [hf] at hq
 obtain ⟨rfl, hd'⟩ := hq
 refine ⟨_, _, rfl, DkX.mk' hd', fun k hk => ?_, vf.n, hk⟩
 rcases hk with rfl | rfl | rfl | ⟨x, hx, _⟩
 ·omega
 ·show h.n ≤ h.n + 1; omega
 ·show h.n ≤ h.n + 2; omega
 ·exact absurd rfl hx
end Go.Proofs.Ytakgjjbmniilhaa
