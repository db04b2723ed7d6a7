/- PortsApart: what concerns one account alone. -/
import Derived.Test.YtmimialblhlklaaG4
set_option linter.unusedVariables false
set_option maxRecDepth 100000
namespace Go.Proofs.Ytmimialblhlklaa
open Go Go.Vm
variable {qs : List Nat} {S S' : AT}
end Go.Proofs.Ytmimialblhlklaa
namespace Go.Proofs.Ytmimialblhlklaa
open Go Go.Vm
variable {h : Heap} {R W : Set'}
def StepIs (h : Heap) (vf vp : V) (L : List Te) (l : List V) : Prop := TestsV h (fun k => k < h.n) vf L ∧ LR h (fun k => k < h.n) vp l ∧ Byt l
def StepsV (h : Heap) (v : V) (m : Nat) : Prop := m ≤ 9223372036854775807 ∧ ((m = 0 ∧ (v = .slice none 0 0 true ∨ ∃ a, v = .esl a)) ∨ ∃ b o cap c ce, v = .slice (some (b, o)) m cap true ∧ h.get b = some (.cells c ce) ∧ o + m * 5 ≤ c.size ∧ ∀ i, i < m → ∃ kd a n vf vp L l, c.get (o + i * 5) = .int .i64 kd ∧ c.get (o + i * 5 + 1) = .int .i64 a ∧ c.get (o + i * 5 + 2) = .int .i64 n ∧ c.get (o + i * 5 + 3) = vf ∧ c.get (o + i * 5 + 4) = vp ∧ StepIs h vf vp L l)
theorem StepsV.len {v : V} {m : Nat} (hv : StepsV h v m) (g : Heap) : lenV Try.prog 46 v g = some (m, []) := by
  rcases hv.2 with ⟨rfl, rfl | ⟨a, rfl⟩⟩ | ⟨b, o, cap, c, ce, rfl, _⟩ <;> simp [Vm.lenV, Try.underlying46]
theorem StepIs.old {h' : Heap} {vf vp : V} {L : List Te} {l : List V} (hs : StepIs h vf vp L l) (hn : h.n ≤ h'.n) (hk : ∀ b, b < h.n → h'.get b = h.get b) : StepIs h' vf vp L l :=
  ⟨LRs.mono (LRs.old hs.1 hk) fun b _ (hb : b < h.n) => Nat.lt_of_lt_of_le hb hn, (hs.2.1.old hk).mono fun b _ (hb : b < h.n) => Nat.lt_of_lt_of_le hb hn, hs.2.2⟩
theorem StepsV.old {h' : Heap} {v : V} {m : Nat} (hv : StepsV h v m) (hn : h.n ≤ h'.n) (hk : ∀ b, b < h.n → h'.get b = h.get b) : StepsV h' v m := by
  refine ⟨hv.1, hv.2.imp id ?_⟩
  rintro ⟨b, o, cap, c, ce, e, hb, hs, hc⟩
  refine ⟨b, o, cap, c, ce, e, (hk _ (Heap.lt_of_get hb)).trans hb, hs, fun i hi => ?_⟩
  obtain ⟨kd, a, n, vf, vp, L, l, e0, e1, e2, e3, e4, e5⟩ := hc i hi
  exact ⟨kd, a, n, vf, vp, L, l, e0, e1, e2, e3, e4, e5.old hn hk⟩
end Go.Proofs.Ytmimialblhlklaa
namespace Go.Proofs.Ytmimialblhlklaa
open Go Go.Vm
variable {R W : Set'}
theorem w_of_size (l : List V) : (Blk.of l).size = l.length := rfl
end Go.Proofs.Ytmimialblhlklaa
