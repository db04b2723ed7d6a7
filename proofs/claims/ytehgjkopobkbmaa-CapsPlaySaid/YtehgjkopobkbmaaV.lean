/- Views of steps, from typed memory. -/
import Derived.Test.YtehgjkopobkbmaaKO
import Derived.Test.YtehgjkopobkbmaaV4
set_option linter.unusedVariables false
set_option linter.unusedSimpArgs false
set_option linter.unusedSimpArgs false
namespace Go.Proofs.Ytehgjkopobkbmaa
open Go Go.Vm
set_option maxRecDepth 100000
set_option linter.unusedVariables false
set_option linter.unusedSimpArgs false
def vtStep : VT := .struct [.int .i64, .int .i64, .int .i64, .int .i64, .int .i64, .int .i64, .int .i64]
def inV : V → Int
  | .int _ n => n
  | _ => 0
theorem stepsV_of {h : Heap} {v : V} (hv : VSl h 7 (VIs h vtStep) v) : ∃ m S, StepsV h v m S := by
  rcases hv with rfl | ⟨a, rfl⟩ | ⟨b, o, len, cap, c, ce, rfl, hlc, h0, hcm, hb, hsz, hc⟩
  · exact ⟨0, fun _ => ⟨0, 0, 0, 0, 0, 0, 0⟩, by omega, .inl ⟨rfl, .inl rfl⟩⟩
  · exact ⟨0, fun _ => ⟨0, 0, 0, 0, 0, 0, 0⟩, by omega, .inl ⟨rfl, .inr ⟨a, rfl⟩⟩⟩
  · refine ⟨len, fun i => ⟨inV (c.get (o + i * 7)), inV (c.get (o + i * 7 + 1)), inV (c.get (o + i * 7 + 2)), inV (c.get (o + i * 7 + 3)), inV (c.get (o + i * 7 + 4)), inV (c.get (o + i * 7 + 5)), inV (c.get (o + i * 7 + 6))⟩, by omega, .inr ⟨b, o, cap, c, ce, rfl, hb, by omega, fun i hi => ?_⟩⟩
    have hs := hc i (by omega)
    simp only [vtStep, VIs, VIss, VT.size, Blk.gets, List.take, List.drop, List.cons.injEq, and_true] at hs
    obtain ⟨⟨n0, e0, _⟩, ⟨n1, e1, _⟩, ⟨n2, e2, _⟩, ⟨n3, e3, _⟩, ⟨n4, e4, _⟩, ⟨n5, e5, _⟩, ⟨n6, e6, _⟩⟩ := hs
    simp only [e0, e1, e2, e3, e4, e5, e6, inV]
    exact ⟨trivial, trivial, trivial, trivial, trivial, trivial, trivial⟩
end Go.Proofs.Ytehgjkopobkbmaa
