/- ExtentsNew: the law. -/
import Derived.Test.YthdkhbhicimpdaaEB
import Derived.Test.YthdkhbhicimpdaaV4
set_option linter.unusedVariables false
set_option maxRecDepth 100000
namespace Go.Proofs.Ythdkhbhicimpdaa
open Go Go.Vm
attribute [-go_sem] sz_113
def WN (H : Heap) : Set' := fun b => H.n ≤ b
theorem qi_of {h : Go.Vm.Heap} {v : Go.Vm.V} (hv : Go.Vm.VSl h 1 (Go.Vm.VIs h (.int .i64)) v) : ∃ m q, QI h v m q := by
  rcases hv with rfl | ⟨a, rfl⟩ | ⟨b, o, len, cap, c, ce, rfl, hlc, h0, hcm, hb, hsz, hc⟩
  · exact ⟨0, fun _ => 0, fun i hi => by omega, by omega, .inl ⟨rfl, .inl rfl⟩⟩
  · exact ⟨0, fun _ => 0, fun i hi => by omega, by omega, .inl ⟨rfl, .inr ⟨a, rfl⟩⟩⟩
  · have key : ∀ i, i < cap → ∃ n : Int, c.get (o + i) = .int .i64 n ∧ -9223372036854775808 ≤ n ∧ n ≤ 9223372036854775807 := fun i hi => by
      obtain ⟨n, hn, h1, h2⟩ := hc i hi
      rw [Nat.mul_one] at hn
      simp only [Go.Vm.Blk.gets] at hn
      exact ⟨n, (List.cons.inj hn).1, h1, h2⟩
    refine ⟨len, fun i => match c.get (o + i) with | .int _ n => n | _ => 0, fun i hi => ?_, by omega, .inr ⟨b, o, cap, true, c, ce, rfl, hb, by omega, hlc, fun i hi => ?_⟩⟩
    · obtain ⟨n, e, h1, h2⟩ := key i (by omega)
      rw [e]; exact ⟨h1, h2⟩
    · obtain ⟨n, e, _⟩ := key i (by omega)
      rw [e]
end Go.Proofs.Ythdkhbhicimpdaa
