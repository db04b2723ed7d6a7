/- FramesPlay: views of small arguments. -/
import Derived.Test.YtfgdpgagcnelpaaRJ
import Derived.Test.YtfgdpgagcnelpaaUpto
set_option linter.unusedVariables false
set_option linter.unusedSimpArgs false
set_option linter.unusedSimpArgs false
set_option maxRecDepth 100000
set_option linter.unusedVariables false
set_option linter.unusedSimpArgs false
namespace Go.Proofs.Ytfgdpgagcnelpaa
open Go Go.Vm
def vtStep : VT := .struct [.int .i64, .int .i64, .int .i64, .slice (.int .u8)]
theorem bytesV_of {h : Heap} {d : V} (hd : VSl h 1 (VIs h (.int .u8)) d) (hu : VSlU 1048576 h 1 (VIsU 1048576 h (.int .u8)) d) : ∃ m g, BytesV h (fun b => b < h.n) d m g ∧ m ≤ 1048576 := by
  rcases hd with rfl | ⟨a, rfl⟩ | ⟨b, o, len, cap, c, ce, rfl, hlc, h0, hcm, hb, hsz, hc⟩
  · exact ⟨0, fun _ => 0, ⟨by omega, .inl ⟨rfl, .inl rfl⟩⟩, by omega⟩
  · exact ⟨0, fun _ => 0, ⟨by omega, .inl ⟨rfl, .inr ⟨a, rfl⟩⟩⟩, by omega⟩
  · refine ⟨len, fun i => match c.get (o + i) with | .int _ n => n | _ => 0, ⟨by omega, .inr ⟨b, o, cap, c, ce, rfl, Heap.lt_of_get hb, hb, by omega, fun i hi => ?_⟩⟩, ?_⟩
    · obtain ⟨n, hn, _⟩ := hc i (by omega)
      rw [Nat.mul_one] at hn
      have hn : c.get (o + i) = .int .u8 n := by
        have := hn
        simp only [Blk.gets] at this
        exact (List.cons.inj this).1
      rw [hn]
    · rcases hu with h1 | ⟨a, h1⟩ | ⟨b', o', len', cap', c', ce', h1, h2, _, _, h3, _⟩
      · cases h1
      · cases h1
      · cases h1; omega
theorem stepsU_of {h : Heap} {v : V} (hv : VSl h 4 (VIs h vtStep) v) (hu : VSlU 1048576 h 4 (VIsU 1048576 h vtStep) v) : ∃ m, StepsU h v m := by
  rcases hv with rfl | ⟨a, rfl⟩ | ⟨b, o, len, cap, c, ce, rfl, hlc, h0, hcm, hb, hsz, hc⟩
  · exact ⟨0, by omega, .inl ⟨rfl, .inl rfl⟩⟩
  · exact ⟨0, by omega, .inl ⟨rfl, .inr ⟨a, rfl⟩⟩⟩
  · rcases hu with h1 | ⟨a, h1⟩ | ⟨b', o', len', cap', c', ce', h1, _, _, _, _, hb', _, hcu⟩
    · cases h1
    · cases h1
    cases h1
    rw [hb] at hb'
    cases hb'
    refine ⟨len, by omega, .inr ⟨b, o, cap, c, ce, rfl, hb, by omega, fun i hi => ?_⟩⟩
    have hs := hc i (by omega)
    have hsu := hcu i (by omega)
    simp only [vtStep, VIs, VIss, VT.size, Blk.gets, List.take, List.drop, List.cons.injEq, and_true] at hs
    simp only [vtStep, VIsU, VIssU, VT.size, Blk.gets, List.take, List.drop, List.cons.injEq, and_true] at hsu
    obtain ⟨⟨k, e0, _⟩, ⟨n1, e1, _⟩, ⟨n2, e2, _⟩, ⟨d, e3, hd⟩⟩ := hs
    obtain ⟨_, _, _, ⟨d', e3', hdu⟩⟩ := hsu
    rw [e3] at e3'
    subst e3'
    obtain ⟨ml, g, hd, h8⟩ := bytesV_of hd hdu
    exact ⟨k, n1, n2, d, ml, g, e0, e1, e2, e3, hd, h8⟩
theorem intsV_of {h : Go.Vm.Heap} {v : Go.Vm.V} (hv : Go.Vm.VSl h 1 (Go.Vm.VIs h (.int .i64)) v) : ∃ m g, IntsV h v m g := by
  rcases hv with rfl | ⟨a, rfl⟩ | ⟨b, o, len, cap, c, ce, rfl, hlc, h0, hcm, hb, hsz, hc⟩
  · exact ⟨0, fun _ => 0, fun i hi => by omega, by omega, .inl ⟨rfl, .inl rfl⟩⟩
  · exact ⟨0, fun _ => 0, fun i hi => by omega, by omega, .inl ⟨rfl, .inr ⟨a, rfl⟩⟩⟩
  · have key : ∀ i, i < cap → ∃ n : Int, c.get (o + i) = .int .i64 n ∧ -9223372036854775808 ≤ n ∧ n ≤ 9223372036854775807 := fun i hi => by
      obtain ⟨n, hn, h1, h2⟩ := hc i hi
      rw [Nat.mul_one] at hn
      simp only [Go.Vm.Blk.gets] at hn
      exact ⟨n, (List.cons.inj hn).1, h1, h2⟩
    refine ⟨len, fun i => match c.get (o + i) with | .int _ n => n | _ => 0, fun i hi => ?_, by omega, .inr ⟨b, o, cap, c, ce, rfl, hb, by omega, fun i hi => ?_⟩⟩
    · obtain ⟨n, e, h1, h2⟩ := key i (by omega)
      rw [e]; exact ⟨h1, h2⟩
    · obtain ⟨n, e, _⟩ := key i (by omega)
      rw [e]
end Go.Proofs.Ytfgdpgagcnelpaa
