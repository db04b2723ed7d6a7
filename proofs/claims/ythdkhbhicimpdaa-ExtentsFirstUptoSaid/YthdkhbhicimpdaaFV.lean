/- Views of small steps. -/
import Derived.Test.YthdkhbhicimpdaaFH
import Derived.Test.YthdkhbhicimpdaaUpto
set_option linter.unusedVariables false
namespace Go.Proofs.Ythdkhbhicimpdaa
open Go Go.Vm
set_option maxRecDepth 100000
def vtKeep : VT := .struct [.int .i64, .int .i64]
def vtStep : VT := .struct [.int .i64, .int .i64, .int .i64, .int .i64, .slice (.int .u8), .slice vtKeep]
theorem bytesV_of {h : Heap} {v : V} (hv : VSl h 1 (VIs h (.int .u8)) v) : ∃ l, BytesV h (fun _ => True) v l := by
  rcases hv with rfl | ⟨a, rfl⟩ | ⟨b, o, len, cap, c, ce, rfl, hlc, h0, hcm, hb, hsz, hc⟩
  · exact ⟨[], by simp, (fun x hx => by cases hx), .inl ⟨rfl, .inl rfl⟩⟩
  · exact ⟨[], by simp, (fun x hx => by cases hx), .inl ⟨rfl, .inr ⟨a, rfl⟩⟩⟩
  · refine ⟨c.gets o len, by rw [Blk.length_gets]; omega, fun x hx => ?_, .inr ⟨b, o, cap, true, c, ce, by rw [Blk.length_gets], trivial, hb, by rw [Blk.length_gets]; omega, by rw [Blk.length_gets]⟩⟩
    obtain ⟨j, hj, e⟩ := List.mem_iff_getElem.1 hx
    rw [Blk.length_gets] at hj
    have e2 := Blk.gets_get c len o j hj
    rw [List.getElem?_eq_getElem (by rw [Blk.length_gets]; exact hj), e] at e2
    obtain ⟨n, hn, h1, h2⟩ := hc j (by omega)
    rw [Nat.mul_one] at hn
    simp only [Blk.gets] at hn
    exact ⟨n, (Option.some.inj e2).trans (List.cons.inj hn).1, h1, h2⟩
theorem keepV_of {h : Heap} {v : V} (hv : VSl h 2 (VIs h vtKeep) v) : ∃ m ks kw, KeepV h (fun _ => True) v m ks kw := by
  rcases hv with rfl | ⟨a, rfl⟩ | ⟨b, o, len, cap, c, ce, rfl, hlc, h0, hcm, hb, hsz, hc⟩
  · exact ⟨0, fun _ => 0, fun _ => 0, by omega, .inl ⟨rfl, .inl rfl⟩⟩
  · exact ⟨0, fun _ => 0, fun _ => 0, by omega, .inl ⟨rfl, .inr ⟨a, rfl⟩⟩⟩
  · refine ⟨len, fun i => match c.get (o + i * 2) with | .int _ n => n | _ => 0, fun i => match c.get (o + i * 2 + 1) with | .int _ n => n | _ => 0, by omega, .inr ⟨b, o, cap, true, c, ce, rfl, trivial, hb, by omega, fun i hi => ?_⟩⟩
    have hs := hc i (by omega)
    simp only [vtKeep, VIs, VIss, VT.size, Blk.gets, List.take, List.drop, List.cons.injEq, and_true] at hs
    obtain ⟨⟨k, e0, _⟩, ⟨n1, e1, _⟩⟩ := hs
    simp only [e0, e1, and_self]
theorem BytesV.lt {h : Heap} {v : V} {l : List V} (hv : BytesV h (fun _ => True) v l) : BytesV h (fun b => b < h.n) v l :=
  ⟨hv.1, hv.2.1, hv.2.2.imp id fun ⟨b, o, cap, ex, c, ce, e, hR, hb, r⟩ => ⟨b, o, cap, ex, c, ce, e, Heap.lt_of_get hb, hb, r⟩⟩
theorem KeepV.lt {h : Heap} {v : V} {m : Nat} {ks kw : Nat → Int} (hv : KeepV h (fun _ => True) v m ks kw) : KeepV h (fun b => b < h.n) v m ks kw :=
  ⟨hv.1, hv.2.imp id fun ⟨b, o, cap, ex, c, ce, e, hR, hb, r⟩ => ⟨b, o, cap, ex, c, ce, e, Heap.lt_of_get hb, hb, r⟩⟩
theorem BytesV.short {B : Nat} {h : Heap} {v : V} {l : List V} (hv : BytesV h (fun _ => True) v l) (hu : VSlU B h 1 (VIsU B h (.int .u8)) v) : l.length ≤ B := by
  rcases hv.2.2 with ⟨rfl, _⟩ | ⟨b, o, cap, ex, c, ce, e, _⟩
  · simp
  · rcases hu with h1 | ⟨a, h1⟩ | ⟨b', o', len', cap', c', ce', h1, h2, _, _, h3, _⟩
    · rw [h1] at e; cases e
    · rw [h1] at e; cases e
    · rw [h1] at e; cases e; omega
theorem KeepV.short {B : Nat} {h : Heap} {v : V} {m : Nat} {ks kw : Nat → Int} (hv : KeepV h (fun _ => True) v m ks kw) (hu : VSlU B h 2 (VIsU B h vtKeep) v) : m ≤ B := by
  rcases hv.2 with ⟨rfl, _⟩ | ⟨b, o, cap, ex, c, ce, e, _⟩
  · simp
  · rcases hu with h1 | ⟨a, h1⟩ | ⟨b', o', len', cap', c', ce', h1, h2, _, _, h3, _⟩
    · rw [h1] at e; cases e
    · rw [h1] at e; cases e
    · rw [h1] at e; cases e; omega
theorem stepsU_of {h : Heap} {v : V} (hv : VSl h 6 (VIs h vtStep) v) (hu : VSlU 1048576 h 6 (VIsU 1048576 h vtStep) v) : ∃ m, StepsU h v m := by
  rcases hv with rfl | ⟨a, rfl⟩ | ⟨b, o, len, cap, c, ce, rfl, hlc, h0, hcm, hb, hsz, hc⟩
  · exact ⟨0, by omega, .inl ⟨rfl, .inl rfl⟩⟩
  · exact ⟨0, by omega, .inl ⟨rfl, .inr ⟨a, rfl⟩⟩⟩
  · rcases hu with h1 | ⟨a, h1⟩ | ⟨b', o', len', cap', c', ce', h1, _, _, _, _, hb', _, hcu⟩
    · cases h1
    · cases h1
    cases h1
    rw [hb] at hb'
    cases hb'
    refine ⟨len, by omega, .inr ⟨b, o, cap, c, ce, rfl, hb, by omega, fun i hi => ?_⟩⟩
    have hs := hc i (by omega)
    have hsu := hcu i (by omega)
    simp only [vtStep, VIs, VIss, VT.size, Blk.gets, List.take, List.drop, List.cons.injEq, and_true] at hs
    simp only [vtStep, VIsU, VIssU, VT.size, Blk.gets, List.take, List.drop, List.cons.injEq, and_true] at hsu
    obtain ⟨⟨k, e0, _⟩, ⟨n1, e1, b1, b2⟩, ⟨n2, e2, b3, b4⟩, ⟨n3, e3, b5, b6⟩, ⟨d, e4, hd⟩, ⟨kv, e5, hk⟩⟩ := hs
    obtain ⟨_, _, _, _, ⟨d', e4', hdu⟩, ⟨kv', e5', hku⟩⟩ := hsu
    rw [e4] at e4'
    subst e4'
    rw [e5] at e5'
    subst e5'
    obtain ⟨l, hd⟩ := bytesV_of hd
    obtain ⟨mk, ks, kw, hk⟩ := keepV_of hk
    exact ⟨k, n1, n2, n3, d, l, kv, mk, ks, kw, e0, e1, e2, e3, e4, e5, ⟨hd.lt, by have := hd.short hdu; omega⟩, ⟨hk.lt, by have := hk.short hku; omega⟩, ⟨b1, b2⟩, ⟨b3, b4⟩, ⟨b5, b6⟩⟩
end Go.Proofs.Ythdkhbhicimpdaa
