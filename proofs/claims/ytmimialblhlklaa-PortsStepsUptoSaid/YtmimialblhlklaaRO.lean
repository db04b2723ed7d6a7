/- PortsSame: its walk. -/
import Derived.Test.YtmimialblhlklaaRN
set_option linter.unusedVariables false
set_option maxRecDepth 100000
namespace Go.Proofs.Ytmimialblhlklaa
open Go Go.Vm
variable {hb : Heap} {R W : Set'} {tr : Tr V} {Q : Ex → Fr → Heap → Prop} {t : List It}
def StepsU (h : Heap) (v : V) (m : Nat) : Prop := m ≤ 9223372036854775807 ∧ ((m = 0 ∧ (v = .slice none 0 0 true ∨ ∃ a, v = .esl a)) ∨ ∃ b o cap c ce, v = .slice (some (b, o)) m cap true ∧ h.get b = some (.cells c ce) ∧ o + m * 5 ≤ c.size ∧ ∀ i, i < m → ∃ kd a n vf vp L l, c.get (o + i * 5) = .int .i64 kd ∧ c.get (o + i * 5 + 1) = .int .i64 a ∧ c.get (o + i * 5 + 2) = .int .i64 n ∧ c.get (o + i * 5 + 3) = vf ∧ c.get (o + i * 5 + 4) = vp ∧ StepIs h vf vp L l ∧ L.length ≤ 1048576 ∧ l.length ≤ 1048576)
theorem StepsU.v {h : Heap} {v : V} {m : Nat} (hv : StepsU h v m) : StepsV h v m := by
 refine ⟨hv.1, hv.2.imp id ?_⟩
 rintro ⟨b, o, cap, c, ce, e, hb, hs, hc⟩
 refine ⟨b, o, cap, c, ce, e, hb, hs, fun i hi => ?_⟩
 obtain ⟨kd, a, n, vf, vp, L, l, e0, e1, e2, e3, e4, e5, _⟩ := hc i hi
 exact ⟨kd, a, n, vf, vp, L, l, e0, e1, e2, e3, e4, e5⟩
structure Four (hb g : Heap) (px : Nat) (Mx : Set') (rx : Nat) (Dx : Set') (py : Nat) (My : Set') (ry : Nat) (Dy : Set') (qs : List Nat) (Sx Sy : AT) : Prop where
 x : Both hb g px Mx rx Dx qs Sx Sx
 y : Both hb g py My ry Dy qs Sy Sy
 dis : ∀ k, Mx k ∨ Dx k → ¬ (My k ∨ Dy k)
theorem Both.same {hb g g' : Heap} {M MD : Set'} {pp rd : Nat} {qs : List Nat} {S SD : AT} (b : Both hb g pp M rd MD qs S SD) (hn : g.n ≤ g'.n) (hk : ∀ k, k < g.n → (k < hb.n ∨ M k ∨ MD k) → g'.get k = g.get k) : Both hb g' pp M rd MD qs S SD :=
 ⟨b.p.same hn fun k h => hk k (b.p.lt k h) (.inr (.inl h)), b.d.same hn fun k h => hk k (b.d.lt k h) (.inr (.inr h)), b.mp, b.md, b.dis, Nat.le_trans b.n hn, fun k h => by rw [hk k (by have := b.n; omega) (.inl h)]; exact b.old k h⟩
theorem Four.left {g g' : Heap} {px rx py ry : Nat} {Mx Dx My Dy : Set'} {qs : List Nat} {Sx Sy S2 : AT} {px' : Nat} (f : Four hb g px Mx rx Dx py My ry Dy qs Sx Sy) (hq : StepQ hb g g' Mx Dx rx qs px' S2) : ∃ Mx' Dx', Four hb g' px' Mx' rx Dx' py My ry Dy qs S2 Sy := by
 obtain ⟨M', D', b, hm, hd, hn, hk⟩ := hq
 refine ⟨M', D', b, f.y.same hn fun k h1 h2 => hk k h1 fun h3 => ?_, fun k h1 h2 => ?_⟩
 ·rcases h2 with h2 | h2
  ·rcases h3 with h3 | h3
   ·have := f.x.mp k h3; omega
   ·have := f.x.md k h3; omega
  ·exact f.dis k h3 h2
 ·have hlt : k < g.n := h2.elim (f.y.p.lt k) (f.y.d.lt k)
  exact f.dis k (h1.elim (fun h => .inl ((hm k h).resolve_right (by omega))) fun h => .inr ((hd k h).resolve_right (by omega))) h2
theorem StepsU.at' {v : V} {m : Nat} (hv : StepsU hb v m) {i : Nat} (hi : i < m) : ∃ b o cap c ce kd a n vf vp L l, v = .slice (some (b, o)) m cap true ∧ b < hb.n ∧ hb.get b = some (.cells c ce) ∧ o + i * 5 + 5 ≤ c.size ∧ c.get (o + i * 5) = .int .i64 kd ∧ c.get (o + i * 5 + 1) = .int .i64 a ∧ c.get (o + i * 5 + 2) = .int .i64 n ∧ c.get (o + i * 5 + 3) = vf ∧ c.get (o + i * 5 + 4) = vp ∧ StepIs hb vf vp L l ∧ L.length ≤ 1048576 ∧ l.length ≤ 1048576 := by
 rcases hv.2 with ⟨h0, _⟩ | ⟨b, o, cap, c, ce, rfl, hbg, hs, hc⟩
 ·omega
 ·obtain ⟨kd, a, n, vf, vp, L, l, e0, e1, e2, e3, e4, e5, e6, e7⟩ := hc i hi
  exact ⟨b, o, cap, c, ce, kd, a, n, vf, vp, L, l, rfl, Heap.lt_of_get hbg, hbg, by omega, e0, e1, e2, e3, e4, e5, e6, e7⟩
end Go.Proofs.Ytmimialblhlklaa
