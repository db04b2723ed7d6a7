/- PortsApart: what concerns one account alone. -/
import Derived.Test.YtmimialblhlklaaG4
set_option linter.unusedVariables false
set_option maxRecDepth 100000
namespace Go.Proofs.Ytmimialblhlklaa
open Go Go.Vm
variable {qs : List Nat} {S S' : AT}
end Go.Proofs.Ytmimialblhlklaa
namespace Go.Proofs.Ytmimialblhlklaa
open Go Go.Vm
variable {h : Heap} {R W : Set'}
def StepIs (h : Heap) (vf vp : V) (L : List Te) (l : List V) : Prop := TestsV h (fun k => k < h.n) vf L ∧ LR h (fun k => k < h.n) vp l ∧ Byt l
def StepsV (h : Heap) (v : V) (m : Nat) : Prop := m ≤ 9223372036854775807 ∧ ((m = 0 ∧ (v = .slice none 0 0 true ∨ ∃ a, v = .esl a)) ∨ ∃ b o cap c ce, v = .slice (some (b, o)) m cap true ∧ h.get b = some (.cells c ce) ∧ o + m * 5 ≤ c.size ∧ ∀ i, i < m → ∃ kd a n vf vp L l, c.get (o + i * 5) = .int .i64 kd ∧ c.get (o + i * 5 + 1) = .int .i64 a ∧ c.get (o + i * 5 + 2) = .int .i64 n ∧ c.get (o + i * 5 + 3) = vf ∧ c.get (o + i * 5 + 4) = vp ∧ StepIs h vf vp L l)
theorem StepsV.len {v : V} {m : Nat} (hv : StepsV h v m) (g : Heap) : lenV Try.prog 46 v g = some (m, []) := by
  rcases hv.2 with ⟨rfl, rfl | ⟨a, rfl⟩⟩ | ⟨b, o, cap, c, ce, rfl, _⟩ <;> simp [Vm.lenV, Try.underlying46]
theorem StepIs.old {h' : Heap} {vf vp : V} {L : List Te} {l : List V} (hs : StepIs h vf vp L l) (hn : h.n ≤ h'.n) (hk : ∀ b, b < h.n → h'.get b = h.get b) : StepIs h' vf vp L l :=
  ⟨LRs.mono (LRs.old hs.1 hk) fun b _ (hb : b < h.n) => Nat.lt_of_lt_of_le hb hn, (hs.2.1.old hk).mono fun b _ (hb : b < h.n) => Nat.lt_of_lt_of_le hb hn, hs.2.2⟩
theorem StepsV.old {h' : Heap} {v : V} {m : Nat} (hv : StepsV h v m) (hn : h.n ≤ h'.n) (hk : ∀ b, b < h.n → h'.get b = h.get b) : StepsV h' v m := by
  refine ⟨hv.1, hv.2.imp id ?_⟩
  rintro ⟨b, o, cap, c, ce, e, hb, hs, hc⟩
  refine ⟨b, o, cap, c, ce, e, (hk _ (Heap.lt_of_get hb)).trans hb, hs, fun i hi => ?_⟩
  obtain ⟨kd, a, n, vf, vp, L, l, e0, e1, e2, e3, e4, e5⟩ := hc i hi
  exact ⟨kd, a, n, vf, vp, L, l, e0, e1, e2, e3, e4, e5.old hn hk⟩
set_option maxHeartbeats 4000000 in
theorem much_ok {v : V} {m : Nat} (hv : StepsV h v m) (hR : ∀ b, R b) : SF Try.prog 15 [v] h R W fun r g => (∃ b, r = .bool b) ∧ g = h := by
  have hl := hv.len
  have hm9 := hv.1
  refine SF.go hm Try.func15 ir15_eq ?_
  simp -implicitDefEqProofs (disch := (first | omega | fail)) only [go_sem, seval, ↓reduceIte, reduceCtorEq, ir15]
  refine GLoop.inv hm (fun k f g => f.mks = [] ∧ f.tm.n = 34 ∧ f.tm.get 0 = some v ∧ g = h ∧ ∃ (i : Nat) (n : Int), i + k = 100 ∧ f.tm.get 4 = some (.int .i64 (i : Int)) ∧ f.tm.get 3 = some (.int .i64 n)) 100 ?_ ?_
  · exact ⟨rfl, rfl, by simp -implicitDefEqProofs (disch := (first | omega | fail)) only [go_sem, seval, ↓reduceIte], rfl, 0, 0, by omega, by simp -implicitDefEqProofs (disch := (first | omega | fail)) only [go_sem, Nat.reduceSub, Nat.reduceMod, Nat.reduceDiv, ↓reduceIte, reduceCtorEq]; rfl, by simp -implicitDefEqProofs (disch := (first | omega | fail)) only [go_sem, seval, ↓reduceIte, reduceCtorEq]⟩
  rintro k ⟨⟨n', tr⟩, mks⟩ g ⟨hmk, hn', t0, rfl, i, n, hik, t4, t3⟩
  simp only [Tm.get_mk] at hmk hn' t0 t4 t3
  subst hmk hn'
  have hi0 : (0 : Int) ≤ (i : Int) := by omega
  by_cases hi : i < m
  · have hz : (i : Int) < (m : Int) := by omega
    by_cases h100 : i < 100
    · have hz2 : (i : Int) < 100 := by omega
      rcases hv.2 with ⟨h0, _⟩ | ⟨b, o, cap, c, ce, rfl, hb, hs, hc⟩
      · omega
      obtain ⟨kd, a, nn, vf, vp, L, l, c0, c1, c2, c3, c4, hf, hp, _⟩ := hc i hi
      have hRb := hR b
      have hfo := LRs.one hf
      have hpo := hp.one
      have hfl := LRs.lenV Try.underlying22 hf
      have hpl := hp.lenV Try.underlying36
      have hsz : o + i * 5 + 5 ≤ c.size := by omega
      simp -implicitDefEqProofs (disch := (first | omega | fail)) only [go_sem, seval, ↓reduceIte, reduceCtorEq, ir15_l0, t0, t3, t4, ↓hl, hz, hz2, hi0, hb, hRb, c3, c4, ↓hfl, ↓hpl]
      exact ⟨k - 1, by omega, i + 1, _, by omega, by simp, rfl⟩
    · have hz2 : ¬ (i : Int) < 100 := by omega
      simp -implicitDefEqProofs (disch := (first | omega | fail)) only [go_sem, seval, ↓reduceIte, reduceCtorEq, ir15_l0, t0, t3, t4, ↓hl, hz, hz2]
      exact ⟨_, rfl⟩
  · have hz : ¬ (i : Int) < (m : Int) := by omega
    simp -implicitDefEqProofs (disch := (first | omega | fail)) only [go_sem, seval, ↓reduceIte, reduceCtorEq, ir15_l0, undefV, t0, t3, t4, ↓hl, hz]
    exact ⟨_, rfl⟩
end Go.Proofs.Ytmimialblhlklaa
namespace Go.Proofs.Ytmimialblhlklaa
open Go Go.Vm
variable {R W : Set'}
theorem w_of_size (l : List V) : (Blk.of l).size = l.length := rfl
end Go.Proofs.Ytmimialblhlklaa
