/- A step on both machines: kind 3. -/
import Derived.Test.YtmimialblhlklaaRK
set_option linter.unusedVariables false
set_option maxRecDepth 100000
namespace Go.Proofs.Ytmimialblhlklaa
open Go Go.Vm
variable {hb g0 : Heap} {R W M0 MD0 : Set'} {pp rd sb : Nat} {qs : List Nat} {S : AT} {kd a n : Int} {vf vp : V} {L : List Te} {l : List V} {tr : Tr V} {Q : Ex → Fr → Heap → Prop} {t : List It}
theorem comeLA_len (S : AT) (l : List V) : (comeLA S l).length ≤ 16 := by
  unfold comeLA
  split
  · simp
  · split
    · refine Nat.le_trans (comeP_le2 _ _ _ _) ?_
      unfold openA
      exact Nat.le_trans (List.length_filter_le _ _) (by simp)
    · simp
end Go.Proofs.Ytmimialblhlklaa
namespace Go.Proofs.Ytmimialblhlklaa
open Go Go.Vm
variable {hb g0 : Heap} {R W M0 MD0 : Set'} {pp rd sb : Nat} {qs : List Nat} {S : AT} {kd a n : Int} {vf vp : V} {L : List Te} {l : List V} {tr : Tr V} {Q : Ex → Fr → Heap → Prop} {t : List It}
structure Fork (g0 g1 g : Heap) (M0 : Set') (pp : Nat) (Mp : Set') (pc : Nat) (Mc : Set') (qs : List Nat) (Sp S : AT) : Prop where
  p : PX g Mp pp qs Sp
  c : PX g Mc pc qs S
  mp : ∀ k, Mp k → M0 k ∨ g1.n ≤ k
  dis : ∀ k, Mc k → ¬ (Mp k ∧ Mty g k)
  n : g1.n ≤ g.n
  k : ∀ k, k < g1.n → ¬ M0 k → g.get k = g1.get k
theorem Fork.step {g0 g1 g g' : Heap} {Mp Mc : Set'} {pc : Nat} {Sp S2 : AT} (f : Fork g0 g1 g M0 pp Mp pc Mc qs Sp S) (hq : PXQ g g' Mp pp qs S2) : ∃ Mp', Fork g0 g1 g' M0 pp Mp' pc Mc qs S2 S := by
  obtain ⟨p, c, mp, dis, n, k⟩ := f
  obtain ⟨hc, M', hx, hm⟩ := hq
  have hcn := hc.n
  refine ⟨M', hx, c.fr hc dis, fun k h => (hm k h).elim (mp k) fun h => .inr (by omega), fun k h1 h2 => ?_, by omega, fun k h1 h2 => ?_⟩
  · have hlt := c.lt k h1
    have e := hc.k k hlt (dis k h1)
    refine dis k h1 ⟨(hm k h2.1).resolve_right (by omega), ?_⟩
    have h3 := h2.2
    unfold Mty at h3 ⊢
    rw [e] at h3; exact h3
  · rw [hc.k k (by omega) fun h => (mp k h.1).elim h2 fun h => by omega]
    exact ‹∀ k, k < g1.n → ¬ M0 k → g.get k = g1.get k› k h1 h2
end Go.Proofs.Ytmimialblhlklaa
