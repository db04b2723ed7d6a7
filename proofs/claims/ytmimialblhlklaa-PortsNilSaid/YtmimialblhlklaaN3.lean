/- The document's ports: Claim. -/
import Derived.Test.YtmimialblhlklaaR9
set_option linter.unusedVariables false
set_option maxRecDepth 100000
namespace Go.Proofs.Ytmimialblhlklaa
open Go Go.Vm
variable {h : Heap} {R W I : Set'} {rd : Nat} {bl : Nat → Nat} {qs : List Nat} {S : AT}
end Go.Proofs.Ytmimialblhlklaa
namespace Go.Proofs.Ytmimialblhlklaa
open Go Go.Vm
variable {h : Heap} {R W I : Set'} {rd : Nat} {bl : Nat → Nat} {qs : List Nat} {S : AT}
theorem gets_succ (c : Blk) (o n : Nat) : c.gets o (n + 1) = c.get o :: c.gets (o + 1) n := rfl
theorem RingV.cells {v : V} {r : List (List V)} (hv : RingV h I v r) : v.cellsV = [v] := by
  rcases hv with ⟨_, a, l, rfl⟩ | ⟨sl, h3, _⟩
  · rfl
  · exact h3.cells
theorem RingV.tail {v : V} {l : List V} {t : List (List V)} (hv : RingV h I v (l :: t)) : ∃ v', sliceV Try.prog 23 v (some 1) none none = some v' ∧ RingV h I v' t := by
  rcases hv with ⟨h0, _⟩ | ⟨sl, h1, h0, h2, h3⟩
  · cases h0
  cases sl with
  | nil => simp at h2
  | cons w sl =>
    simp only [List.length_cons, Nat.add_right_cancel_iff] at h2
    rcases h1 with ⟨h1, _⟩ | ⟨b, o, cap, ex, c, ce, rfl, hI, hb, hs, hg⟩
    · cases h1
    simp only [List.length_cons] at hs hg h0
    rw [gets_succ, List.cons.injEq] at hg
    have h0' : sl.length + 1 ≤ cap := h0
    have hbv : boundsV (sl.length + 1) cap (some 1) none none = some (1, sl.length + 1, cap) := by
      simp only [boundsV]
      rw [if_pos (by omega)]; rfl
    have key : ∀ b' o' cap' ex', (o' = o + 1 ∨ sl = [] ∧ o' = o) → sl.length ≤ cap' → b' = b → RingV h I (.slice (some (b', o')) sl.length cap' ex') t := fun b' o' cap' ex' ho hc hb' => by
      subst hb'
      refine .inr ⟨sl, .inr ⟨b', o', cap', ex', c, ce, rfl, hI, hb, ?_, ?_⟩, hc, h2, fun i v e => ?_⟩
      · rcases ho with rfl | ⟨rfl, rfl⟩
        · omega
        · simp only [List.length_nil] at hs ⊢; omega
      · rcases ho with rfl | ⟨rfl, rfl⟩
        · exact hg.2
        · rfl
      · have := h3 (i + 1) v (by simpa using e)
        simpa using this
    cases ex with
    | true =>
      refine ⟨_, by simp only [sliceV, Try.underlying23, sz_36, hbv, List.length_cons]; rfl, ?_⟩
      simp only [Nat.add_sub_cancel]
      cases hq : Nat.beq cap 1 with
      | true =>
        have := Nat.eq_of_beq_eq_true hq
        have hl : sl.length = 0 := by omega
        exact key _ _ _ _ (.inr ⟨List.length_eq_zero_iff.1 hl, rfl⟩) (by omega) rfl
      | false => exact key _ _ _ _ (.inl rfl) (by omega) rfl
    | false =>
      by_cases hc : 1 < cap
      · refine ⟨_, by simp only [sliceV, Try.underlying23, sz_36, hbv, List.length_cons]; rw [if_pos ⟨h0', .inl (w_blt_t hc)⟩], ?_⟩
        simp only [Nat.add_sub_cancel]
        exact key _ _ _ _ (.inl rfl) (by omega) rfl
      · have hl : sl.length = 0 := by omega
        have hc1 : cap = 1 := by omega
        subst hc1
        refine ⟨_, by simp only [sliceV, Try.underlying23, sz_36, hbv, List.length_cons]; rw [if_neg (fun h => by rcases h.2 with h | h <;> simp at h), if_pos ⟨by omega, by omega⟩], .inl ⟨?_, _, _, rfl⟩⟩
        exact List.length_eq_zero_iff.1 (by omega)
end Go.Proofs.Ytmimialblhlklaa
