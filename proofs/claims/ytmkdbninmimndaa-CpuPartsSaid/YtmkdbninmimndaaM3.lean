/- CpuMoves: the law's loops. -/
import Derived.Test.YtmkdbninmimndaaM2
import Derived.Test.YtmkdbninmimndaaCh5
set_option linter.unusedVariables false
set_option maxRecDepth 100000
namespace Go.Proofs.Ytmkdbninmimndaa
open Go Go.Vm
def sblk : V → Nat
  | .slice (some (b, _)) _ _ _ => b
  | _ => 0
theorem Own.below {n0 n1 : Nat} {h h' : Heap} {v : V} {l : List V} {e : TypeId} (ho : Own n0 h v l e) (hb : sblk v < n1) (hk : ∀ b, b < n1 → h'.get b = h.get b) : Own n0 h' v l e := by
  rcases ho with ⟨rfl, rfl | ⟨b, c, rfl, h1, hb', hr⟩⟩ | ⟨b, x, c, h0, rfl, h1, hb', hs⟩
  · exact .inl ⟨rfl, .inl rfl⟩
  · exact .inl ⟨rfl, .inr ⟨b, c, rfl, h1, by rw [hk b hb]; exact hb', hr⟩⟩
  · exact .inr ⟨b, x, c, h0, rfl, h1, by rw [hk b hb]; exact hb', hs⟩
theorem Own.sblk_lt {n0 : Nat} {h : Heap} {v : V} {l : List V} {e : TypeId} (ho : Own n0 h v l e) (hp : 0 < h.n) : sblk v < h.n := by
  rcases ho with ⟨_, rfl | ⟨b, c, rfl, _, hb, _⟩⟩ | ⟨b, x, c, h0, rfl, _, hb, hs, _, hg⟩
  · exact hp
  · exact Heap.lt_of_get hb
  · exact Heap.lt_of_get hb
def FB (h : Heap) (fp n1 : Nat) : Prop := fp < n1 ∧ ∀ c e, h.get fp = some (.cells c e) → sblk (c.get 0) < n1 ∧ sblk (c.get 1) < n1
theorem FlatAt.fb {h : Heap} {fp n0 : Nat} {L Q : List V} {q : Nat → Int} (hf : FlatAt h fp n0 L Q q) : FB h fp h.n := by
  obtain ⟨c, vb, vr, c1, cs, cr, c0, c1', ob, or'⟩ := hf.c
  have := Heap.lt_of_get c1
  refine ⟨this, fun c' e hc => ?_⟩
  rw [c1] at hc
  cases hc
  rw [c0, c1']
  exact ⟨ob.sblk_lt (by omega), or'.sblk_lt (by omega)⟩
theorem FB.same {h h' : Heap} {fp n1 : Nat} (hb : FB h fp n1) (hk : h'.get fp = h.get fp) : FB h' fp n1 := ⟨hb.1, by rw [hk]; exact hb.2⟩
theorem FlatAt.below {h h' : Heap} {fp n0 n1 : Nat} {L Q : List V} {q : Nat → Int} (hf : FlatAt h fp n0 L Q q) (hB : FB h fp n1) (hk : ∀ b, b < n1 → h'.get b = h.get b) : FlatAt h' fp n0 L Q q := by
  obtain ⟨⟨c, vb, vr, c1, c2, c3, c4, c5, c6, c7⟩, h1, h2, h3, h4⟩ := hf
  have := hB.2 _ _ c1
  rw [c4, c5] at this
  exact ⟨⟨c, vb, vr, by rw [hk _ hB.1]; exact c1, c2, c3, c4, c5, c6.below this.1 hk, c7.below this.2 hk⟩, h1, h2, h3, h4⟩
theorem FB.fblk {h : Heap} {fp n1 : Nat} (hb : FB h fp n1) : fblk h fp < n1 := by
  have := hb.1
  unfold Proofs.Ytmkdbninmimndaa.fblk
  cases e : h.get fp with
  | none => simp only []; omega
  | some o => cases o with
    | cells c t =>
      have h2 := (hb.2 c t e).1
      simp only []
      split
      · rename_i hs; rw [hs] at h2; exact h2
      · omega
    | _ => simp only []; omega
end Go.Proofs.Ytmkdbninmimndaa
