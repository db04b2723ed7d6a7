/- Views: what the laws are given. -/
import Derived.Test.YtmimialblhlklaaG4
import Derived.Test.YtmimialblhlklaaV4
set_option linter.unusedVariables false
set_option maxRecDepth 100000
namespace Go.Proofs.Ytmimialblhlklaa
open Go Go.Vm
abbrev vtTe : VT := .struct [.int .i64, .int .i64, .int .i64]
theorem viss_cons {h : Heap} {t : VT} {r : List VT} {cs : List V} (hv : VIss h (t :: r) cs) : ∃ a b, cs = a ++ b ∧ VIs h t a ∧ VIss h r b :=
 ⟨cs.take t.size, cs.drop t.size, (List.take_append_drop _ _).symm, hv.1, hv.2⟩
theorem byt_of {h : Heap} {v : V} (hv : VSl h 1 (VIs h (.int .u8)) v) : ∃ l, LR h (fun _ => True) v l ∧ Byt l := by
 rcases hv with rfl | ⟨a, rfl⟩ | ⟨b, o, len, cap, c, ce, rfl, hlc, h0, hcm, hb, hsz, hc⟩
 ·exact ⟨[], .inl ⟨rfl, .inl rfl⟩, fun x hx => by cases hx⟩
 ·exact ⟨[], .inl ⟨rfl, .inr ⟨a, rfl⟩⟩, fun x hx => by cases hx⟩
 ·refine ⟨c.gets o len, .inr ⟨b, o, cap, true, c, ce, by rw [Blk.length_gets], trivial, hb, by rw [Blk.length_gets]; omega, by rw [Blk.length_gets]⟩, fun x hx => ?_⟩
  obtain ⟨j, hj, e⟩ := List.mem_iff_getElem.1 hx
  rw [Blk.length_gets] at hj
  have e2 := Blk.gets_get c len o j hj
  rw [List.getElem?_eq_getElem (by rw [Blk.length_gets]; exact hj), e] at e2
  obtain ⟨n, hn, h1, h2⟩ := hc j (by omega)
  rw [Nat.mul_one] at hn
  simp only [Blk.gets] at hn
  exact ⟨n, (Option.some.inj e2).trans (List.cons.inj hn).1, h1, h2⟩
theorem te_of {h : Heap} {a : List V} (ha : VIs h vtTe a) : ∃ t : Te, a = t.l := by
 obtain ⟨_, _, rfl, ⟨n0, rfl, _⟩, hb1⟩ := viss_cons ha
 obtain ⟨_, _, rfl, ⟨n1, rfl, _⟩, hb2⟩ := viss_cons hb1
 obtain ⟨_, b2, rfl, ⟨n2, rfl, _⟩, hb3⟩ := viss_cons hb2
 have hb' : b2 = [] := hb3
 subst hb'
 exact ⟨⟨n0, n1, n2⟩, rfl⟩
theorem gets_flat {c : Blk} {o : Nat} : ∀ {n : Nat}, (∀ i, i < n → ∃ t : Te, c.gets (o + i * 3) 3 = t.l) → ∃ L : List Te, L.length = n ∧ c.gets o (n * 3) = flatT L
 | 0, _ => ⟨[], rfl, rfl⟩
 | n + 1, h => by
  obtain ⟨L, h1, h2⟩ := gets_flat (n := n) fun i hi => h i (by omega)
  obtain ⟨t, ht⟩ := h n (by omega)
  refine ⟨L ++ [t], by simp [h1], ?_⟩
  have e : flatT (L ++ [t]) = flatT L ++ t.l := by unfold flatT; rw [List.flatMap_append]; simp
  rw [e, ← h2, ← ht]
  apply List.ext_getElem?
  intro j
  by_cases hj : j < (n + 1) * 3
  ·rw [Blk.gets_get _ _ _ _ hj]
   by_cases hj2 : j < n * 3
   ·rw [List.getElem?_append_left (by rw [Blk.length_gets]; exact hj2), Blk.gets_get _ _ _ _ hj2]
   ·rw [List.getElem?_append_right (by rw [Blk.length_gets]; omega), Blk.length_gets, Blk.gets_get _ _ _ _ (by omega)]
    congr 2; omega
  ·rw [List.getElem?_eq_none (by rw [Blk.length_gets]; omega), List.getElem?_eq_none (by rw [List.length_append, Blk.length_gets, Blk.length_gets]; omega)]
theorem tests_of {h : Heap} {v : V} (hv : VSl h 3 (VIs h vtTe) v) : ∃ L, TestsV h (fun _ => True) v L := by
 rcases hv with rfl | ⟨a, rfl⟩ | ⟨b, o, len, cap, c, ce, rfl, hlc, h0, hcm, hb, hsz, hc⟩
 ·exact ⟨[], rfl, .inl ⟨rfl, .inl rfl⟩⟩
 ·exact ⟨[], rfl, .inl ⟨rfl, .inr ⟨a, rfl⟩⟩⟩
 ·obtain ⟨L, h1, h2⟩ := gets_flat (c := c) (o := o) (n := len) fun i hi => te_of (hc i (by omega))
  exact ⟨L, by rw [flatT_len], .inr ⟨b, o, cap, true, c, ce, by rw [h1], trivial, hb, by rw [h1]; omega, by rw [h1]; exact h2⟩⟩
end Go.Proofs.Ytmimialblhlklaa
