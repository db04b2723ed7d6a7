/- Flat memories: slices, Clone. -/
import Derived.Test.YtmkdbninmimndaaV4
import Derived.Test.YtmkdbninmimndaaTy
import Derived.Test.YtmkdbninmimndaaIr
import Derived.IntWalk
set_option linter.unusedVariables false
set_option maxRecDepth 100000
namespace Go.Vm
theorem app_none {e bytes : Nat} {x : V} {rs : List Nat} {h : Heap} {b : Nat} {c : Blk} {ce : TypeId} (hx : lenOfV x = some 0) (hf : firstV h 1 0 x = some ([], rs)) (hb : h.get b = some (.cells c ce)) (hr : c.ro = false) : appE e 1 bytes (.slice (some (b, 0)) 0 0 true) x h = some ⟨.slice (some (b, 0)) 0 0 true, h.set b (.cells (c.putA 0 []) ce), rs, [b]⟩ := by
  simp [appE, hx, hf, appendIn, hb, hr, allOne]
  rw [w_ble_t (Nat.zero_le _)]
end Go.Vm
namespace Go.Proofs.Ytmkdbninmimndaa
open Go Go.Vm
def LV (h : Heap) (v : V) (l : List V) : Prop := (l = [] ∧ (v = .slice none 0 0 true ∨ ∃ a, v = .esl a)) ∨ ∃ b o cap ex c ce, v = .slice (some (b, o)) l.length cap ex ∧ h.get b = some (.cells c ce) ∧ o + l.length ≤ c.size ∧ c.gets o l.length = l
theorem LV.old {h h' : Heap} {v : V} {l : List V} (hv : LV h v l) (hk : ∀ b, b < h.n → h'.get b = h.get b) : LV h' v l := by
  refine hv.imp id ?_
  rintro ⟨b, o, cap, ex, c, ce, e, hb, hs⟩
  exact ⟨b, o, cap, ex, c, ce, e, by rw [hk _ (Heap.lt_of_get hb)]; exact hb, hs⟩
theorem LV.len23 {h : Heap} {v : V} {l : List V} (hv : LV h v l) (g : Heap) : lenV Try.prog 23 v g = some (l.length, []) := by
  rcases hv with ⟨rfl, rfl | ⟨a, rfl⟩⟩ | ⟨b, o, cap, ex, c, ce, rfl, _⟩ <;> simp [Vm.lenV, Try.underlying23]
theorem LV.len24 {h : Heap} {v : V} {l : List V} (hv : LV h v l) (g : Heap) : lenV Try.prog 24 v g = some (l.length, []) := by
  rcases hv with ⟨rfl, rfl | ⟨a, rfl⟩⟩ | ⟨b, o, cap, ex, c, ce, rfl, _⟩ <;> simp [Vm.lenV, Try.underlying24]
theorem LV.one {h : Heap} {v : V} {l : List V} (hv : LV h v l) : v.one = true := by
  rcases hv with ⟨rfl, rfl | ⟨a, rfl⟩⟩ | ⟨b, o, cap, ex, c, ce, rfl, _⟩ <;> rfl
def Own (n0 : Nat) (h : Heap) (v : V) (l : List V) (e : TypeId) : Prop := (l = [] ∧ (v = .slice none 0 0 true ∨ ∃ b c, v = .slice (some (b, 0)) 0 0 true ∧ n0 ≤ b ∧ h.get b = some (.cells c e) ∧ c.ro = false)) ∨ ∃ b x c, l ≠ [] ∧ v = .slice (some (b, 0)) l.length l.length x ∧ n0 ≤ b ∧ h.get b = some (.cells c e) ∧ c.size = l.length ∧ c.ro = false ∧ c.gets 0 l.length = l
theorem Own.lv {n0 : Nat} {h : Heap} {v : V} {l : List V} {e : TypeId} (ho : Own n0 h v l e) : LV h v l := by
  rcases ho with ⟨rfl, rfl | ⟨b, c, rfl, _, hb, _⟩⟩ | ⟨b, x, c, h0, rfl, _, hb, hs, _, hg⟩
  · exact .inl ⟨rfl, .inl rfl⟩
  · exact .inr ⟨b, 0, 0, true, c, e, rfl, hb, by simp, rfl⟩
  · exact .inr ⟨b, 0, _, x, c, e, rfl, hb, by omega, hg⟩
theorem Own.old {n0 : Nat} {h h' : Heap} {v : V} {l : List V} {e : TypeId} (ho : Own n0 h v l e) (hk : ∀ b, b < h.n → h'.get b = h.get b) : Own n0 h' v l e := by
  rcases ho with ⟨rfl, rfl | ⟨b, c, rfl, h1, hb, hr⟩⟩ | ⟨b, x, c, h0, rfl, h1, hb, hs⟩
  · exact .inl ⟨rfl, .inl rfl⟩
  · exact .inl ⟨rfl, .inr ⟨b, c, rfl, h1, by rw [hk _ (Heap.lt_of_get hb)]; exact hb, hr⟩⟩
  · exact .inr ⟨b, x, c, h0, rfl, h1, by rw [hk _ (Heap.lt_of_get hb)]; exact hb, hs⟩
theorem ap_23 : apT Try.prog 23 23 = some (5, 1, 1) := by kernel_rfl
theorem ap_24 : apT Try.prog 24 24 = some (3, 1, 8) := by kernel_rfl
theorem clone23 {h : Heap} {R W : Set'} {v : V} {l : List V} (hv : LV h v l) (hl : l.length ≤ 1000000) (hR : ∀ b, R b) : SF Try.prog 29 [v] h R W fun r h' => Own h.n h' r l 5 ∧ ∀ b, b < h.n → h'.get b = h.get b := by
  refine SF.go hm Try.func29 ir29_eq ?_
  rcases hv with ⟨rfl, rfl | ⟨a, rfl⟩⟩ | ⟨b, o, cap, ex, c, ce, rfl, hb, hs, hg⟩
  · simp -implicitDefEqProofs (disch := (first | omega | (simp -implicitDefEqProofs only [szs, ne_eq] <;> omega) | fail)) only [go_sem, seval, ↓reduceIte, reduceCtorEq, ir29]
    exact .inl ⟨rfl, .inl rfl⟩
  · have hA := app_none (e := 5) (bytes := 1) (x := .esl a) (rs := []) (h := h.push (.cells (Blk.of []) 5)) (b := h.n) (c := Blk.of []) (ce := 5) rfl rfl (by rw [w_push_eq rfl]) rfl
    simp -implicitDefEqProofs (disch := (first | omega | (simp -implicitDefEqProofs only [szs, ne_eq] <;> omega) | fail)) only [go_sem, seval, ↓reduceIte, reduceCtorEq, ir29, appendV_of ap_23, hA]
    exact ⟨.inl ⟨rfl, .inr ⟨h.n, _, rfl, Nat.le_refl _, by simp -implicitDefEqProofs (disch := (first | omega | (simp -implicitDefEqProofs only [szs, ne_eq] <;> omega) | fail)) only [go_sem, seval]; rfl, rfl⟩⟩, fun b hb => by simp -implicitDefEqProofs (disch := (first | omega | (simp -implicitDefEqProofs only [szs, ne_eq] <;> omega) | fail)) only [go_sem, seval]⟩
  · have hlt := Heap.lt_of_get hb
    have hRb := hR b
    by_cases h0 : l = []
    · subst h0
      have hA := app_none (e := 5) (bytes := 1) (x := .slice (some (b, o)) 0 cap ex) (rs := [b]) (h := h.push (.cells (Blk.of []) 5)) (b := h.n) (c := Blk.of []) (ce := 5) rfl (by simp only [firstV]; rw [w_push_ne (by omega), hb]; simp only [Nat.zero_mul, Nat.add_zero]; rw [w_ble_t (by simpa using hs)]; rfl) (by rw [w_push_eq rfl]) rfl
      simp -implicitDefEqProofs (disch := (first | omega | (simp -implicitDefEqProofs only [szs, ne_eq] <;> omega) | fail)) only [go_sem, seval, ↓reduceIte, reduceCtorEq, ir29, appendV_of ap_23, hA, hRb]
      exact ⟨.inl ⟨rfl, .inr ⟨h.n, _, rfl, Nat.le_refl _, by simp -implicitDefEqProofs (disch := (first | omega | (simp -implicitDefEqProofs only [szs, ne_eq] <;> omega) | fail)) only [go_sem, seval]; rfl, rfl⟩⟩, fun b hb => by simp -implicitDefEqProofs (disch := (first | omega | (simp -implicitDefEqProofs only [szs, ne_eq] <;> omega) | fail)) only [go_sem, seval]⟩
    · have hp := List.length_pos_iff.2 h0
      have hA := append_whole (e := 5) (bytes := 1) (eb := h.n) (cap := cap) (ex := ex) (h := h.push (.cells (Blk.of []) 5)) (te := 5) (b := b) (o := o) (m := l.length) (c := c) (ce := ce) (by rw [w_push_eq rfl]) (by rw [w_push_ne (show b ≠ h.n by omega)]; exact hb) hs hp (by omega) (by omega)
      simp -implicitDefEqProofs (disch := (first | omega | (simp -implicitDefEqProofs only [szs, ne_eq] <;> omega) | fail)) only [go_sem, seval, ↓reduceIte, reduceCtorEq, ir29, appendV_of ap_23, hA, hRb]
      rw [hg]
      exact ⟨.inr ⟨h.n + 1, false, Blk.of l, h0, rfl, by omega, by simp -implicitDefEqProofs (disch := (first | omega | (simp -implicitDefEqProofs only [szs, ne_eq] <;> omega) | fail)) only [go_sem, seval], rfl, rfl, gets_all l rfl⟩, fun b hb => by simp -implicitDefEqProofs (disch := (first | omega | (simp -implicitDefEqProofs only [szs, ne_eq] <;> omega) | fail)) only [go_sem, seval]⟩
theorem clone24 {h : Heap} {R W : Set'} {v : V} {l : List V} (hv : LV h v l) (hl : l.length ≤ 1000000) (hR : ∀ b, R b) : SF Try.prog 31 [v] h R W fun r h' => Own h.n h' r l 3 ∧ ∀ b, b < h.n → h'.get b = h.get b := by
  refine SF.go hm Try.func31 ir31_eq ?_
  rcases hv with ⟨rfl, rfl | ⟨a, rfl⟩⟩ | ⟨b, o, cap, ex, c, ce, rfl, hb, hs, hg⟩
  · simp -implicitDefEqProofs (disch := (first | omega | (simp -implicitDefEqProofs only [szs, ne_eq] <;> omega) | fail)) only [go_sem, seval, ↓reduceIte, reduceCtorEq, ir31]
    exact .inl ⟨rfl, .inl rfl⟩
  · have hA := app_none (e := 3) (bytes := 8) (x := .esl a) (rs := []) (h := h.push (.cells (Blk.of []) 3)) (b := h.n) (c := Blk.of []) (ce := 3) rfl rfl (by rw [w_push_eq rfl]) rfl
    simp -implicitDefEqProofs (disch := (first | omega | (simp -implicitDefEqProofs only [szs, ne_eq] <;> omega) | fail)) only [go_sem, seval, ↓reduceIte, reduceCtorEq, ir31, appendV_of ap_24, hA]
    exact ⟨.inl ⟨rfl, .inr ⟨h.n, _, rfl, Nat.le_refl _, by simp -implicitDefEqProofs (disch := (first | omega | (simp -implicitDefEqProofs only [szs, ne_eq] <;> omega) | fail)) only [go_sem, seval]; rfl, rfl⟩⟩, fun b hb => by simp -implicitDefEqProofs (disch := (first | omega | (simp -implicitDefEqProofs only [szs, ne_eq] <;> omega) | fail)) only [go_sem, seval]⟩
  · have hlt := Heap.lt_of_get hb
    have hRb := hR b
    by_cases h0 : l = []
    · subst h0
      have hA := app_none (e := 3) (bytes := 8) (x := .slice (some (b, o)) 0 cap ex) (rs := [b]) (h := h.push (.cells (Blk.of []) 3)) (b := h.n) (c := Blk.of []) (ce := 3) rfl (by simp only [firstV]; rw [w_push_ne (by omega), hb]; simp only [Nat.zero_mul, Nat.add_zero]; rw [w_ble_t (by simpa using hs)]; rfl) (by rw [w_push_eq rfl]) rfl
      simp -implicitDefEqProofs (disch := (first | omega | (simp -implicitDefEqProofs only [szs, ne_eq] <;> omega) | fail)) only [go_sem, seval, ↓reduceIte, reduceCtorEq, ir31, appendV_of ap_24, hA, hRb]
      exact ⟨.inl ⟨rfl, .inr ⟨h.n, _, rfl, Nat.le_refl _, by simp -implicitDefEqProofs (disch := (first | omega | (simp -implicitDefEqProofs only [szs, ne_eq] <;> omega) | fail)) only [go_sem, seval]; rfl, rfl⟩⟩, fun b hb => by simp -implicitDefEqProofs (disch := (first | omega | (simp -implicitDefEqProofs only [szs, ne_eq] <;> omega) | fail)) only [go_sem, seval]⟩
    · have hp := List.length_pos_iff.2 h0
      have hA := append_whole (e := 3) (bytes := 8) (eb := h.n) (cap := cap) (ex := ex) (h := h.push (.cells (Blk.of []) 3)) (te := 3) (b := b) (o := o) (m := l.length) (c := c) (ce := ce) (by rw [w_push_eq rfl]) (by rw [w_push_ne (show b ≠ h.n by omega)]; exact hb) hs hp (by omega) (by omega)
      simp -implicitDefEqProofs (disch := (first | omega | (simp -implicitDefEqProofs only [szs, ne_eq] <;> omega) | fail)) only [go_sem, seval, ↓reduceIte, reduceCtorEq, ir31, appendV_of ap_24, hA, hRb]
      rw [hg]
      exact ⟨.inr ⟨h.n + 1, false, Blk.of l, h0, rfl, by omega, by simp -implicitDefEqProofs (disch := (first | omega | (simp -implicitDefEqProofs only [szs, ne_eq] <;> omega) | fail)) only [go_sem, seval], rfl, rfl, gets_all l rfl⟩, fun b hb => by simp -implicitDefEqProofs (disch := (first | omega | (simp -implicitDefEqProofs only [szs, ne_eq] <;> omega) | fail)) only [go_sem, seval]⟩
end Go.Proofs.Ytmkdbninmimndaa
