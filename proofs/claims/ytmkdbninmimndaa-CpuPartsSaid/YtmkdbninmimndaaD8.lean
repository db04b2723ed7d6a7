/- Words in memory. -/
import Derived.Test.YtmkdbninmimndaaD7
set_option linter.unusedVariables false
set_option maxRecDepth 100000
namespace Go.Proofs.Ytmkdbninmimndaa
open Go Go.Vm
def bN (L : List V) (a : Nat) : Nat := match getB L a with
  | .int .u8 n => n.toNat
  | _ => 0
def BytL (L : List V) : Prop := ∀ i, i < L.length → ∃ n : Int, L[i]? = some (.int .u8 n) ∧ 0 ≤ n ∧ n ≤ 255
theorem bN_eq {L : List V} (hb : BytL L) (a : Nat) : getB L a = .int .u8 (bN L a : Nat) ∧ bN L a < 256 := by
  obtain ⟨n, h1, h2, h3⟩ := getB_int (a := a) hb
  unfold bN
  rw [h1]
  exact ⟨by simp; omega, by simp; omega⟩
def wd (f : Nat → Nat) : Nat := f 0 + f 1 * 256 + f 2 * 65536 + f 3 * 16777216
theorem wd_lt {f : Nat → Nat} (h : ∀ i, i < 4 → f i < 256) : wd f < 4294967296 := by
  have := h 0 (by omega); have := h 1 (by omega); have := h 2 (by omega); have := h 3 (by omega)
  unfold wd; omega
theorem LV.four {h : Heap} {v : V} {l : List V} {f : Nat → Nat} (hv : LV h v l) (hl : 4 ≤ l.length) (hf : ∀ i, i < 4 → l[i]? = some (.int .u8 (f i : Nat))) : ∃ b o cap ex c ce, v = .slice (some (b, o)) l.length cap ex ∧ h.get b = some (.cells c ce) ∧ o + l.length ≤ c.size ∧ c.get o = .int .u8 (f 0 : Nat) ∧ c.get (o + 1) = .int .u8 (f 1 : Nat) ∧ c.get (o + 2) = .int .u8 (f 2 : Nat) ∧ c.get (o + 3) = .int .u8 (f 3 : Nat) := by
  have key : ∀ i, i < 4 → l.getD i undefV = .int .u8 (f i : Nat) := fun i hi => by rw [List.getD_eq_getElem?_getD, hf i hi]; rfl
  rcases hv with ⟨rfl, _⟩ | ⟨b, o, cap, ex, c, ce, rfl, hb, hs, hg⟩
  · simp at hl
  · have hv : LV h (.slice (some (b, o)) l.length cap ex) l := .inr ⟨b, o, cap, ex, c, ce, rfl, hb, hs, hg⟩
    have g : ∀ i, i < 4 → c.get (o + i) = .int .u8 (f i : Nat) := fun i hi => by
      obtain ⟨b', o', cap', ex', c', ce', e, hb', hs', hg'⟩ := hv.get (show i < l.length by omega)
      cases e
      rw [hb] at hb'
      cases hb'
      rw [hg', key i hi]
    exact ⟨b, o, cap, ex, c, ce, rfl, hb, hs, g 0 (by omega), g 1 (by omega), g 2 (by omega), g 3 (by omega)⟩
theorem or_wd {a b c d : Nat} (ha : a < 256) (hb : b < 256) (hc : c < 256) (hd : d < 256) : a ||| b * 256 = a + b * 256 ∧ (a + b * 256) ||| c * 65536 = a + b * 256 + c * 65536 ∧ (a + b * 256 + c * 65536) ||| d * 16777216 = a + b * 256 + c * 65536 + d * 16777216 :=
  ⟨or_add 8 (by omega), or_add 16 (by omega), or_add 24 (by omega)⟩
set_option maxHeartbeats 40000000 in
theorem word48_ok {h : Heap} {R W : Set'} {v : V} {l : List V} {f : Nat → Nat} (hv : LV h v l) (hl : 4 ≤ l.length) (hf : ∀ i, i < 4 → l[i]? = some (.int .u8 (f i : Nat))) (hfl : ∀ i, i < 4 → f i < 256) (hR : ∀ b, b < h.n → R b) : SF (Try.prog : MP) 48 [v] h R W fun r h' => r = .int .u32 (wd f : Nat) ∧ h' = h := by
  obtain ⟨b, o, cap, ex, c, ce, rfl, hb, hs, g0, g1, g2, g3⟩ := hv.four hl hf
  have hRb := hR b (Heap.lt_of_get hb)
  have q0 := hfl 0 (by omega); have q1 := hfl 1 (by omega); have q2 := hfl 2 (by omega); have q3 := hfl 3 (by omega)
  unfold wd
  generalize f 0 = n0 at *
  generalize f 1 = n1 at *
  generalize f 2 = n2 at *
  generalize f 3 = n3 at *
  obtain ⟨e1, e2, e3⟩ := or_wd q0 q1 q2 q3
  have w0 : IntKind.u32.wrap (n0 : Int) = n0 := IntWalk.u32_in _ (by omega)
  have w1 : IntKind.u32.wrap (n1 : Int) = n1 := IntWalk.u32_in _ (by omega)
  have w2 : IntKind.u32.wrap (n2 : Int) = n2 := IntWalk.u32_in _ (by omega)
  have w3 : IntKind.u32.wrap (n3 : Int) = n3 := IntWalk.u32_in _ (by omega)
  obtain ⟨x1, hx1⟩ : ∃ x : Nat, x = n1 * 256 := ⟨_, rfl⟩
  obtain ⟨x2, hx2⟩ : ∃ x : Nat, x = n2 * 65536 := ⟨_, rfl⟩
  obtain ⟨x3, hx3⟩ : ∃ x : Nat, x = n3 * 16777216 := ⟨_, rfl⟩
  rw [← hx1] at e1 e2 e3
  rw [← hx2] at e2 e3
  rw [← hx3] at e3
  obtain ⟨y1, hy1⟩ : ∃ y : Nat, y = n0 + x1 := ⟨_, rfl⟩
  rw [← hy1] at e1 e2 e3
  obtain ⟨y2, hy2⟩ : ∃ y : Nat, y = y1 + x2 := ⟨_, rfl⟩
  rw [← hy2] at e2 e3
  obtain ⟨y3, hy3⟩ : ∃ y : Nat, y = y2 + x3 := ⟨_, rfl⟩
  rw [← hy3] at e3
  have s1 : intShift .shl .u32 (n1 : Int) 8 = some (.int .u32 (x1 : Int)) := n_shl 8 (by omega) (by omega)
  have s2 : intShift .shl .u32 (n2 : Int) 16 = some (.int .u32 (x2 : Int)) := n_shl 16 (by omega) (by omega)
  have s3 : intShift .shl .u32 (n3 : Int) 24 = some (.int .u32 (x3 : Int)) := n_shl 24 (by omega) (by omega)
  have r1 := n_or (by omega) (by omega) e1
  have r2 := n_or (by omega) (by omega) e2
  have r3 := n_or (by omega) (by omega) e3
  refine SF.go hm Try.func48 ir48_eq ?_
  have l0 : (0 : Int) < l.length := by omega
  have l1 : (1 : Int) < l.length := by omega
  have l2 : (2 : Int) < l.length := by omega
  have l3 : (3 : Int) < l.length := by omega
  simp -implicitDefEqProofs (disch := (first | omega | fail)) only [go_sem, seval, ↓reduceIte, reduceCtorEq, ir48, l0, l1, l2, l3, hb, g0, g1, g2, g3, hRb, ↓cvd5_25, c5_25, w0, w1, w2, w3, ↓s1, ↓s2, ↓s3, ↓r1, ↓r2, ↓r3]
  rw [show n0 + n1 * 256 + n2 * 65536 + n3 * 16777216 = y3 by omega]
set_option maxHeartbeats 40000000 in
theorem read47_ok {h : Heap} {v : V} {l : List V} {f : Nat → Nat} (hv : LV h v l) (hl : l.length = 4) (hf : ∀ i, i < 4 → l[i]? = some (.int .u8 (f i : Nat))) (hfl : ∀ i, i < 4 → f i < 256) : SF (Try.prog : MP) 47 [v] h (fun _ => True) (fun _ => False) fun r h' => r = decV (wd f) := by
  have hlen := hv.len23
  obtain ⟨b, o, cap, ex, c, ce, rfl, hb, hs, g0, g1, g2, g3⟩ := hv.four (by omega) hf
  rw [hl] at hlen hs ⊢
  have hlt := wd_lt hfl
  have q0 := hfl 0 (by omega); have q1 := hfl 1 (by omega); have q2 := hfl 2 (by omega); have q3 := hfl 3 (by omega)
  unfold wd at *
  generalize f 0 = n0 at *
  generalize f 1 = n1 at *
  generalize f 2 = n2 at *
  generalize f 3 = n3 at *
  obtain ⟨e1, e2, e3⟩ := or_wd q0 q1 q2 q3
  have w0 : IntKind.u32.wrap (n0 : Int) = n0 := IntWalk.u32_in _ (by omega)
  have w1 : IntKind.u32.wrap (n1 : Int) = n1 := IntWalk.u32_in _ (by omega)
  have w2 : IntKind.u32.wrap (n2 : Int) = n2 := IntWalk.u32_in _ (by omega)
  have w3 : IntKind.u32.wrap (n3 : Int) = n3 := IntWalk.u32_in _ (by omega)
  obtain ⟨x1, hx1⟩ : ∃ x : Nat, x = n1 * 256 := ⟨_, rfl⟩
  obtain ⟨x2, hx2⟩ : ∃ x : Nat, x = n2 * 65536 := ⟨_, rfl⟩
  obtain ⟨x3, hx3⟩ : ∃ x : Nat, x = n3 * 16777216 := ⟨_, rfl⟩
  rw [← hx1, ← hx2, ← hx3] at hlt ⊢
  rw [← hx1] at e1 e2 e3
  rw [← hx2] at e2 e3
  rw [← hx3] at e3
  obtain ⟨y1, hy1⟩ : ∃ y : Nat, y = n0 + x1 := ⟨_, rfl⟩
  rw [← hy1] at e1 e2 e3 hlt ⊢
  obtain ⟨y2, hy2⟩ : ∃ y : Nat, y = y1 + x2 := ⟨_, rfl⟩
  rw [← hy2] at e2 e3 hlt ⊢
  obtain ⟨y3, hy3⟩ : ∃ y : Nat, y = y2 + x3 := ⟨_, rfl⟩
  rw [← hy3] at e3 hlt ⊢
  have s1 : intShift .shl .u32 (n1 : Int) 8 = some (.int .u32 (x1 : Int)) := n_shl 8 (by omega) (by omega)
  have s2 : intShift .shl .u32 (n2 : Int) 16 = some (.int .u32 (x2 : Int)) := n_shl 16 (by omega) (by omega)
  have s3 : intShift .shl .u32 (n3 : Int) 24 = some (.int .u32 (x3 : Int)) := n_shl 24 (by omega) (by omega)
  have r1 := n_or (by omega) (by omega) e1
  have r2 := n_or (by omega) (by omega) e2
  have r3 := n_or (by omega) (by omega) e3
  refine SF.go hm Try.func47 ir47_eq ?_
  have hlb := Heap.lt_of_get hb
  have l0 : (0 : Int) < ((4 : Nat) : Int) := by decide
  have l1 : (1 : Int) < ((4 : Nat) : Int) := by decide
  have l2 : (2 : Int) < ((4 : Nat) : Int) := by decide
  have l3 : (3 : Int) < ((4 : Nat) : Int) := by decide
  simp -implicitDefEqProofs (disch := (first | omega | (simp -implicitDefEqProofs only [szs, ne_eq] <;> omega) | fail)) only [go_sem, seval, ↓reduceIte, reduceCtorEq, ir47, ↓hlen, hb, g0, g1, g2, g3, ↓cvd5_25, c5_25, w0, w1, w2, w3, ↓s1, ↓s2, ↓s3, ↓r1, ↓r2, ↓r3]
  refine GCallD.of (R' := fun _ => False) (W' := fun _ => False) ((iof_ok hlt _).kept) ?_
  rintro r g ⟨rfl, vf⟩
  have hz := (vf.get h.n (by simp) (by simp)).trans (w_push_eq rfl _)
  have hn := vf.n
  simp at hn
  unfold decV
  cases accW y3
  · simp -implicitDefEqProofs (disch := (first | omega | (simp -implicitDefEqProofs only [szs, ne_eq] <;> omega) | fail)) only [go_sem, seval, ↓reduceIte, reduceCtorEq, undefV, hz]
    exact fun _ _ h => h.elim
  · simp -implicitDefEqProofs (disch := (first | omega | (simp -implicitDefEqProofs only [szs, ne_eq] <;> omega) | fail)) only [go_sem, seval, ↓reduceIte, reduceCtorEq, undefV, hz]
    exact fun _ _ h => h.elim
end Go.Proofs.Ytmkdbninmimndaa
