/- The document's words in memory. -/
import Derived.Test.YtmkdbninmimndaaD8
set_option linter.unusedVariables false
set_option maxRecDepth 100000
namespace Go.Proofs.Ytmkdbninmimndaa
open Go Go.Vm
theorem n_mul {x y z : Nat} (hz : z < 4294967296) (e : x * y = z) : intBin .mul .u32 (x : Int) (y : Int) = some (.int .u32 (z : Int)) := by
  show some (V.int .u32 (IntKind.u32.wrap _)) = _
  rw [← Int.natCast_mul, e, IntWalk.u32_in _ (by omega)]
theorem n_add {x y z : Nat} (hz : z < 4294967296) (e : x + y = z) : intBin .add .u32 (x : Int) (y : Int) = some (.int .u32 (z : Int)) := by
  show some (V.int .u32 (IntKind.u32.wrap _)) = _
  rw [← Int.natCast_add, e, IntWalk.u32_in _ (by omega)]
def wpar (f : Nat → Nat) : Nat → Nat
  | 0 => 0
  | j + 1 => wpar f j * 256 + f (3 - j)
theorem wpar_4 (f : Nat → Nat) : wpar f 4 = wd f := by
  simp only [wpar, wd, show 3 - 0 = 3 from rfl, show 3 - 1 = 2 from rfl, show 3 - 2 = 1 from rfl, show 3 - 3 = 0 from rfl]
  omega
theorem wpar_lt {f : Nat → Nat} (hf : ∀ i, i < 4 → f i < 256) : ∀ j, j < 4 → wpar f j < 16777216 := by
  have h3 := hf 3 (by omega); have h2 := hf 2 (by omega); have h1 := hf 1 (by omega)
  intro j hj
  rcases (show j = 0 ∨ j = 1 ∨ j = 2 ∨ j = 3 by omega) with rfl | rfl | rfl | rfl <;> simp only [wpar, show 3 - 0 = 3 from rfl, show 3 - 1 = 2 from rfl, show 3 - 2 = 1 from rfl] <;> omega
def wN (L : List V) (a : Nat) : Nat := wd fun i => bN L (ad a i)
theorem LV.byte {h : Heap} {vB : V} {L : List V} (hv : LV h vB L) (hb : BytL L) {a : Nat} (ha : a < L.length) : ∃ b o cap ex c ce, vB = .slice (some (b, o)) L.length cap ex ∧ h.get b = some (.cells c ce) ∧ o + L.length ≤ c.size ∧ c.get (o + a) = .int .u8 (bN L a : Nat) := by
  obtain ⟨b, o, cap, ex, c, ce, rfl, hg, hs, hx⟩ := hv.get ha
  refine ⟨b, o, cap, ex, c, ce, rfl, hg, hs, ?_⟩
  have := (bN_eq hb a).1
  unfold getB at this
  rw [if_pos ha] at this
  rw [hx, this]
set_option maxHeartbeats 40000000 in
theorem rword50_ok {h : Heap} {R W : Set'} {rm : Nat} {vB vr : V} {L : List V} (hr : MemAt h rm vB vr) (hv : LV h vB L) (hb : BytL L) {a : Nat} (hin : ∀ i, i < 4 → ad a i < L.length) (hL : L.length ≤ 8192) (hR : ∀ b, b < h.n → R b) : SF (Try.prog : MP) 50 [.ptr (some (rm, 0)), .int .u32 a] h R W fun r h' => r = .int .u32 (wN L a : Nat) ∧ h' = h := by
  have hf : ∀ i, i < 4 → bN L (ad a i) < 256 := fun i _ => (bN_eq hb _).2
  obtain ⟨cm, m1, ms, m0, m2⟩ := hr.c
  have hRm := hR rm (Heap.lt_of_get m1)
  refine SF.go hm Try.func50 ir50_eq ?_
  simp -implicitDefEqProofs (disch := (first | omega | fail)) only [go_sem, Nat.reduceAdd, Nat.reduceSub, Nat.reduceLT, Nat.reduceMod, Nat.reduceDiv, ↓reduceIte, reduceCtorEq, ir50]
  refine GLoop.inv hm (fun k f g => g = h ∧ f.mks = [] ∧ f.tm.n = 26 ∧ f.tm.get 0 = some (.ptr (some (rm, 0))) ∧ f.tm.get 1 = some (.int .u32 a) ∧ ∃ j : Nat, j + k = 4 ∧ f.tm.get 6 = some (.int .i64 ((k : Int) - 1)) ∧ f.tm.get 5 = some (.int .u32 (wpar (fun i => bN L (ad a i)) j : Nat))) 4 ?_ ?_
  · exact ⟨rfl, rfl, rfl, by simp -implicitDefEqProofs (disch := (first | omega | fail)) only [go_sem, ↓reduceIte], by simp -implicitDefEqProofs (disch := (first | omega | fail)) only [go_sem, Nat.reduceDiv, ↓reduceIte, reduceCtorEq], 0, by omega, by simp -implicitDefEqProofs (disch := (first | omega | fail)) only [go_sem, Nat.reduceSub, Nat.reduceMod, Nat.reduceDiv, ↓reduceIte, reduceCtorEq]; rfl, by simp -implicitDefEqProofs (disch := (first | omega | fail)) only [go_sem, Nat.reduceSub, Nat.reduceMod, Nat.reduceDiv, ↓reduceIte, reduceCtorEq]; rfl⟩
  rintro k ⟨⟨n', tr⟩, mks⟩ g ⟨rfl, hmk, hn', t0, t1, j, hj, t6, t5⟩
  simp only [Tm.get_mk] at hmk hn' t0 t1 t6 t5
  subst hmk hn'
  by_cases hk : k = 0
  · subst hk
    obtain rfl : j = 4 := by omega
    rw [wpar_4] at t5
    simp -implicitDefEqProofs (disch := (first | omega | fail)) only [go_sem, Nat.reduceAdd, Nat.reduceLT, Nat.reduceEqDiff, ↓reduceIte, ir50_l0, t6, t5]
    rfl
  · obtain ⟨i, hi⟩ : ∃ i : Nat, i = k - 1 := ⟨_, rfl⟩
    have hki : (k : Int) - 1 = (i : Int) := by omega
    rw [hki] at t6
    have hi4 : i < 4 := by omega
    obtain ⟨b, o, cap, ex, c, ce, rfl, hg, hs, hx⟩ := hv.byte hb (hin i hi4)
    have hbn := hf i hi4
    have hRb := hR b (Heap.lt_of_get hg)
    have hlt := wpar_lt hf j (by omega)
    have hal := hin i hi4
    have hstep : wpar (fun i => bN L (ad a i)) (j + 1) = wpar (fun i => bN L (ad a i)) j * 256 + bN L (ad a i) := by
      simp only [wpar]; rw [show 3 - j = i by omega]
    obtain ⟨p, hp⟩ : ∃ p : Nat, p = wpar (fun i => bN L (ad a i)) j := ⟨_, rfl⟩
    rw [← hp] at hstep hlt t5
    obtain ⟨p2, hp2⟩ : ∃ p2 : Nat, p2 = p * 256 := ⟨_, rfl⟩
    obtain ⟨x, hxx⟩ : ∃ x : Nat, x = bN L (ad a i) := ⟨_, rfl⟩
    rw [← hxx] at hstep hbn hx
    obtain ⟨p3, hp3⟩ : ∃ p3 : Nat, p3 = p2 + x := ⟨_, rfl⟩
    have a1 : intBin .mul .u32 (p : Int) 256 = some (.int .u32 (p2 : Int)) := n_mul (y := 256) (by omega) (by omega)
    have a2 : intBin .add .u32 (p2 : Int) (x : Int) = some (.int .u32 (p3 : Int)) := n_add (by omega) (by omega)
    have w0 : IntKind.u32.wrap (x : Int) = x := IntWalk.u32_in _ (by omega)
    have hwl : ¬ (i : Int) < 0 := by omega
    simp -implicitDefEqProofs (disch := (first | omega | fail)) only [go_sem, Nat.reduceAdd, Nat.reduceLT, Nat.reduceEqDiff, ↓reduceIte, reduceCtorEq, ir50_l0, t0, t1, t6, t5, ↓a1, m1, ms, m0, hRm, ↓cvD, cD, ↓ad_eq, hg, hx, hRb, ↓cv5_25, c5_25, w0, ↓a2]
    refine ⟨k - 1, by omega, j + 1, by omega, by rw [← hi]; try rfl, ?_⟩
    rw [hstep]; congr 2; omega
end Go.Proofs.Ytmkdbninmimndaa
