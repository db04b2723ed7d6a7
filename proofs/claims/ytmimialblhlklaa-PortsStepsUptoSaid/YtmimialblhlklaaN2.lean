/- The document's ports: May. -/
import Derived.Test.YtmimialblhlklaaN1
set_option linter.unusedVariables false
set_option maxRecDepth 100000
namespace Go.Proofs.Ytmimialblhlklaa
open Go Go.Vm
variable {h : Heap} {R W I : Set'}
theorem rmay_ok {S : Set'} {v : V} {L : List Te} (hv : TestsV h S v L) (hR : ∀ b, R b) : SF Try.prog 69 [v] h R W fun r h' => r = .bool (decide (okF L)) ∧ h' = h := by
 have hl := LRs.lenV Try.underlying22 hv
 refine SF.go hm Try.func69 ir69_eq ?_
 by_cases h8 : 8 < (L.length : Int)
 ·simp -implicitDefEqProofs (disch := (first | omega | fail)) only [go_sem, seval, ↓reduceIte, reduceCtorEq, ir69, ↓hl, h8]
  rw [decide_eq_false fun h => by have := h.1; omega]
 simp -implicitDefEqProofs (disch := (first | omega | fail)) only [go_sem, seval, ↓reduceIte, reduceCtorEq, ir69, ↓hl, h8]
 refine GLoop.inv hm (fun k f g => f.mks = [] ∧ g = h ∧ f.tm.n = 59 ∧ f.tm.get 0 = some v ∧ ∃ i : Nat, i + k = L.length ∧ f.tm.get 3 = some (.int .i64 (i : Int)) ∧ ∀ x ∈ L.take i, okTe x) L.length ?_ ?_
 ·exact ⟨rfl, rfl, rfl, by simp -implicitDefEqProofs (disch := (first | omega | fail)) only [go_sem, seval, ↓reduceIte], 0, by omega, by simp -implicitDefEqProofs (disch := (first | omega | fail)) only [go_sem, Nat.reduceMod, Nat.reduceDiv, ↓reduceIte, reduceCtorEq]; rfl, fun x hx => by simp at hx⟩
 rintro k ⟨⟨n', tr⟩, mks⟩ g ⟨hmk, rfl, hn', t0, i, hik, t3, hok⟩
 simp only [Tm.get_mk] at hmk hn' t0 t3
 subst hmk hn'
 have hi0 : (0 : Int) ≤ (i : Int) := by omega
 by_cases hi : i < L.length
 rotate_left
 ·have hz : ¬ (i : Int) < (L.length : Int) := by omega
  simp -implicitDefEqProofs (disch := (first | omega | fail)) only [go_sem, seval, ↓reduceIte, reduceCtorEq, ir69_l0, t0, t3, ↓hl, hz]
  rw [List.take_of_length_le (by omega)] at hok
  rw [decide_eq_true (show okF L from ⟨by omega, hok⟩)]
 have hz : (i : Int) < (L.length : Int) := by omega
 have hLi : L[i]? = some L[i] := List.getElem?_eq_getElem hi
 obtain ⟨b, o, cap, ex, c, ce, rfl, _, hb, hs, g0, g1, g2⟩ := TestsV.get hv hLi
 have hmem : L[i] ∈ L := List.getElem_mem hi
 generalize L[i] = t at *
 have hRb := hR b
 have bad : ¬ okTe t → decide (okF L) = false := fun h => decide_eq_false fun h2 => h (h2.2 t hmem)
 have hsz : o + i * 3 + 3 ≤ c.size := by omega
 by_cases q0 : t.at' < 0
 ·simp -implicitDefEqProofs (disch := (first | omega | fail)) only [go_sem, seval, ↓reduceIte, reduceCtorEq, ir69_l0, undefV, t0, t3, ↓hl, hz, hi0, hb, hRb, g0, q0]
  rw [bad fun h => by have := h.1; omega]
 by_cases q1 : 64 ≤ t.at'
 ·simp -implicitDefEqProofs (disch := (first | omega | fail)) only [go_sem, seval, ↓reduceIte, reduceCtorEq, ir69_l0, undefV, t0, t3, ↓hl, hz, hi0, hb, hRb, g0, q0, q1]
  rw [bad fun h => by have := h.2.1; omega]
 by_cases q2 : t.mask < 0
 ·simp -implicitDefEqProofs (disch := (first | omega | fail)) only [go_sem, seval, ↓reduceIte, reduceCtorEq, ir69_l0, undefV, t0, t3, ↓hl, hz, hi0, hb, hRb, g0, g1, q0, q1, q2]
  rw [bad fun h => by have := h.2.2.1; omega]
 by_cases q3 : 255 < t.mask
 ·simp -implicitDefEqProofs (disch := (first | omega | fail)) only [go_sem, seval, ↓reduceIte, reduceCtorEq, ir69_l0, undefV, t0, t3, ↓hl, hz, hi0, hb, hRb, g0, g1, q0, q1, q2, q3]
  rw [bad fun h => by have := h.2.2.2.1; omega]
 by_cases q4 : t.val < 0
 ·simp -implicitDefEqProofs (disch := (first | omega | fail)) only [go_sem, seval, ↓reduceIte, reduceCtorEq, ir69_l0, undefV, t0, t3, ↓hl, hz, hi0, hb, hRb, g0, g1, g2, q0, q1, q2, q3, q4]
  rw [bad fun h => by have := h.2.2.2.2.1; omega]
 by_cases q5 : 255 < t.val
 ·simp -implicitDefEqProofs (disch := (first | omega | fail)) only [go_sem, seval, ↓reduceIte, reduceCtorEq, ir69_l0, t0, t3, ↓hl, hz, hi0, hb, hRb, g0, g1, g2, q0, q1, q2, q3, q4, q5]
  rw [bad fun h => by have := h.2.2.2.2.2; omega]
 simp -implicitDefEqProofs (disch := (first | omega | fail)) only [go_sem, seval, ↓reduceIte, reduceCtorEq, ir69_l0, t0, t3, ↓hl, hz, hi0, hb, hRb, g0, g1, g2, q0, q1, q2, q3, q4, q5]
 exact ⟨k - 1, by omega, i + 1, by omega, by simp, take_ok hok hLi ⟨by omega, by omega, by omega, by omega, by omega, by omega⟩⟩
end Go.Proofs.Ytmimialblhlklaa
namespace Go.Proofs.Ytmimialblhlklaa
open Go Go.Vm
variable {h : Heap} {R W I : Set'}
set_option maxHeartbeats 2000000 in
theorem rmatch_ok {S S2 : Set'} {v vf : V} {l : List V} {L : List Te} (hl : LR h S v l) (hby : Byt l) (hf : TestsV h S2 vf L) (hR : ∀ b, R b) : SF Try.prog 71 [vf, v] h R W fun r h' => r = .bool (matchP L l) ∧ h' = h := by
 have hlf := LRs.lenV Try.underlying22 hf
 have hlen := hl.lenV Try.underlying36
 refine SF.go hm Try.func71 ir71_eq ?_
 simp -implicitDefEqProofs (disch := (first | omega | fail)) only [go_sem, seval, ↓reduceIte, reduceCtorEq, ir71]
 refine GCall.of (rmay_ok hf (fun b => .inr (hR b))) ?_
 rintro r g ⟨rfl, rfl⟩
 have hmf : ¬ (okF L ∧ l.length ≤ 64) → matchP L l = false := fun h => by unfold matchP; rw [decide_eq_false h]; rfl
 by_cases hok : okF L
 rotate_left
 ·rw [decide_eq_false hok, hmf fun h => hok h.1]
  simp -implicitDefEqProofs (disch := (first | omega | fail)) only [go_sem, seval, ↓reduceIte, reduceCtorEq, undefV]
 rw [decide_eq_true hok]
 by_cases h64 : (64 : Int) < (l.length : Int)
 ·rw [hmf fun h => by have := h.2; omega]
  simp -implicitDefEqProofs (disch := (first | omega | fail)) only [go_sem, seval, ↓reduceIte, reduceCtorEq, ↓hlen, h64]
 have hmt : matchP L l = !(L.any (badT l)) := by unfold matchP; rw [decide_eq_true ⟨hok, by omega⟩]; simp
 rw [hmt]
 simp -implicitDefEqProofs (disch := (first | omega | fail)) only [go_sem, seval, ↓reduceIte, reduceCtorEq, ↓hlen, h64]
 refine GLoop.inv hm (fun k f g' => f.mks = [] ∧ g' = g ∧ f.tm.n = 51 ∧ f.tm.get 0 = some vf ∧ f.tm.get 1 = some v ∧ ∃ i : Nat, i + k = L.length ∧ f.tm.get 5 = some (.int .i64 (i : Int)) ∧ ∀ x ∈ L.take i, badT l x = false) L.length ?_ ?_
 ·exact ⟨rfl, rfl, rfl, by simp -implicitDefEqProofs (disch := (first | omega | fail)) only [go_sem, seval, ↓reduceIte], by simp -implicitDefEqProofs (disch := (first | omega | fail)) only [go_sem, seval, ↓reduceIte, reduceCtorEq], 0, by omega, by simp -implicitDefEqProofs (disch := (first | omega | fail)) only [go_sem, Nat.reduceSub, Nat.reduceMod, Nat.reduceDiv, ↓reduceIte, reduceCtorEq]; rfl, fun x hx => by simp at hx⟩
 rintro k ⟨⟨n', tr⟩, mks⟩ g ⟨hmk, rfl, hn', t0, t1, i, hik, t5, hnb⟩
 simp only [Tm.get_mk] at hmk hn' t0 t1 t5
 subst hmk hn'
 have hi0 : (0 : Int) ≤ (i : Int) := by omega
 have h8 := hok.1
 by_cases hi : i < L.length
 rotate_left
 ·have hz : ¬ (i : Int) < (L.length : Int) := by omega
  simp -implicitDefEqProofs (disch := (first | omega | fail)) only [go_sem, seval, ↓reduceIte, reduceCtorEq, ir71_l0, t0, t5, ↓hlf, hz]
  rw [List.take_of_length_le (by omega)] at hnb
  rw [show L.any (badT l) = false from List.any_eq_false.2 fun x hx => by rw [hnb x hx]; decide]; rfl
 have hz : (i : Int) < (L.length : Int) := by omega
 have hLi : L[i]? = some L[i] := List.getElem?_eq_getElem hi
 have hmem : L[i] ∈ L := List.getElem_mem hi
 obtain ⟨b, o, cap, ex, c, ce, rfl, _, hb, hs, g0, g1, g2⟩ := TestsV.get hf hLi
 generalize L[i] = t at *
 obtain ⟨q0, q1, q2, q3, q4, q5⟩ := hok.2 t hmem
 have hRb := hR b
 have hsz : o + i * 3 + 3 ≤ c.size := by omega
 have isbad : badT l t = true → L.any (badT l) = true := fun h => List.any_eq_true.2 ⟨t, hmem, h⟩
 have good : badT l t = false → ∀ x ∈ L.take (i + 1), badT l x = false := fun h x hx => by
  rw [List.take_add_one, hLi] at hx
  rcases List.mem_append.1 hx with h1 | h1
  ·exact hnb x h1
  ·simp at h1; rw [h1]; exact h
 by_cases ha : (l.length : Int) ≤ t.at'
 ·have hbt : badT l t = true := by unfold badT; rw [decide_eq_true ha]; rfl
  simp -implicitDefEqProofs (disch := (first | omega | fail)) only [go_sem, seval, ↓reduceIte, reduceCtorEq, ir71_l0, undefV, t0, t1, t5, ↓hlf, ↓hlen, hz, hi0, hb, hRb, g0, ha]
  rw [isbad hbt]
  simp
 ·obtain ⟨j, hj⟩ := Int.eq_ofNat_of_zero_le q0
  have hjl : j < l.length := by omega
  obtain ⟨bk, o2, cap2, ex2, cc, ce2, e, _, hbk, hsk, hg⟩ := hl.get hjl
  obtain ⟨hbe, hb0, hb1⟩ := bytN_eq hby hjl
  rw [hbe] at hg
  have hRk := hR bk
  have hw : IntKind.i64.wrap (bytN l j) = bytN l j := IntWalk.i64_in _ (by omega)
  have ha' : ¬ (l.length : Int) ≤ (j : Int) := by omega
  have hjz : (j : Int) < (l.length : Int) := by omega
  have hj0 : (0 : Int) ≤ (j : Int) := by omega
  subst e
  have hbt : badT l t = !(andI (bytN l j) t.mask == t.val) := by
   unfold badT
   rw [decide_eq_false ha, hj]; simp
  rw [hj] at g0
  cases hcmp : (andI (bytN l j) t.mask == t.val)
  ·have hne : (andI (bytN l j) t.mask != t.val) = true := by rw [bne, hcmp]; rfl
   simp -implicitDefEqProofs (disch := (first | omega | fail)) only [go_sem, seval, ↓reduceIte, reduceCtorEq, ir71_l0, t0, t1, t5, ↓hlf, ↓hlen, hz, hi0, hb, hRb, g0, g1, g2, ha', hjz, hj0, hbk, hg, hRk, ↓cv5_3D, c5_3, hw, ↓and_eq, hne]
   rw [isbad (by rw [hbt, hcmp]; rfl)]; rfl
  ·have hne : (andI (bytN l j) t.mask != t.val) = false := by rw [bne, hcmp]; rfl
   simp -implicitDefEqProofs (disch := (first | omega | fail)) only [go_sem, seval, ↓reduceIte, reduceCtorEq, ir71_l0, t0, t1, t5, ↓hlf, ↓hlen, hz, hi0, hb, hRb, g0, g1, g2, ha', hjz, hj0, hbk, hg, hRk, ↓cv5_3D, c5_3, hw, ↓and_eq, hne]
   exact ⟨k - 1, by omega, i + 1, by omega, by simp, good (by rw [hbt, hcmp]; rfl)⟩
end Go.Proofs.Ytmimialblhlklaa
