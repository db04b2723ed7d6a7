/- The document's ports: in, ask. -/
import Derived.Test.YtmimialblhlklaaG3
set_option linter.unusedVariables false
set_option maxRecDepth 100000
namespace Go.Proofs.Ytmimialblhlklaa
open Go Go.Vm
variable {h : Heap} {R W I : Set'} {rd : Nat} {bl : Nat → Nat} {qs : List Nat} {S : AT}
theorem RPorts.lenV (hr : RPorts h I rd bl qs S) : ∃ c, h.get rd = some (.cells c 106) ∧ c.size = 1 ∧ (∀ g, lenV Try.prog 104 (c.get 0) g = some (qs.length, [])) ∧ (c.get 0).one = true ∧ LR h I (c.get 0) (slV bl qs) := by
 obtain ⟨c, c1, c2, c3⟩ := hr.c
 have := c3.lenV Try.underlying104
 rw [slV_len] at this
 exact ⟨c, c1, c2, this, c3.one, c3⟩
theorem rin_ok (hr : RPorts h I rd bl qs S) (hR : ∀ b, R b) (a : Int) : SF Try.prog 68 [.ptr (some (rd, 0)), .int .i64 a] h R W fun r h' => r = .bool (decide (okA qs a)) ∧ h' = h := by
 obtain ⟨c, c1, c2, hl, ho, c3⟩ := hr.lenV
 have hRd := hR rd
 refine SF.go hm Try.func68 ir68_eq ?_
 by_cases h0 : 0 ≤ a
 ·by_cases h1 : a < (qs.length : Int)
  ·simp -implicitDefEqProofs (disch := (first | omega | fail)) only [go_sem, seval, ↓reduceIte, reduceCtorEq, ir68, c1, c2, hRd, ↓hl, h0, h1]
   rw [decide_eq_true (show okA qs a from ⟨h0, h1⟩)]
  ·simp -implicitDefEqProofs (disch := (first | omega | fail)) only [go_sem, seval, ↓reduceIte, reduceCtorEq, ir68, c1, c2, hRd, ↓hl, h0, h1]
   rw [decide_eq_false (show ¬ okA qs a from fun h => h1 h.2)]
 ·simp -implicitDefEqProofs (disch := (first | omega | fail)) only [go_sem, seval, ↓reduceIte, reduceCtorEq, ir68, undefV, h0]
  rw [decide_eq_false (show ¬ okA qs a from fun h => h0 h.1)]
theorem RPorts.acc (hr : RPorts h I rd bl qs S) {i : Nat} (hi : i < qs.length) : ∃ c b o cap ex cc ce, h.get rd = some (.cells c 106) ∧ c.size = 1 ∧ c.get 0 = .slice (some (b, o)) qs.length cap ex ∧ h.get b = some (.cells cc ce) ∧ o + qs.length ≤ cc.size ∧ cc.get (o + i) = .slice (some (bl i, 0)) qs[i] qs[i] true ∧ I b := by
 obtain ⟨c, c1, c2, c3⟩ := hr.c
 obtain ⟨b, o, cap, ex, cc, ce, e, hb, h1, h2, h3⟩ := c3.get (i := i) (by rw [slV_len]; exact hi)
 rw [slV_len] at e h2
 refine ⟨c, b, o, cap, ex, cc, ce, c1, c2, e, h1, h2, ?_, hb⟩
 rw [h3, List.getD_eq_getElem?_getD, slV_get bl qs (List.getElem?_eq_getElem hi)]; rfl
theorem rquota_ok (hr : RPorts h I rd bl qs S) (hR : ∀ b, R b) (a : Int) : SF Try.prog 55 [.ptr (some (rd, 0)), .int .i64 a] h R W fun r h' => r = .int .i64 (if okA qs a then ((qs.getD a.toNat 0 : Nat) : Int) else 0) ∧ h' = h := by
 refine SF.go hm Try.func55 ir55_eq ?_
 simp -implicitDefEqProofs (disch := (first | omega | fail)) only [go_sem, seval, ↓reduceIte, reduceCtorEq, ir55]
 refine GCall.of (rin_ok hr (fun b => .inr (hR b)) a) ?_
 rintro r h1 ⟨rfl, rfl⟩
 by_cases ha : okA qs a
 ·obtain ⟨i, rfl⟩ : ∃ i : Nat, a = (i : Int) := ⟨a.toNat, by have := ha.1; omega⟩
  have hi : i < qs.length := by have := ha.2; omega
  obtain ⟨c, b, o, cap, ex, cc, ce, c1, c2, c3, c4, c5, c6, _⟩ := hr.acc hi
  have hRd := hR rd; have hRb := hR b
  have hz : (i : Int) < (qs.length : Int) := ha.2
  have hi0 : (0 : Int) ≤ (i : Int) := ha.1
  rw [decide_eq_true ha, if_pos ha]
  have hgd : qs.getD (i : Int).toNat 0 = qs[i] := by rw [Int.toNat_natCast, List.getD_eq_getElem?_getD, List.getElem?_eq_getElem hi]; rfl
  rw [hgd]
  simp -implicitDefEqProofs (disch := (first | omega | fail)) only [go_sem, seval, ↓reduceIte, reduceCtorEq, c1, c2, c3, c4, c6, hRd, hRb, hz, hi0]
 ·rw [decide_eq_false ha, if_neg ha]
  simp -implicitDefEqProofs (disch := (first | omega | fail)) only [go_sem, seval, ↓reduceIte, reduceCtorEq]
theorem rask_ok (hr : RPorts h I rd bl qs S) (hR : ∀ b, R b) (a n : Int) : SF Try.prog 70 [.ptr (some (rd, 0)), .int .i64 a, .int .i64 n] h R W fun r h' => r = .int .i64 (askA qs S a n) ∧ h' = h := by
 refine SF.go hm Try.func70 ir70_eq ?_
 simp -implicitDefEqProofs (disch := (first | omega | fail)) only [go_sem, seval, ↓reduceIte, reduceCtorEq, ir70]
 refine GCall.of (rin_ok hr (fun b => .inr (hR b)) a) ?_
 rintro r h1 ⟨rfl, rfl⟩
 unfold askA
 by_cases ha : okA qs a
 ·obtain ⟨i, rfl⟩ : ∃ i : Nat, a = (i : Int) := ⟨a.toNat, by have := ha.1; omega⟩
  have hi : i < qs.length := by have := ha.2; omega
  obtain ⟨c, b, o, cap, ex, cc, ce, c1, c2, c3, c4, c5, c6, _⟩ := hr.acc hi
  obtain ⟨cb, b1, b2, b3, b4⟩ := hr.b i qs[i] (List.getElem?_eq_getElem hi)
  have hRd := hR rd; have hRb := hR b; have hRl := hR (bl i)
  have hz : (i : Int) < (qs.length : Int) := ha.2
  have hi0 : (0 : Int) ≤ (i : Int) := ha.1
  rw [decide_eq_true ha, if_pos ha]
  by_cases hn0 : n < 0
  ·have : lookA S (i : Int) n = none := by unfold lookA; rw [if_neg (by omega)]
   rw [this]
   simp -implicitDefEqProofs (disch := (first | omega | fail)) only [go_sem, seval, ↓reduceIte, reduceCtorEq, undefV, hn0]
   rfl
  ·obtain ⟨m, rfl⟩ : ∃ m : Nat, n = (m : Int) := ⟨n.toNat, by omega⟩
   have hl : lookA S (i : Int) (m : Int) = S i m := by unfold lookA; rw [if_pos ⟨by omega, by omega⟩, Int.toNat_natCast, Int.toNat_natCast]
   rw [hl]
   by_cases hq : (m : Int) < (qs[i] : Int)
   ·have hm4 := b4 m (by omega)
    have hm0 : (0 : Int) ≤ (m : Int) := by omega
    have hsz : m * 4 + 4 ≤ cb.size := by rw [b2]; omega
    cases hS : S i m with
    | none =>
     rw [hS] at hm4
     have e0 := hm4.1
     simp -implicitDefEqProofs (disch := (first | omega | fail)) only [go_sem, seval, ↓reduceIte, reduceCtorEq, c1, c2, c3, c4, c6, hRd, hRb, hRl, hz, hi0, hn0, hq, hm0, b1, e0]
     rfl
    | some x =>
     rw [hS] at hm4
     have e0 := hm4.1
     simp -implicitDefEqProofs (disch := (first | omega | fail)) only [go_sem, seval, ↓reduceIte, reduceCtorEq, c1, c2, c3, c4, c6, hRd, hRb, hRl, hz, hi0, hn0, hq, hm0, b1, e0]
     rfl
   ·have hS : S i m = none := by
     cases e : S i m with
     | none => rfl
     | some x =>
      obtain ⟨q, h1, h2⟩ := hr.dom _ _ _ e
      rw [List.getElem?_eq_getElem hi] at h1
      cases h1; omega
    rw [hS]
    simp -implicitDefEqProofs (disch := (first | omega | fail)) only [go_sem, seval, ↓reduceIte, reduceCtorEq, undefV, c1, c2, c3, c4, c6, hRd, hRb, hz, hi0, hn0]
    rfl
 ·rw [decide_eq_false ha, if_neg ha]
  simp -implicitDefEqProofs (disch := (first | omega | fail)) only [go_sem, seval, ↓reduceIte, reduceCtorEq]
end Go.Proofs.Ytmimialblhlklaa
