/- PortsApart: what concerns one account alone. -/
import Derived.Test.YtmimialblhlklaaG4
set_option linter.unusedVariables false
set_option linter.unusedSimpArgs false
set_option linter.unusedSimpArgs false
set_option maxRecDepth 100000
set_option linter.unusedVariables false
set_option linter.unusedSimpArgs false
namespace Go.Proofs.Ytmimialblhlklaa
open Go Go.Vm
variable {qs : List Nat} {S S' : AT}
theorem updA_row (S : AT) (a n : Nat) (y : Option Pt) {c : Nat} (h : c ≠ a) : updA S a n y c = S c := by
  funext n'
  unfold updA
  rw [if_neg fun e => h e.1]
theorem updA_one {a n : Nat} {y : Option Pt} (h : S a = S' a) : updA S a n y a = updA S' a n y a := by
  funext n'
  unfold updA
  rw [h]
theorem lookA_one' {n : Int} (h : S 1 = S' 1) : lookA S 1 n = lookA S' 1 n := by
  unfold lookA
  split
  · show S 1 n.toNat = S' 1 n.toNat
    rw [h]
  · rfl
theorem freeA_one (h : S 1 = S' 1) : ∀ k i, freeA S 1 i k = freeA S' 1 i k
  | 0, i => rfl
  | k + 1, i => by
    simp only [freeA, h]
    cases S' 1 i with
    | none => rfl
    | some y => exact freeA_one h k (i + 1)
theorem claimV_1 (h : S 1 = S' 1) (L : List Te) : claimV qs S 1 L = claimV qs S' 1 L := by
  unfold claimV
  rw [show (1 : Int).toNat = 1 from rfl, freeA_one h]
theorem claimA_1 (h : S 1 = S' 1) (L : List Te) : claimA qs S 1 L 1 = claimA qs S' 1 L 1 := by
  unfold claimA
  rw [claimV_1 h]
  split
  · exact updA_one h
  · exact h
theorem askA_1 (h : S 1 = S' 1) (n : Int) : askA qs S 1 n = askA qs S' 1 n := by unfold askA; rw [lookA_one' h]
theorem closeV_1 (h : S 1 = S' 1) (n : Int) : closeV qs S 1 n = closeV qs S' 1 n := by unfold closeV; rw [lookA_one' h, askA_1 h]
theorem closeA_1 (h : S 1 = S' 1) (n : Int) : closeA S 1 n 1 = closeA S' 1 n 1 := by
  unfold closeA
  rw [lookA_one' h]
  split
  · exact updA_one h
  · exact h
theorem takeB_1 (h : S 1 = S' 1) (n : Int) : takeB S 1 n = takeB S' 1 n := by unfold takeB; rw [lookA_one' h]
theorem lookEA_1 (h : S 1 = S' 1) (n : Int) : lookEA qs S 1 n = lookEA qs S' 1 n := by unfold lookEA; rw [lookA_one' h, askA_1 h]
theorem takeA_1 (h : S 1 = S' 1) (n : Int) : takeA S 1 n 1 = takeA S' 1 n 1 := by
  unfold takeA
  rw [lookA_one' h]
  cases lookA S' 1 n with
  | none => exact h
  | some x =>
    show (if x.ring = [] then S else updA S (Int.toNat 1) n.toNat (some { x with ring := x.ring.tail })) 1 = (if x.ring = [] then S' else updA S' (Int.toNat 1) n.toNat (some { x with ring := x.ring.tail })) 1
    split
    · exact h
    · exact updA_one h
theorem openA_1 (h : S 1 = S' 1) : openA S 1 = openA S' 1 := by
  unfold openA
  simp only [lookA_one' h]
theorem comeP_1 (h : S 1 = S' 1) (l : List V) (P : List Nat) : comeP S 1 l P = comeP S' 1 l P := by
  unfold comeP
  rw [h]
theorem comeLA_1 (h : S 1 = S' 1) {l : List V} (hl : homeP l = some 1) : comeLA S l = comeLA S' l := by
  unfold comeLA
  rw [hl]
  simp only []
  rw [show ((1 : Nat) : Int) = 1 from rfl, openA_1 h, comeP_1 h]
theorem comeA_1 (h : S 1 = S' 1) {l : List V} (hl : homeP l = some 1) : comeA S l 1 = comeA S' l 1 := by
  unfold comeA
  rw [hl]
  split
  · exact h
  · simp only []
    rw [show ((1 : Nat) : Int) = 1 from rfl, openA_1 h]
    funext n
    unfold comeS
    rw [h]
theorem claimA_o {a : Int} (ha : a ≠ 1) (L : List Te) : claimA qs S a L 1 = S 1 := by
  unfold claimA
  split
  · rename_i h
    refine updA_row _ _ _ _ fun e => ?_
    unfold claimV at h
    by_cases hk : okA qs a
    · have := hk.1; omega
    · rw [if_neg hk] at h; cases h
  · rfl
theorem lookA_neg {a n : Int} {x : Pt} (h : lookA S a n = some x) : 0 ≤ a := by
  unfold lookA at h
  split at h
  · rename_i hc; exact hc.1
  · cases h
theorem closeA_o {a : Int} (ha : a ≠ 1) (n : Int) : closeA S a n 1 = S 1 := by
  unfold closeA
  cases h : lookA S a n with
  | none => rfl
  | some x => exact updA_row _ _ _ _ fun e => by have := lookA_neg h; omega
theorem takeA_o {a : Int} (ha : a ≠ 1) (n : Int) : takeA S a n 1 = S 1 := by
  unfold takeA
  cases h : lookA S a n with
  | none => rfl
  | some x =>
    simp only []
    split
    · rfl
    · exact updA_row _ _ _ _ fun e => by have := lookA_neg h; omega
theorem comeA_o {l : List V} (hl : homeP l ≠ some 1) : comeA S l 1 = S 1 := by
  unfold comeA
  split
  · rfl
  · cases hh : homeP l with
    | none => rfl
    | some a =>
      funext n
      show comeS S a l (openA S (a : Int)) 1 n = S 1 n
      unfold comeS
      have : ¬ (1 : Nat) = a := fun e => hl (by rw [hh, e])
      cases S 1 n with
      | none => rfl
      | some x => simp [this]
end Go.Proofs.Ytmimialblhlklaa
