/- The document's extents: Read, Write, Flush. -/
import Derived.Test.YthdkhbhicimpdaaG1
set_option linter.unusedVariables false
set_option maxRecDepth 100000
namespace Go.Proofs.Ythdkhbhicimpdaa
open Go Go.Vm
attribute [-go_sem] sz_113
theorem own_nat {X : XS} {a s : Int} (h : X.own a s) : ∃ i d : Nat, a = i ∧ s = d ∧ i < X.n ∧ d < X.count i ∧ X.has i d = true := by
  obtain ⟨⟨a0, a1⟩, s0, s1, h1⟩ := h
  obtain ⟨i, rfl⟩ := Int.eq_ofNat_of_zero_le a0
  obtain ⟨d, rfl⟩ := Int.eq_ofNat_of_zero_le s0
  simp only [Int.toNat_natCast] at s1 h1
  exact ⟨i, d, rfl, rfl, by omega, by omega, h1⟩
theorem partV_in {X : XS} {i : Nat} (hi : i < X.n) : partV X (i : Int) = [.int .i64 (X.first i), .int .i64 (X.count i), .bool true] := by
  unfold partV
  rw [if_pos (by omega)]
  simp only [Int.toNat_natCast]
theorem err_ne (X : XS) (a : Int) : ((X.err a) != 0) = true ∧ X.err a ≠ 0 := by unfold XS.err; split <;> decide
theorem rxread {h : Heap} {R W SX SD : Set'} {rx rd qb hb : Nat} {hk : Nat → Nat} {X : XS} {D : DS} (hr : RExt h SX rx rd qb hb hk X) (hd : RefAt h SD rd D) (fit : ∀ a, a < X.n → X.first a + X.count a ≤ D.n) (hR : ∀ b, R b) (a s : Int) :
    SF Try.prog 53 [.ptr (some (rx, 0)), .int .i64 a, .int .i64 s] h R W fun v h' => ((X.own a s ∧ ∃ v', v = .tuple [v', .int .i64 0] ∧ LR h SD v' (D.seen (X.first a.toNat + s.toNat))) ∨ (¬ X.own a s ∧ v = .tuple [.slice none 0 0 true, .int .i64 (X.err a)])) ∧ h' = h := by
  obtain ⟨c, xq, xh, x1, x2, x3, x4, x5, x6⟩ := hr.x
  have hRx := hR rx
  have hdp := hd.pos
  refine SF.go hm Try.func53 ir53_eq ?_
  simp -implicitDefEqProofs (disch := (first | omega | fail)) only [go_sem, Nat.reduceAdd, Nat.reduceSub, Nat.reduceLT, Nat.reduceMod, Nat.reduceDiv, ↓reduceIte, reduceCtorEq, ir53]
  refine GCall.of (rask_ok hr (fun b => .inr (hR b)) a s) ?_
  rintro v h' ⟨⟨ho, rfl⟩ | ⟨ho, rfl⟩, rfl⟩
  · obtain ⟨i, d, rfl, rfl, hi, hdc, hh⟩ := own_nat ho
    have hf := fit i hi
    simp -implicitDefEqProofs (disch := (first | omega | fail)) only [go_sem, Nat.reduceAdd, Nat.reduceSub, Nat.reduceLT, Nat.reduceMod, Nat.reduceDiv, ↓reduceIte, reduceCtorEq]
    refine GCall.of (rpart_ok hr (fun b _ => .inr (hR b)) i) ?_
    rintro v h1 ⟨rfl, rfl⟩
    rw [partV_in hi]
    simp -implicitDefEqProofs (disch := (first | omega | fail)) only [go_sem, Nat.reduceAdd, Nat.reduceSub, Nat.reduceLT, Nat.reduceMod, Nat.reduceDiv, ↓reduceIte, reduceCtorEq, x1, x2, x4, hRx]
    have e : ((X.first i : Int) + (d : Int)) = ((X.first i + d : Nat) : Int) := by omega
    rw [e]
    refine GCall.of (rread_ok hd (fun b => .inr (hR b)) (s := X.first i + d) (by omega)) ?_
    rintro v h2 ⟨⟨v', rfl, hl⟩, rfl⟩
    simp -implicitDefEqProofs (disch := (first | omega | fail)) only [go_sem, Nat.reduceAdd, Nat.reduceSub, Nat.reduceLT, Nat.reduceMod, Nat.reduceDiv, ↓reduceIte, reduceCtorEq]
    exact .inl ⟨ho, by simpa using hl⟩
  · obtain ⟨e1, e2⟩ := err_ne X a
    simp -implicitDefEqProofs (disch := (first | omega | fail)) only [go_sem, Nat.reduceAdd, Nat.reduceSub, Nat.reduceLT, Nat.reduceMod, Nat.reduceDiv, ↓reduceIte, reduceCtorEq, e1]
    exact .inr ho
theorem rxwrite {h : Heap} {R W SX SD : Set'} {rx rd qb hb fb pb : Nat} {hk : Nat → Nat} {X : XS} {D : DS} (hr : RExt h SX rx rd qb hb hk X) (hd : RefX h SD rd fb pb D) (fit : ∀ a, a < X.n → X.first a + X.count a ≤ D.n) (hR : ∀ b, R b) (hW : ∀ b, SD b → W b) (a s : Int) {w : V} {l : List V} (hv : LR h (fun _ => True) w l) (hll : ∀ h, lenV Try.prog 45 w h = some (l.length, [])) (hl : l.length = 128 → IsSec l) (few : ∀ s, (D.pe s).length < 1000000000) :
    SF Try.prog 51 [.ptr (some (rx, 0)), .int .i64 a, .int .i64 s, w] h R W fun v h' => (X.own a s ∧ l.length = 128 ∧ v = .int .i64 0 ∧ RefX h' (Rn SD h.n h'.n) rd fb pb (D.write (X.first a.toNat + s.toNat) l)) ∨ (X.own a s ∧ l.length ≠ 128 ∧ v = .int .i64 2 ∧ h' = h) ∨ (¬ X.own a s ∧ v = .int .i64 (X.err a) ∧ h' = h) := by
  obtain ⟨c, xq, xh, x1, x2, x3, x4, x5, x6⟩ := hr.x
  have hRx := hR rx
  have hdp := hd.at.pos
  refine SF.go hm Try.func51 ir51_eq ?_
  simp -implicitDefEqProofs (disch := (first | omega | fail)) only [go_sem, Nat.reduceAdd, Nat.reduceSub, Nat.reduceLT, Nat.reduceMod, Nat.reduceDiv, ↓reduceIte, reduceCtorEq, ir51]
  refine GCall.of (rask_ok hr (fun b => .inr (hR b)) a s) ?_
  rintro v h' ⟨⟨ho, rfl⟩ | ⟨ho, rfl⟩, rfl⟩
  · obtain ⟨i, d, rfl, rfl, hi, hdc, hh⟩ := own_nat ho
    have hf := fit i hi
    simp -implicitDefEqProofs (disch := (first | omega | fail)) only [go_sem, Nat.reduceAdd, Nat.reduceSub, Nat.reduceLT, Nat.reduceMod, Nat.reduceDiv, ↓reduceIte, reduceCtorEq]
    refine GCall.of (rpart_ok hr (fun b _ => .inr (hR b)) i) ?_
    rintro v h1 ⟨rfl, rfl⟩
    rw [partV_in hi]
    simp -implicitDefEqProofs (disch := (first | omega | fail)) only [go_sem, Nat.reduceAdd, Nat.reduceSub, Nat.reduceLT, Nat.reduceMod, Nat.reduceDiv, ↓reduceIte, reduceCtorEq, x1, x2, x4, hRx]
    have e : ((X.first i : Int) + (d : Int)) = ((X.first i + d : Nat) : Int) := by omega
    rw [e]
    by_cases h128 : l.length = 128
    · refine GCall.of (rdwrite_ok hd (fun b => .inr (hR b)) (fun b hb => .inr (hW b hb)) (s := X.first i + d) (by omega) hv (hl h128) (few _)) ?_
      rintro v h2 ⟨rfl, hx⟩
      simp -implicitDefEqProofs (disch := (first | omega | fail)) only [go_sem, Nat.reduceAdd, Nat.reduceSub, Nat.reduceLT, Nat.reduceMod, Nat.reduceDiv, ↓reduceIte, reduceCtorEq]
      exact .inl ⟨ho, h128, by simpa using hx⟩
    · refine GCall.of (rdwrite_bad hd.at (fun b => .inr (hR b)) (k := ((X.first i + d : Nat) : Int)) hll (fun h => h128 h.2)) ?_
      rintro v h2 ⟨rfl, rfl⟩
      simp -implicitDefEqProofs (disch := (first | omega | fail)) only [go_sem, Nat.reduceAdd, Nat.reduceSub, Nat.reduceLT, Nat.reduceMod, Nat.reduceDiv, ↓reduceIte, reduceCtorEq]
      exact .inr (.inl ⟨ho, h128⟩)
  · obtain ⟨e1, e2⟩ := err_ne X a
    simp -implicitDefEqProofs (disch := (first | omega | fail)) only [go_sem, Nat.reduceAdd, Nat.reduceSub, Nat.reduceLT, Nat.reduceMod, Nat.reduceDiv, ↓reduceIte, reduceCtorEq, e1]
    exact .inr (.inr ho)
theorem rxflush_bad {h : Heap} {R W SX : Set'} {rx rd qb hb : Nat} {hk : Nat → Nat} {X : XS} (hr : RExt h SX rx rd qb hb hk X) (hR : ∀ b, R b) {a : Int} (ha : ¬ (0 ≤ a ∧ a < X.n)) : SF Try.prog 52 [.ptr (some (rx, 0)), .int .i64 a] h R W fun v h' => v = .int .i64 2 ∧ h' = h := by
  refine SF.go hm Try.func52 ir52_eq ?_
  simp -implicitDefEqProofs (disch := (first | omega | fail)) only [go_sem, Nat.reduceAdd, Nat.reduceSub, Nat.reduceLT, Nat.reduceMod, Nat.reduceDiv, ↓reduceIte, reduceCtorEq, ir52]
  refine GCall.of (rin_ok hr (fun b _ => .inr (hR b)) a) ?_
  rintro v h' ⟨rfl, rfl⟩
  rw [decide_eq_false ha]
  simp -implicitDefEqProofs (disch := (first | omega | fail)) only [go_sem, Nat.reduceAdd, Nat.reduceSub, Nat.reduceLT, Nat.reduceMod, Nat.reduceDiv, ↓reduceIte, reduceCtorEq]
theorem rxflush_ok {h : Heap} {R W SX SD : Set'} {rx rd qb hb fb pb : Nat} {hk : Nat → Nat} {X : XS} {D : DS} (hr : RExt h SX rx rd qb hb hk X) (hd : RefX h SD rd fb pb D) (fit : ∀ a, a < X.n → X.first a + X.count a ≤ D.n) (hR : ∀ b, R b) (hW : ∀ b, SD b → W b) {i : Nat} (hi : i < X.n) :
    SF Try.prog 52 [.ptr (some (rx, 0)), .int .i64 i] h R W fun v h' => v = .int .i64 0 ∧ RefX h' (Rn SD h.n h'.n) rd fb pb (D.flush (X.first i) (X.count i)) := by
  obtain ⟨c, xq, xh, x1, x2, x3, x4, x5, x6⟩ := hr.x
  have hRx := hR rx
  refine SF.go hm Try.func52 ir52_eq ?_
  simp -implicitDefEqProofs (disch := (first | omega | fail)) only [go_sem, Nat.reduceAdd, Nat.reduceSub, Nat.reduceLT, Nat.reduceMod, Nat.reduceDiv, ↓reduceIte, reduceCtorEq, ir52]
  refine GCall.of (rin_ok hr (fun b _ => .inr (hR b)) i) ?_
  rintro v h' ⟨rfl, rfl⟩
  rw [decide_eq_true (show 0 ≤ (i : Int) ∧ (i : Int) < X.n by omega)]
  simp -implicitDefEqProofs (disch := (first | omega | fail)) only [go_sem, Nat.reduceAdd, Nat.reduceSub, Nat.reduceLT, Nat.reduceMod, Nat.reduceDiv, ↓reduceIte, reduceCtorEq]
  refine GCall.of (rpart_ok hr (fun b _ => .inr (hR b)) i) ?_
  rintro v h1 ⟨rfl, rfl⟩
  rw [partV_in hi]
  simp -implicitDefEqProofs (disch := (first | omega | fail)) only [go_sem, Nat.reduceAdd, Nat.reduceSub, Nat.reduceLT, Nat.reduceMod, Nat.reduceDiv, ↓reduceIte, reduceCtorEq, x1, x2, x4, hRx]
  refine GCall.of (rdflush_ok hd (fun b => .inr (hR b)) (fun b hb => .inr (hW b hb)) (fit i hi)) ?_
  rintro v h2 ⟨rfl, hx⟩
  simp -implicitDefEqProofs (disch := (first | omega | fail)) only [go_sem, Nat.reduceAdd, Nat.reduceSub, Nat.reduceLT, Nat.reduceMod, Nat.reduceDiv, ↓reduceIte, reduceCtorEq]
  exact hx
end Go.Proofs.Ythdkhbhicimpdaa
