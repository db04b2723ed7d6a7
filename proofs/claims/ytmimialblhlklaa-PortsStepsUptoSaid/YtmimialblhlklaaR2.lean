/- The document's ports: SameTests. -/
import Derived.Test.YtmimialblhlklaaR1
set_option linter.unusedVariables false
set_option maxRecDepth 100000
namespace Go.Proofs.Ytmimialblhlklaa
open Go Go.Vm
variable {h : Heap} {R W I : Set'}
theorem te_ext {a b : Te} (h1 : a.at' = b.at') (h2 : a.mask = b.mask) (h3 : a.val = b.val) : a = b := by
 cases a; cases b; simp only at h1 h2 h3; subst h1 h2 h3; rfl
theorem eq_79 (a b c d e f : Int) : eqD Try.prog 10 79 (.agg [.int .i64 a, .int .i64 c, .int .i64 e]) (.agg [.int .i64 b, .int .i64 d, .int .i64 f]) = some (decide (a = b ∧ c = d ∧ e = f)) := by
 have ee : eqD Try.prog 10 79 (.agg [.int .i64 a, .int .i64 c, .int .i64 e]) (.agg [.int .i64 b, .int .i64 d, .int .i64 f]) = (match (a == b) with | true => (match (c == d) with | true => (match (e == f) with | true => some true | false => some false) | false => some false) | false => some false) := by kernel_rfl
 rw [ee]
 by_cases h1 : a = b
 ·by_cases h2 : c = d
  ·by_cases h3 : e = f
   ·subst h1 h2 h3; simp
   ·have h4 : (e == f) = false := by simpa using h3
    subst h1 h2; rw [h4, decide_eq_false fun h => h3 h.2.2]; simp only [beq_self_eq_true]
  ·have h4 : (c == d) = false := by simpa using h2
   subst h1; rw [h4, decide_eq_false fun h => h2 h.2.1]; simp only [beq_self_eq_true]
 ·have h4 : (a == b) = false := by simpa using h1
  rw [h4, decide_eq_false fun h => h1 h.1]
theorem eg_79 : Try.prog.eqGuardType Try.prog.depth 79 = false := by kernel_rfl
theorem sametests_ok {S1 S2 : Set'} {v1 v2 : V} {a b : List Te} (h1 : LRs 3 h S1 v1 a.length (flatT a)) (h2 : LRs 3 h S2 v2 b.length (flatT b)) (hR : ∀ b, R b) (ha : a.length ≤ 1000000000) : SF Try.prog 42 [v1, v2] h R W fun v h' => v = .bool (decide (a = b)) ∧ h' = h := by
 have hl1 := h1.lenV Try.underlying22
 have hl2 := h2.lenV Try.underlying22
 refine SF.go hm Try.func42 ir42_eq ?_
 by_cases hl : a.length = b.length
 ·have hn : ((a.length : Int) != (b.length : Int)) = false := by simp [hl]
  simp -implicitDefEqProofs (disch := (first | omega | fail)) only [go_sem, seval, ↓reduceIte, reduceCtorEq, ir42, ↓hl1, ↓hl2, hn]
  refine GLoop.inv hm (fun k f g => f.mks = [] ∧ f.tm.n = 26 ∧ f.tm.get 0 = some v1 ∧ f.tm.get 1 = some v2 ∧ g = h ∧ ∃ (p : Nat), p + k = a.length ∧ f.tm.get 5 = some (.int .i64 p) ∧ ∀ i, i < p → a[i]? = b[i]?) a.length ?_ ?_
  ·exact ⟨rfl, rfl, by simp -implicitDefEqProofs (disch := (first | omega | fail)) only [go_sem, seval, ↓reduceIte], by simp -implicitDefEqProofs (disch := (first | omega | fail)) only [go_sem, seval, ↓reduceIte, reduceCtorEq], rfl, 0, by omega, by simp -implicitDefEqProofs (disch := (first | omega | fail)) only [go_sem, Nat.reduceSub, Nat.reduceMod, Nat.reduceDiv, ↓reduceIte, reduceCtorEq]; rfl, fun i hi => by omega⟩
  rintro k ⟨⟨n', tr⟩, mks⟩ g ⟨hmk, hn', t0, u1, rfl, p, hpk, t5, hs⟩
  simp only [Tm.get_mk] at hmk hn' t0 u1 t5
  subst hmk hn'
  by_cases hp : p < a.length
  ·have hpb : p < b.length := by omega
   obtain ⟨b1, o1, cap1, ex1, c1, ce1, rfl, hb1, i1, j1, l1⟩ := h1.get (by omega)
   obtain ⟨b2, o2, cap2, ex2, c2, ce2, rfl, hb2, i2, j2, l2⟩ := h2.get (by omega)
   have hR1 := hR b1
   have hR2 := hR b2
   have fx : ∀ j, j < 3 → _ := fun j hj => flatT_get (List.getElem?_eq_getElem hp) (j := j) hj
   have fy : ∀ j, j < 3 → _ := fun j hj => flatT_get (List.getElem?_eq_getElem hpb) (j := j) hj
   have l10 : c1.get (o1 + p * 3) = .int .i64 a[p].at' := by rw [l1 (p * 3) (by omega)]; exact fx 0 (by decide)
   have l11 : c1.get (o1 + p * 3 + 1) = .int .i64 a[p].mask := by rw [Nat.add_assoc, l1 (p * 3 + 1) (by omega)]; exact fx 1 (by decide)
   have l12 : c1.get (o1 + p * 3 + 2) = .int .i64 a[p].val := by rw [Nat.add_assoc, l1 (p * 3 + 2) (by omega)]; exact fx 2 (by decide)
   have l20 : c2.get (o2 + p * 3) = .int .i64 b[p].at' := by rw [l2 (p * 3) (by omega)]; exact fy 0 (by decide)
   have l21 : c2.get (o2 + p * 3 + 1) = .int .i64 b[p].mask := by rw [Nat.add_assoc, l2 (p * 3 + 1) (by omega)]; exact fy 1 (by decide)
   have l22 : c2.get (o2 + p * 3 + 2) = .int .i64 b[p].val := by rw [Nat.add_assoc, l2 (p * 3 + 2) (by omega)]; exact fy 2 (by decide)
   have p1 : (p : Int) < (a.length : Int) := by omega
   have p2 : (p : Int) < (b.length : Int) := by omega
   have p0 : (0 : Int) ≤ (p : Int) := by omega
   have heq := eq_79 a[p].at' b[p].at' a[p].mask b[p].mask a[p].val b[p].val
   by_cases he : a[p] = b[p]
   ·rw [decide_eq_true (by rw [he]; exact ⟨rfl, rfl, rfl⟩)] at heq
    simp -implicitDefEqProofs (disch := (first | omega | fail)) only [go_sem, seval, ↓reduceIte, reduceCtorEq, ir42_l0, t0, u1, t5, ↓hl1, hR1, hR2, i1, i2, l10, l11, l12, l20, l21, l22, heq, eg_79, p0, p1, p2]
    refine ⟨k - 1, by omega, p + 1, by omega, by simp, fun i hi => ?_⟩
    ·by_cases e : i = p
     ·subst e; rw [List.getElem?_eq_getElem hp, List.getElem?_eq_getElem hpb, he]
     ·exact hs i (by omega)
   ·rw [decide_eq_false (fun e => he (te_ext e.1 e.2.1 e.2.2))] at heq
    simp -implicitDefEqProofs (disch := (first | omega | fail)) only [go_sem, seval, ↓reduceIte, reduceCtorEq, ir42_l0, t0, u1, t5, ↓hl1, hR1, hR2, i1, i2, l10, l11, l12, l20, l21, l22, heq, eg_79, p0, p1, p2]
    have : ¬ a = b := fun e => he (by simp [e])
    rw [decide_eq_false this]
  ·have e : a = b := same_step hl hs (by omega)
   have p1 : ¬ (p : Int) < (a.length : Int) := by omega
   simp -implicitDefEqProofs (disch := (first | omega | fail)) only [go_sem, seval, ↓reduceIte, reduceCtorEq, ir42_l0, t0, t5, ↓hl1, p1]
   rw [decide_eq_true e]
 ·have hn : ((a.length : Int) != (b.length : Int)) = true := by simp; omega
  simp -implicitDefEqProofs (disch := (first | omega | fail)) only [go_sem, seval, ↓reduceIte, reduceCtorEq, ir42, ↓hl1, ↓hl2, hn]
  rw [decide_eq_false fun e => hl (by rw [e])]
end Go.Proofs.Ytmimialblhlklaa
