/- Same of the program: Equal of ints, of tests, of bytes, of rings. -/
import Derived.Test.YtmimialblhlklaaN4
set_option linter.unusedVariables false
set_option maxRecDepth 100000
namespace Go.Proofs.Ytmimialblhlklaa
open Go Go.Vm
variable {h : Heap} {R W I : Set'}
theorem equal46 {S1 S2 : Set'} {v1 v2 : V} {a b : List Int} (h1 : LR h S1 v1 (a.map (.int .i64))) (h2 : LR h S2 v2 (b.map (.int .i64))) (hR : ∀ b, R b) (ha : a.length ≤ 1000000) : SF Try.prog 46 [v1, v2] h R W fun v h' => v = .bool (decide (a = b)) ∧ h' = h := by
 have hl1 := h1.lenV Try.underlying30
 have hl2 := h2.lenV Try.underlying30
 rw [List.length_map] at hl1 hl2
 refine SF.go hm Try.func46 ir46_eq ?_
 by_cases hl : a.length = b.length
 ·have hn : ((a.length : Int) != (b.length : Int)) = false := by simp [hl]
  simp -implicitDefEqProofs (disch := (first | omega | fail)) only [go_sem, seval, ↓reduceIte, reduceCtorEq, ir46, ↓hl1, ↓hl2, hn]
  refine GLoop.inv hm (fun k f g => f.mks = [] ∧ f.tm.n = 26 ∧ f.tm.get 0 = some v1 ∧ f.tm.get 1 = some v2 ∧ f.tm.get 12 = some (.int .i64 (a.length : Int)) ∧ g = h ∧ ∃ (p : Nat), p + k = a.length ∧ f.tm.get 13 = some (.int .i64 p) ∧ ∀ i, i < p → a[i]? = b[i]?) a.length ?_ ?_
  ·exact ⟨rfl, rfl, by simp -implicitDefEqProofs (disch := (first | omega | fail)) only [go_sem, seval, ↓reduceIte], by simp -implicitDefEqProofs (disch := (first | omega | fail)) only [go_sem, seval, ↓reduceIte, reduceCtorEq], by simp -implicitDefEqProofs (disch := (first | omega | fail)) only [go_sem, seval, ↓reduceIte, reduceCtorEq], rfl, 0, by omega, by simp -implicitDefEqProofs (disch := (first | omega | fail)) only [go_sem, Nat.reduceSub, Nat.reduceMod, Nat.reduceDiv, ↓reduceIte, reduceCtorEq]; rfl, fun i hi => by omega⟩
  rintro k ⟨⟨n', tr⟩, mks⟩ g ⟨hmk, hn', t0, u1, t12, rfl, p, hpk, t13, hs⟩
  simp only [Tm.get_mk] at hmk hn' t0 u1 t12 t13
  subst hmk hn'
  by_cases hp : p < a.length
  ·obtain ⟨b1, o1, cap1, ex1, c1, ce1, rfl, hb1, i1, j1, l1⟩ := h1.get (i := p) (by rw [List.length_map]; exact hp)
   obtain ⟨b2, o2, cap2, ex2, c2, ce2, rfl, hb2, i2, j2, l2⟩ := h2.get (i := p) (by rw [List.length_map]; omega)
   have hR1 := hR b1
   have hR2 := hR b2
   rw [List.length_map] at j1 j2
   have hpb : p < b.length := by omega
   have g1 : (a.map (V.int .i64)).getD p undefV = .int .i64 a[p] := by simp [hp]
   have g2 : (b.map (V.int .i64)).getD p undefV = .int .i64 b[p] := by simp [hpb]
   rw [g1] at l1
   rw [g2] at l2
   have p1 : (p : Int) < (a.length : Int) := by omega
   have p2 : (p : Int) < (b.length : Int) := by omega
   have p0 : (0 : Int) ≤ (p : Int) := by omega
   by_cases he : a[p] = b[p]
   ·have hne : (a[p] != b[p]) = false := by simp [he]
    simp -implicitDefEqProofs (disch := (first | omega | fail)) only [go_sem, seval, ↓reduceIte, reduceCtorEq, ir46_l0, t0, u1, t12, t13, hR1, hR2, i1, i2, l1, l2, hne, List.length_map, p0, p1, p2]
    refine ⟨k - 1, by omega, p + 1, by omega, by simp, fun i hi => ?_⟩
    ·by_cases e : i = p
     ·subst e; rw [List.getElem?_eq_getElem hp, List.getElem?_eq_getElem hpb, he]
     ·exact hs i (by omega)
   ·have hne : (a[p] != b[p]) = true := by simpa using he
    simp -implicitDefEqProofs (disch := (first | omega | fail)) only [go_sem, seval, ↓reduceIte, reduceCtorEq, ir46_l0, t0, u1, t12, t13, hR1, hR2, i1, i2, l1, l2, hne, List.length_map, p0, p1, p2]
    have : ¬ a = b := fun e => he (by simp [e])
    rw [decide_eq_false this]
  ·have e : a = b := same_step hl hs (by omega)
   have p1 : ¬ (p : Int) < (a.length : Int) := by omega
   simp -implicitDefEqProofs (disch := (first | omega | fail)) only [go_sem, seval, ↓reduceIte, ir46_l0, t12, t13, p1]
   rw [decide_eq_true e]
 ·have hn : ((a.length : Int) != (b.length : Int)) = true := by simp; omega
  simp -implicitDefEqProofs (disch := (first | omega | fail)) only [go_sem, seval, ↓reduceIte, reduceCtorEq, ir46, ↓hl1, ↓hl2, hn]
  rw [decide_eq_false fun e => hl (by rw [e])]
theorem equal49 {S1 S2 : Set'} {v1 v2 : V} {a b : List Te} (h1 : LRs 3 h S1 v1 a.length (flatT a)) (h2 : LRs 3 h S2 v2 b.length (flatT b)) (hR : ∀ b, R b) (ha : a.length ≤ 1000000000) : SF Try.prog 49 [v1, v2] h R W fun v h' => v = .bool (decide (a = b)) ∧ h' = h := by
 have hl1 := h1.lenV Try.underlying22
 have hl2 := h2.lenV Try.underlying22
 refine SF.go hm Try.func49 ir49_eq ?_
 by_cases hl : a.length = b.length
 ·have hn : ((a.length : Int) != (b.length : Int)) = false := by simp [hl]
  simp -implicitDefEqProofs (disch := (first | omega | fail)) only [go_sem, seval, ↓reduceIte, reduceCtorEq, ir49, ↓hl1, ↓hl2, hn]
  refine GLoop.inv hm (fun k f g => f.mks = [] ∧ f.tm.n = 26 ∧ f.tm.get 0 = some v1 ∧ f.tm.get 1 = some v2 ∧ f.tm.get 12 = some (.int .i64 (a.length : Int)) ∧ g = h ∧ ∃ (p : Nat), p + k = a.length ∧ f.tm.get 13 = some (.int .i64 p) ∧ ∀ i, i < p → a[i]? = b[i]?) a.length ?_ ?_
  ·exact ⟨rfl, rfl, by simp -implicitDefEqProofs (disch := (first | omega | fail)) only [go_sem, seval, ↓reduceIte], by simp -implicitDefEqProofs (disch := (first | omega | fail)) only [go_sem, seval, ↓reduceIte, reduceCtorEq], by simp -implicitDefEqProofs (disch := (first | omega | fail)) only [go_sem, seval, ↓reduceIte, reduceCtorEq], rfl, 0, by omega, by simp -implicitDefEqProofs (disch := (first | omega | fail)) only [go_sem, Nat.reduceSub, Nat.reduceMod, Nat.reduceDiv, ↓reduceIte, reduceCtorEq]; rfl, fun i hi => by omega⟩
  rintro k ⟨⟨n', tr⟩, mks⟩ g ⟨hmk, hn', t0, u1, t12, rfl, p, hpk, t13, hs⟩
  simp only [Tm.get_mk] at hmk hn' t0 u1 t12 t13
  subst hmk hn'
  by_cases hp : p < a.length
  ·have hpb : p < b.length := by omega
   obtain ⟨b1, o1, cap1, ex1, c1, ce1, rfl, hb1, i1, j1, l1⟩ := h1.get (by omega)
   obtain ⟨b2, o2, cap2, ex2, c2, ce2, rfl, hb2, i2, j2, l2⟩ := h2.get (by omega)
   have hR1 := hR b1
   have hR2 := hR b2
   have fx : ∀ j, j < 3 → _ := fun j hj => flatT_get (List.getElem?_eq_getElem hp) (j := j) hj
   have fy : ∀ j, j < 3 → _ := fun j hj => flatT_get (List.getElem?_eq_getElem hpb) (j := j) hj
   have l10 : c1.get (o1 + p * 3) = .int .i64 a[p].at' := by rw [l1 (p * 3) (by omega)]; exact fx 0 (by decide)
   have l11 : c1.get (o1 + p * 3 + 1) = .int .i64 a[p].mask := by rw [Nat.add_assoc, l1 (p * 3 + 1) (by omega)]; exact fx 1 (by decide)
   have l12 : c1.get (o1 + p * 3 + 2) = .int .i64 a[p].val := by rw [Nat.add_assoc, l1 (p * 3 + 2) (by omega)]; exact fx 2 (by decide)
   have l20 : c2.get (o2 + p * 3) = .int .i64 b[p].at' := by rw [l2 (p * 3) (by omega)]; exact fy 0 (by decide)
   have l21 : c2.get (o2 + p * 3 + 1) = .int .i64 b[p].mask := by rw [Nat.add_assoc, l2 (p * 3 + 1) (by omega)]; exact fy 1 (by decide)
   have l22 : c2.get (o2 + p * 3 + 2) = .int .i64 b[p].val := by rw [Nat.add_assoc, l2 (p * 3 + 2) (by omega)]; exact fy 2 (by decide)
   have p1 : (p : Int) < (a.length : Int) := by omega
   have p2 : (p : Int) < (b.length : Int) := by omega
   have p0 : (0 : Int) ≤ (p : Int) := by omega
   have heq := eq_79 a[p].at' b[p].at' a[p].mask b[p].mask a[p].val b[p].val
   by_cases he : a[p] = b[p]
   ·rw [decide_eq_true (by rw [he]; exact ⟨rfl, rfl, rfl⟩)] at heq
    simp -implicitDefEqProofs (disch := (first | omega | fail)) only [go_sem, seval, ↓reduceIte, reduceCtorEq, ir49_l0, t0, u1, t12, t13, hR1, hR2, i1, i2, l10, l11, l12, l20, l21, l22, heq, eg_79, p0, p1, p2]
    refine ⟨k - 1, by omega, p + 1, by omega, by simp, fun i hi => ?_⟩
    ·by_cases e : i = p
     ·subst e; rw [List.getElem?_eq_getElem hp, List.getElem?_eq_getElem hpb, he]
     ·exact hs i (by omega)
   ·rw [decide_eq_false (fun e => he (te_ext e.1 e.2.1 e.2.2))] at heq
    simp -implicitDefEqProofs (disch := (first | omega | fail)) only [go_sem, seval, ↓reduceIte, reduceCtorEq, ir49_l0, t0, u1, t12, t13, hR1, hR2, i1, i2, l10, l11, l12, l20, l21, l22, heq, eg_79, p0, p1, p2]
    have : ¬ a = b := fun e => he (by simp [e])
    rw [decide_eq_false this]
  ·have e : a = b := same_step hl hs (by omega)
   have p1 : ¬ (p : Int) < (a.length : Int) := by omega
   simp -implicitDefEqProofs (disch := (first | omega | fail)) only [go_sem, seval, ↓reduceIte, ir49_l0, t12, t13, p1]
   rw [decide_eq_true e]
 ·have hn : ((a.length : Int) != (b.length : Int)) = true := by simp; omega
  simp -implicitDefEqProofs (disch := (first | omega | fail)) only [go_sem, seval, ↓reduceIte, reduceCtorEq, ir49, ↓hl1, ↓hl2, hn]
  rw [decide_eq_false fun e => hl (by rw [e])]
theorem equal52 {S1 S2 : Set'} {v1 v2 : V} {l1 l2 : List V} (h1 : LR h S1 v1 l1) (h2 : LR h S2 v2 l2) (hb1 : Byt l1) (hb2 : Byt l2) (hR : ∀ b, R b) : SF Try.prog 52 [v1, v2] h R W fun v h' => v = .bool (decide (strB l1 = strB l2)) ∧ h' = h := by
 obtain ⟨r1, hc1⟩ := conv_lr h1 hb1
 obtain ⟨r2, hc2⟩ := conv_lr h2 hb2
 have hr1 : allB (fun b => h.n ≤ b ∨ R b) r1 := allB_of fun b _ => .inr (hR b)
 have hr2 : allB (fun b => h.n ≤ b ∨ R b) r2 := allB_of fun b _ => .inr (hR b)
 have hse := sb_eql (strB l1) (strB l2)
 refine SF.go hm Try.func52 ir52_eq ?_
 simp -implicitDefEqProofs (disch := (first | omega | fail)) only [go_sem, seval, ↓reduceIte, reduceCtorEq, ir52, ↓cvS, hc1, hc2, hr1, hr2, hse]
theorem equal50 {S1 S2 : Set'} {v1 v2 : V} {a b : List (List V)} (h1 : RingV h S1 v1 a) (h2 : RingV h S2 v2 b) (ha : ∀ l ∈ a, Byt l) (hb : ∀ l ∈ b, Byt l) (hR : ∀ b, R b) (hal : a.length ≤ 1000000) : SF Try.prog 50 [v1, v2, .func 52 [] []] h R W fun v h' => v = .bool (sameR a b) ∧ h' = h := by
 have hl1 := h1.lenV
 have hl2 := h2.lenV
 refine SF.go hm Try.func50 ir50_eq ?_
 by_cases hl : a.length = b.length
 ·have hn : ((a.length : Int) != (b.length : Int)) = false := by simp [hl]
  simp -implicitDefEqProofs (disch := (first | omega | fail)) only [go_sem, seval, ↓reduceIte, reduceCtorEq, ir50, ↓hl1, ↓hl2, hn]
  refine GLoop.inv hm (fun k f g => f.mks = [] ∧ f.tm.n = 32 ∧ f.tm.get 15 = some v1 ∧ f.tm.get 1 = some v2 ∧ f.tm.get 2 = some (.func 52 [] []) ∧ f.tm.get 16 = some (.int .i64 (a.length : Int)) ∧ g = h ∧ ∃ (p : Nat), p + k = a.length ∧ f.tm.get 17 = some (.int .i64 p) ∧ ∀ i, i < p → (a.map strB)[i]? = (b.map strB)[i]?) a.length ?_ ?_
  ·exact ⟨rfl, rfl, by simp -implicitDefEqProofs (disch := (first | omega | fail)) only [go_sem, seval, ↓reduceIte, reduceCtorEq], by simp -implicitDefEqProofs (disch := (first | omega | fail)) only [go_sem, seval, ↓reduceIte, reduceCtorEq], by simp -implicitDefEqProofs (disch := (first | omega | fail)) only [go_sem, seval, ↓reduceIte, reduceCtorEq], by simp -implicitDefEqProofs (disch := (first | omega | fail)) only [go_sem, seval, ↓reduceIte, reduceCtorEq], rfl, 0, by omega, by simp -implicitDefEqProofs (disch := (first | omega | fail)) only [go_sem, Nat.reduceSub, Nat.reduceMod, Nat.reduceDiv, ↓reduceIte, reduceCtorEq]; rfl, fun i hi => by omega⟩
  rintro k ⟨⟨n', tr⟩, mks⟩ g ⟨hmk, hn', t15, u1, t2, t16, rfl, p, hpk, t17, hs⟩
  simp only [Tm.get_mk] at hmk hn' t15 u1 t2 t16 t17
  subst hmk hn'
  by_cases hp : p < a.length
  ·have hpb : p < b.length := by omega
   obtain ⟨b1, o1, cap1, ex1, c1, ce1, w1, rfl, _, _, i1, j1, k1, l1⟩ := h1.at' hp
   obtain ⟨b2, o2, cap2, ex2, c2, ce2, w2, rfl, _, _, i2, j2, k2, l2⟩ := h2.at' hpb
   have hR1 := hR b1
   have hR2 := hR b2
   have hw1 := l1.one
   have hw2 := l2.one
   have hb1 := ha _ (List.getElem_mem hp)
   have hb2 := hb _ (List.getElem_mem hpb)
   have p1 : (p : Int) < (a.length : Int) := by omega
   have p2 : (p : Int) < (b.length : Int) := by omega
   have p0 : (0 : Int) ≤ (p : Int) := by omega
   simp -implicitDefEqProofs (disch := (first | omega | fail)) only [go_sem, seval, ↓reduceIte, ir50_l0, t15, u1, t2, t16, t17, hR1, hR2, i1, i2, k1, k2, p0, p1, p2]
   refine GCall.of (equal52 l1 l2 hb1 hb2 (fun b => .inr (hR b))) ?_
   rintro r g' ⟨rfl, rfl⟩
   by_cases he : strB a[p] = strB b[p]
   ·rw [decide_eq_true he]
    simp -implicitDefEqProofs (disch := (first | omega | fail)) only [go_sem, seval, ↓reduceIte, t15, u1, t2, t16, t17]
    refine ⟨k - 1, by omega, p + 1, by omega, by simp, fun i hi => ?_⟩
    by_cases e : i = p
    ·subst e; rw [List.getElem?_map, List.getElem?_map, List.getElem?_eq_getElem hp, List.getElem?_eq_getElem hpb, Option.map_some, Option.map_some, he]
    ·exact hs i (by omega)
   ·rw [decide_eq_false he]
    simp -implicitDefEqProofs (disch := (first | omega | fail)) only [go_sem, seval, ↓reduceIte]
    unfold sameR
    rw [decide_eq_false]
    intro e
    refine he ?_
    have h3 : (a.map strB)[p]? = (b.map strB)[p]? := by rw [e]
    rw [List.getElem?_map, List.getElem?_map, List.getElem?_eq_getElem hp, List.getElem?_eq_getElem hpb] at h3
    exact Option.some.inj h3
  ·have e : a.map strB = b.map strB := same_step (by simpa using hl) hs (by rw [List.length_map]; omega)
   have p1 : ¬ (p : Int) < (a.length : Int) := by omega
   simp -implicitDefEqProofs (disch := (first | omega | fail)) only [go_sem, seval, ↓reduceIte, ir50_l0, t16, t17, p1]
   unfold sameR
   rw [decide_eq_true e]
 ·have hn : ((a.length : Int) != (b.length : Int)) = true := by simp; omega
  simp -implicitDefEqProofs (disch := (first | omega | fail)) only [go_sem, seval, ↓reduceIte, reduceCtorEq, ir50, ↓hl1, ↓hl2, hn]
  unfold sameR
  rw [decide_eq_false fun e => hl (by have := congrArg List.length e; simpa using this)]
end Go.Proofs.Ytmimialblhlklaa
namespace Go.Proofs.Ytmimialblhlklaa
open Go Go.Vm
variable {h : Heap} {R W I : Set'}
structure PkV (n0 : Nat) (g : Heap) (v : V) (r : List (List V)) (sl : List V) : Prop where
 o : Own n0 g v sl 36
 l : sl.length = r.length
 p : ∀ i w, sl[i]? = some w → ∃ n, n0 ≤ n ∧ Own n g w (r.getD i []) 5 ∧ ∀ j w', j < i → sl[j]? = some w' → sblk w' = 0 ∨ sblk w' < n
theorem PkV.ring {n0 : Nat} {g : Heap} {v : V} {r : List (List V)} {sl : List V} (hp : PkV n0 g v r sl) : RingV g (fun k => n0 ≤ k) v r := by
 refine .inr ⟨sl, hp.o.lr, ?_, hp.l, fun i w e => ?_⟩
 ·rcases hp.o with ⟨_, rfl | ⟨b, c, rfl, _⟩⟩ | ⟨b, x, c, _, rfl, _⟩
  ·exact Nat.le_refl _
  ·exact Nat.le_refl _
  ·exact Nat.le_refl _
 ·obtain ⟨n, h1, h2, _⟩ := hp.p i w e
  exact h2.lr.mono fun k _ h => Nat.le_trans h1 h
set_option maxHeartbeats 2000000 in
theorem packets51 {b : Nat} {x : Pt} (hp : PortAt h I b x) (hI : ∀ k, I k → k < h.n) (hF : ∀ l ∈ x.ring, Byt l ∧ l.length ≤ 64) (hR : ∀ b, R b) : SF Try.prog 51 [.ptr (some (b, 0))] h R W fun v g => h.n ≤ g.n ∧ (∀ k, k < h.n → g.get k = h.get k) ∧ ∃ sl, PkV h.n g v x.ring sl := by
 obtain ⟨c, f, c1, c2, c3, c4, c5, c6, c7, c8, c9, c10⟩ := hp.c
 have hlen := hp.len
 have hRb := hR b
 refine SF.go hm Try.func51 ir51_eq ?_
 simp -implicitDefEqProofs (disch := (first | omega | fail)) only [go_sem, seval, ↓reduceIte, reduceCtorEq, ir51, c1, c2, c7, hRb]
 refine GLoop.inv hm (fun k f' g => f'.mks = [] ∧ f'.tm.n = 30 ∧ f'.tm.get 0 = some (.ptr (some (b, 0))) ∧ f'.tm.get 8 = some (.int .i64 (x.ring.length : Int)) ∧ h.n ≤ g.n ∧ (∀ k, k < h.n → g.get k = h.get k) ∧ ∃ (p : Nat) (v : V) (sl : List V), p + k = x.ring.length ∧ f'.tm.get 9 = some (.int .i64 (p : Int)) ∧ f'.tm.get 3 = some v ∧ sl.length = p ∧ PkV h.n g v (x.ring.take p) sl) x.ring.length ?_ ?_
 ·exact ⟨rfl, rfl, by simp -implicitDefEqProofs (disch := (first | omega | fail)) only [go_sem, seval, ↓reduceIte], by simp -implicitDefEqProofs (disch := (first | omega | fail)) only [go_sem, seval, ↓reduceIte, reduceCtorEq], Nat.le_refl _, fun _ _ => rfl, 0, _, [], by omega, by simp -implicitDefEqProofs (disch := (first | omega | fail)) only [go_sem, Nat.reduceSub, Nat.reduceMod, Nat.reduceDiv, ↓reduceIte, reduceCtorEq]; rfl, by simp -implicitDefEqProofs (disch := (first | omega | fail)) only [go_sem, seval, ↓reduceIte, reduceCtorEq], rfl, Own.nil _ _ _, by simp, fun i w e => by simp at e⟩
 rintro k ⟨⟨n', tr⟩, mks⟩ g ⟨hmk, hn', t0, t8, hgn, hgo, p, v, sl, hpk, t9, t3, hsl, hv⟩
 simp only [Tm.get_mk] at hmk hn' t0 t8 t9 t3
 subst hmk hn'
 by_cases hpq : p < x.ring.length
 rotate_left
 ·have hz : ¬ (p : Int) < (x.ring.length : Int) := by omega
  rw [List.take_of_length_le (by omega)] at hv
  simp -implicitDefEqProofs (disch := (first | omega | fail)) only [go_sem, seval, ↓reduceIte, ir51_l0, t8, t9, t3, hz]
  exact ⟨hgn, hgo, sl, hv⟩
 have hz : (p : Int) < (x.ring.length : Int) := by omega
 have hbl := Heap.lt_of_get c1
 have c1g := (hgo b hbl).trans c1
 have hmod : ((f : Int) + (p : Int)).tmod 8 = (((f + p) % 8 : Nat) : Int) := rfl
 have hm0 : (0 : Int) ≤ (((f + p) % 8 : Nat) : Int) := by omega
 have hm8 : (((f + p) % 8 : Nat) : Int) < ((8 : Nat) : Int) := by omega
 have hsz : 1 + (f + p) % 8 < c.size := by omega
 have c9p : LR g I (c.get (1 + (f + p) % 8)) (x.ring.getD p []) := (c9 p hpq).old hgo
 have hone := c9p.one
 have hg : x.ring.getD p [] = x.ring[p] := by rw [List.getD_eq_getElem?_getD, List.getElem?_eq_getElem hpq]; rfl
 have hFp := hF _ (List.getElem_mem hpq)
 rw [hg] at c9p
 simp -implicitDefEqProofs (disch := (first | omega | fail)) only [go_sem, Nat.reduceAdd, Nat.reduceEqDiff, ↓reduceIte, reduceCtorEq, Int.reduceEq, ir51_l0, t0, t8, t9, t3, hz, c1g, c2, c6, hmod, hm0, hm8]
 refine GCallD.of (R' := fun _ => True) (W' := fun _ => False) (((clone67 (R := fun _ => True) (W := fun _ => False) c9p (fun _ => trivial) (by omega) (allOne_byt hFp.1)).kept).foot (fun _ h => h) (fun _ h => h.elim)) ?_
 rintro s h2 ⟨⟨hs, hk⟩, vf⟩
 have hn2 := vf.n
 have hso := hs.lr.one
 have hsc := hs.lr.cells
 have kp : ∀ k, k < h2.n → (h2.push (.cells (Blk.of [s]) 36)).get k = h2.get k := fun k hk => w_push_ne (by omega) _
 obtain ⟨v3, h3, r3, w3, ap3, o3, n3, k3, w3n, k3', ty3⟩ := app_own (n0 := h.n) (h := h2.push (.cells (Blk.of [s]) 36)) (v := v) (x := .slice (some (h2.n, 0)) 1 1 true) (l := sl) (news := [s]) (rs := [h2.n]) (e := 36) (bytes := 24) ((hv.o.old hk).old kp) (by simp; omega) rfl (first_one (w_push_eq rfl _)) (by simp only [allOne, hso]) (by simp only [List.length_singleton]; omega) (by simp only [List.length_singleton]; omega)
 simp only [Heap.n_push] at n3
 have hr3 : allB (fun b => h.n ≤ b ∨ R b) r3 := allB_of fun b _ => .inr (hR b)
 have hw3 : allB (fun b => h.n ≤ b ∨ W b) w3 := allB_of fun b hb => .inl (w3n b hb)
 simp -implicitDefEqProofs (disch := (first | omega | fail)) only [go_sem, seval, ↓reduceIte, reduceCtorEq, t0, t8, t9, appendV_of ap_23, ap3, ↓hsc]
 have k5 : ∀ k c, h2.get k = some (.cells c 5) → h3.get k = some (.cells c 5) := fun k c h1 => by
  have hlt := Heap.lt_of_get h1
  rw [k3' k (by simp; omega) (fun hw => ?_), kp k hlt]; exact h1
  obtain ⟨c', e'⟩ := ty3 k hw
  rw [kp k hlt, h1] at e'; cases e'
 have tk : ∀ n i, i < n → (x.ring.take n).getD i [] = x.ring.getD i [] := fun n i hi => by
  rw [List.getD_eq_getElem?_getD, List.getElem?_take, if_pos hi, ← List.getD_eq_getElem?_getD]
 refine ⟨?_, ⟨fun _ => .inr (hR b), fun _ => .inr (hR b), fun b _ _ => .inr (hR b), fun b _ h => h.elim, fun b _ _ => .inr (hR b), fun b _ hb => .inl (w3n b hb)⟩, k - 1, by omega, by omega, fun k hk' => by rw [k3 k hk', kp k (by omega), hk k (by omega), hgo k hk'], p + 1, v3, sl ++ [s], by omega, by simp, rfl, by simp [hsl], o3, by simp [hsl]; omega, fun i w e => ?_⟩
 ·simp only [List.not_mem_nil, or_false, false_or, and_false, implies_true, not_false_eq_true, and_true]
  intros; omega
 by_cases hi : i < p
 ·rw [List.getElem?_append_left (by omega)] at e
  obtain ⟨n, q1, q2, q3⟩ := hv.p i w e
  rw [tk p i hi] at q2
  rw [tk (p + 1) i (by omega)]
  refine ⟨n, q1, q2.keep fun b' c' h1 => k5 b' c' (by rw [hk b' (Heap.lt_of_get h1)]; exact h1), fun j w' hj e' => ?_⟩
  rw [List.getElem?_append_left (by omega)] at e'
  exact q3 j w' hj e'
 ·have hilt := (List.getElem?_eq_some_iff.1 e).1
  rw [List.length_append, List.length_singleton] at hilt
  obtain rfl : i = p := by omega
  rw [List.getElem?_append_right (by omega), hsl, Nat.sub_self] at e
  cases e
  rw [tk (i + 1) i (by omega), hg]
  refine ⟨g.n, hgn, hs.keep fun b' c' h1 => k5 b' c' h1, fun j w' hj e' => ?_⟩
  rw [List.getElem?_append_left (by omega)] at e'
  obtain ⟨n, q1, q2, q3⟩ := hv.p j w' e'
  exact (Own.toS q2).sblk.imp id fun h => h.2
theorem RingV.old {h' : Heap} {v : V} {r : List (List V)} (hv : RingV h I v r) (hk : ∀ b, b < h.n → h'.get b = h.get b) : RingV h' I v r := by
 rcases hv with h1 | ⟨sl, h1, h0, h2, h3⟩
 ·exact .inl h1
 ·exact .inr ⟨sl, h1.old hk, h0, h2, fun i v e => (h3 i v e).old hk⟩
def portEq (x y : Pt) : Bool := decide (x.lost = y.lost) && decide (x.ts = y.ts) && sameR x.ring y.ring
set_option maxHeartbeats 4000000 in
theorem eq48 {b b' : Nat} {x y : Pt} {I' : Set'} (hp : PortAt h I b x) (hp' : PortAt h I' b' y) (hI : ∀ k, I k → k < h.n) (hI' : ∀ k, I' k → k < h.n) (hx : okF x.ts ∧ ∀ l ∈ x.ring, Byt l ∧ l.length ≤ 64) (hy : okF y.ts ∧ ∀ l ∈ y.ring, Byt l ∧ l.length ≤ 64) (hR : ∀ b, R b) : SF Try.prog 48 [.ptr (some (b, 0)), .ptr (some (b', 0))] h R W fun v g => v = .bool (portEq x y) ∧ h.n ≤ g.n ∧ ∀ k, k < h.n → g.get k = h.get k := by
 obtain ⟨c, f, c1, c2, c3, c4, c5, c6, c7, c8, c9, c10⟩ := hp.c
 obtain ⟨c', f', c1', c2', c3', c4', c5', c6', c7', c8', c9', c10'⟩ := hp'.c
 have q1 := LRs.one c4; have q1' := LRs.one c4'
 have hRb := hR b; have hRb' := hR b'
 have hlen := hp.len
 refine SF.go hm Try.func48 ir48_eq ?_
 by_cases e1 : x.lost = y.lost
 rotate_left
 ·have e1' : (x.lost == y.lost) = false := by simpa using e1
  simp -implicitDefEqProofs (disch := (first | omega | fail)) only [go_sem, seval, ↓reduceIte, reduceCtorEq, ir48, undefV, c1, c1', c2, c2', c8, c8', hRb, hRb', e1']
  simp only [and_false, false_or, not_false_eq_true, implies_true, false_implies, and_self, true_and]
  unfold portEq
  rw [decide_eq_false e1]; rfl
 have e1' : (x.lost == y.lost) = true := by simpa using e1
 simp -implicitDefEqProofs (disch := (first | omega | fail)) only [go_sem, seval, ↓reduceIte, reduceCtorEq, ir48, c1, c1', c2, c2', c8, c8', e1']
 refine GCallD.of (R' := fun _ => True) (W' := fun _ => False) (equal49 (R := fun _ => True) (W := fun _ => False) c4 c4' (fun _ => trivial) (by have := hx.1.1; omega)) ?_
 rintro r h1 ⟨rfl, rfl⟩
 by_cases e2 : x.ts = y.ts
 rotate_left
 ·rw [decide_eq_false e2]
  simp -implicitDefEqProofs (disch := (first | omega | fail)) only [go_sem, seval, ↓reduceIte, reduceCtorEq]
  simp only [false_or, and_false, false_implies, implies_true, not_false_eq_true, true_and, and_self, hR, or_true]
  unfold portEq
  rw [decide_eq_false e2]
  simp
 rw [decide_eq_true e2]
 simp -implicitDefEqProofs (disch := (first | omega | fail)) only [go_sem, seval, ↓reduceIte, reduceCtorEq]
 refine GCallD.of (R' := fun _ => True) (W' := fun _ => False) (((packets51 (R := fun _ => True) (W := fun _ => False) hp hI hx.2 (fun _ => trivial)).kept).foot (fun _ h => h) (fun _ h => h.elim)) ?_
 rintro r h2 ⟨⟨n2, k2, sl, hs⟩, vf⟩
 simp -implicitDefEqProofs (disch := (first | omega | fail)) only [go_sem, seval, ↓reduceIte, reduceCtorEq]
 refine GCallD.of (R' := fun _ => True) (W' := fun _ => False) (((packets51 (R := fun _ => True) (W := fun _ => False) (hp'.same (k2 _ hp'.lt) fun k hk _ => k2 k (hI' k hk)) (fun k hk => Nat.lt_of_lt_of_le (hI' k hk) n2) hy.2 (fun _ => trivial)).kept).foot (fun _ h => h) (fun _ h => h.elim)) ?_
 rintro r' h3 ⟨⟨n3, k3, sl', hs'⟩, vf'⟩
 simp -implicitDefEqProofs (disch := (first | omega | fail)) only [go_sem, seval, ↓reduceIte, reduceCtorEq]
 refine GCallD.of (R' := fun _ => True) (W' := fun _ => False) (equal50 (R := fun _ => True) (W := fun _ => False) (hs.ring.old (h' := h3) k3) hs'.ring (fun l h => (hx.2 l h).1) (fun l h => (hy.2 l h).1) (fun _ => trivial) (by omega)) ?_
 rintro r'' h4 ⟨rfl, rfl⟩
 simp -implicitDefEqProofs (disch := (first | omega | fail)) only [go_sem, seval, ↓reduceIte, reduceCtorEq]
 simp only [List.not_mem_nil, or_false, false_or, and_false, false_implies, implies_true, not_false_eq_true, true_and, and_self, hR, or_true]
 exact ⟨by unfold portEq; rw [decide_eq_true e1, decide_eq_true e2]; rfl, by omega, fun k hk => by rw [k3 k (by omega), k2 k hk]⟩
end Go.Proofs.Ytmimialblhlklaa
