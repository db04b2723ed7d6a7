/- The document's ports: SameRing, Open. -/
import Derived.Test.YtmimialblhlklaaR8
set_option linter.unusedVariables false
set_option maxRecDepth 100000
namespace Go.Proofs.Ytmimialblhlklaa
open Go Go.Vm
variable {h : Heap} {R W I : Set'} {rd : Nat} {bl : Nat → Nat} {qs : List Nat} {S : AT}
def sameR (a b : List (List V)) : Bool := decide (a.map strB = b.map strB)
theorem RPorts.oob (hr : RPorts h I rd bl qs S) {a n : Int} (ha : ¬ okA qs a) : lookA S a n = none := hr.not (by unfold askA; rw [if_neg ha]; decide)
theorem RPorts.upto (hr : RPorts h I rd bl qs S) {i q : Nat} (hq : qs[i]? = some q) : (List.range q).filter (fun n : Nat => (lookA S (i : Int) (n : Int)).isSome) = openA S (i : Int) := by
 have hq16 := hr.qs.2.2 q (List.mem_of_getElem? hq)
 have e : List.range 16 = List.range q ++ (List.range (16 - q)).map (q + ·) := by rw [← List.range_add]; congr 1; omega
 unfold openA
 rw [e, List.filter_append]
 have : ((List.range (16 - q)).map (q + ·)).filter (fun n : Nat => (lookA S (i : Int) (n : Int)).isSome) = [] := by
  rw [List.filter_eq_nil_iff]
  intro n hn h
  obtain ⟨j, _, rfl⟩ := List.mem_map.1 hn
  obtain ⟨x, hx⟩ := Option.isSome_iff_exists.1 h
  obtain ⟨i', m, e1, e2, h3⟩ := lookA_nat hx
  obtain ⟨q', h4, h5⟩ := hr.dom _ _ _ h3
  rw [show i' = i by omega, hq] at h4
  cases h4
  omega
 rw [this, List.append_nil]
set_option maxHeartbeats 2000000 in
theorem ropen_ok (hr : RPorts h I rd bl qs S) (hR : ∀ b, R b) (a : Int) : SF Try.prog 56 [.ptr (some (rd, 0)), .int .i64 a] h R W fun r g => h.n ≤ g.n ∧ (∀ k, k < h.n → g.get k = h.get k) ∧ Own h.n g r ((openA S a).map fun n : Nat => V.int .i64 (n : Int)) 3 := by
 refine SF.go hm Try.func56 ir56_eq ?_
 simp -implicitDefEqProofs (disch := (first | omega | fail)) only [go_sem, seval, ↓reduceIte, reduceCtorEq, ir56]
 by_cases ha : okA qs a
 rotate_left
 ·have ho : openA S a = [] := by
   unfold openA
   rw [List.filter_eq_nil_iff]
   intro n _ h
   rw [hr.oob ha] at h; cases h
  rw [ho]
  refine GLoop.inv hm (fun k f g => f.mks = [] ∧ f.tm.n = 40 ∧ f.tm.get 0 = some (.ptr (some (rd, 0))) ∧ f.tm.get 1 = some (.int .i64 a) ∧ f.tm.get 5 = some (.slice none 0 0 true) ∧ g = h) 1 ?_ ?_
  ·exact ⟨rfl, rfl, by simp -implicitDefEqProofs (disch := (first | omega | fail)) only [go_sem, seval, ↓reduceIte], by simp -implicitDefEqProofs (disch := (first | omega | fail)) only [go_sem, seval, ↓reduceIte, reduceCtorEq], by simp -implicitDefEqProofs (disch := (first | omega | fail)) only [go_sem, seval, ↓reduceIte, reduceCtorEq], rfl⟩
  rintro k ⟨⟨n', tr⟩, mks⟩ g ⟨hmk, hn', t0, t1, t5, rfl⟩
  simp only [Tm.get_mk] at hmk hn' t0 t1 t5
  subst hmk hn'
  simp -implicitDefEqProofs (disch := (first | omega | fail)) only [go_sem, seval, ↓reduceIte, ir56_l0, t0, t1]
  refine GCall.of (rin_ok hr (fun b => .inr (hR b)) a) ?_
  rintro r g' ⟨rfl, rfl⟩
  rw [decide_eq_false ha]
  simp -implicitDefEqProofs (disch := (first | omega | fail)) only [go_sem, seval, ↓reduceIte, undefV, t5]
  exact Own.nil _ _ _
 obtain ⟨i, rfl⟩ : ∃ i : Nat, a = (i : Int) := ⟨a.toNat, by have := ha.1; omega⟩
 have hi : i < qs.length := by have := ha.2; omega
 have hq : qs[i]? = some qs[i] := List.getElem?_eq_getElem hi
 generalize qs[i] = q at hq
 have hq16 := hr.qs.2.2 q (List.mem_of_getElem? hq)
 refine GLoop.inv hm (fun k f g => f.mks = [] ∧ f.tm.n = 40 ∧ f.tm.get 0 = some (.ptr (some (rd, 0))) ∧ f.tm.get 1 = some (.int .i64 (i : Int)) ∧ h.n ≤ g.n ∧ (∀ k, k < h.n → g.get k = h.get k) ∧ ∃ (p : Nat) (v : V), p + k = q ∧ f.tm.get 6 = some (.int .i64 (p : Int)) ∧ f.tm.get 5 = some v ∧ Own h.n g v (((List.range p).filter fun n : Nat => (lookA S (i : Int) (n : Int)).isSome).map fun n : Nat => V.int .i64 (n : Int)) 3) q ?_ ?_
 ·exact ⟨rfl, rfl, by simp -implicitDefEqProofs (disch := (first | omega | fail)) only [go_sem, seval, ↓reduceIte], by simp -implicitDefEqProofs (disch := (first | omega | fail)) only [go_sem, seval, ↓reduceIte, reduceCtorEq], Nat.le_refl _, fun _ _ => rfl, 0, _, by omega, by simp -implicitDefEqProofs (disch := (first | omega | fail)) only [go_sem, Nat.reduceSub, Nat.reduceMod, Nat.reduceDiv, ↓reduceIte, reduceCtorEq]; rfl, by simp -implicitDefEqProofs (disch := (first | omega | fail)) only [go_sem, seval, ↓reduceIte, reduceCtorEq], Own.nil _ _ _⟩
 rintro k ⟨⟨n', tr⟩, mks⟩ g ⟨hmk, hn', t0, t1, hgn, hgo, p, v, hpk, t6, t5, ho⟩
 simp only [Tm.get_mk] at hmk hn' t0 t1 t5 t6
 subst hmk hn'
 have hrg := hr.old hgo
 have hRd := hR rd; have hRl := hR (bl i)
 have hz1 : (i : Int) < (qs.length : Int) := ha.2
 have hi0 : (0 : Int) ≤ (i : Int) := ha.1
 have hm0 : (0 : Int) ≤ (p : Int) := by omega
 simp -implicitDefEqProofs (disch := (first | omega | fail)) only [go_sem, seval, ↓reduceIte, ir56_l0, t0, t1]
 refine GCall.of (rin_ok hrg (fun b => .inr (hR b)) (i : Int)) ?_
 rintro r g' ⟨rfl, rfl⟩
 rw [decide_eq_true ha]
 by_cases hpq : p < q
 ·obtain ⟨c, b, o, cap, ex, cc, ce, cb, c1, c2, c3, c4, c5, c6, b1, b2, b3, b4, hsz⟩ := hrg.at' hq hpq
  have hRb := hR b
  have hz2 : (p : Int) < (q : Int) := by omega
  have hm4 := b4 p hpq
  have hlk : lookA S (i : Int) (p : Int) = S i p := by unfold lookA; rw [if_pos ⟨by omega, by omega⟩, Int.toNat_natCast, Int.toNat_natCast]
  have hrs : (List.range (p + 1)).filter (fun n : Nat => (lookA S (i : Int) (n : Int)).isSome) = (List.range p).filter (fun n : Nat => (lookA S (i : Int) (n : Int)).isSome) ++ if (S i p).isSome then [p] else [] := by
   rw [List.range_succ, List.filter_append, List.filter_cons, hlk]; rfl
  cases hS : S i p with
  | none =>
   rw [hS] at hm4 hlk
   have e0 := hm4.1
   simp -implicitDefEqProofs (disch := (first | omega | fail)) only [go_sem, seval, ↓reduceIte, reduceCtorEq, t0, t1, t5, t6, c1, c2, c3, c4, c6, hRd, hRb, hRl, hz1, hi0, hz2, hm0, b1, e0]
   refine ⟨k - 1, by omega, hgn, hgo, p + 1, _, by omega, by simp, rfl, ?_⟩
   rw [hrs, hS]
   simpa using ho
  | some x =>
   rw [hS] at hm4 hlk
   have e0 := hm4.1
   have hlen : ((List.range p).filter fun n : Nat => (lookA S (i : Int) (n : Int)).isSome).length ≤ 16 := Nat.le_trans (List.length_filter_le _ _) (by simp; omega)
   obtain ⟨v', h', r, w, hap, ho', hn1, hk1, hw1, _⟩ := app_own (n0 := h.n) (h := g'.push (.cells (Blk.of [.int .i64 (p : Int)]) 3)) (v := v) (x := .slice (some (g'.n, 0)) 1 1 true) (l := ((List.range p).filter fun n : Nat => (lookA S (i : Int) (n : Int)).isSome).map fun n : Nat => V.int .i64 (n : Int)) (news := [.int .i64 (p : Int)]) (rs := [g'.n]) (e := 3) (bytes := 8) (ho.old fun b hb => w_push_ne (by omega) _) (by simp; omega) rfl (first_one (w_push_eq rfl _)) rfl (by simp only [List.length_map, List.length_singleton]; omega) (by simp only [List.length_map, List.length_singleton]; omega)
   have hrR : allB (fun b => h.n ≤ b ∨ R b) r := allB_of fun b _ => .inr (hR b)
   have hwW : allB (fun b => h.n ≤ b ∨ W b) w := allB_of fun b hb => .inl (hw1 b hb)
   simp -implicitDefEqProofs (disch := (first | omega | fail)) only [go_sem, seval, ↓reduceIte, reduceCtorEq, t0, t1, t5, t6, c1, c2, c3, c4, c6, hRd, hRb, hRl, hz1, hi0, hz2, hm0, b1, e0, appendV_of ap_30, hap, hrR, hwW]
   refine ⟨k - 1, by omega, by simp at hn1; omega, fun b hb => by rw [hk1 b hb, w_push_ne (by omega)]; exact hgo b hb, p + 1, _, by omega, by simp, rfl, ?_⟩
   rw [hrs, hS]
   simpa using ho'
 ·have hz2 : ¬ (p : Int) < (q : Int) := by omega
  obtain rfl : p = q := by omega
  obtain ⟨c, b, o, cap, ex, cc, ce, c1, c2, c3, c4, c5, c6, _⟩ := hrg.acc hi
  rw [show qs[i] = p by rw [List.getElem?_eq_getElem hi] at hq; exact Option.some.inj hq] at c6
  have hRb := hR b
  simp -implicitDefEqProofs (disch := (first | omega | fail)) only [go_sem, seval, ↓reduceIte, reduceCtorEq, t0, t1, t5, t6, c1, c2, c3, c4, c6, hRd, hRb, hz1, hi0, hz2]
  rw [← hr.upto hq]
  exact ⟨hgn, hgo, ho⟩
end Go.Proofs.Ytmimialblhlklaa
