/- The document's ports: SameRing, Open. -/
import Derived.Test.YtmimialblhlklaaR8
set_option linter.unusedVariables false
set_option maxRecDepth 100000
namespace Go.Proofs.Ytmimialblhlklaa
open Go Go.Vm
variable {h : Heap} {R W I : Set'} {rd : Nat} {bl : Nat → Nat} {qs : List Nat} {S : AT}
def sameR (a b : List (List V)) : Bool := decide (a.map strB = b.map strB)
theorem samering_ok {S1 S2 : Set'} {v1 v2 : V} {a b : List (List V)} (h1 : RingV h S1 v1 a) (h2 : RingV h S2 v2 b) (ha : ∀ l ∈ a, Byt l) (hb : ∀ l ∈ b, Byt l) (hR : ∀ b, R b) (hal : a.length ≤ 1000000) : SF Try.prog 53 [v1, v2] h R W fun v h' => v = .bool (sameR a b) ∧ h' = h := by
  have hl1 := h1.lenV
  have hl2 := h2.lenV
  refine SF.go hm Try.func53 ir53_eq ?_
  by_cases hl : a.length = b.length
  · have hn : ((a.length : Int) != (b.length : Int)) = false := by simp [hl]
    simp -implicitDefEqProofs (disch := (first | omega | fail)) only [go_sem, seval, ↓reduceIte, reduceCtorEq, ir53, ↓hl1, ↓hl2, hn]
    refine GLoop.inv hm (fun k f g => f.mks = [] ∧ f.tm.n = 28 ∧ f.tm.get 0 = some v1 ∧ f.tm.get 1 = some v2 ∧ g = h ∧ ∃ (p : Nat), p + k = a.length ∧ f.tm.get 5 = some (.int .i64 p) ∧ ∀ i, i < p → (a.map strB)[i]? = (b.map strB)[i]?) a.length ?_ ?_
    · exact ⟨rfl, rfl, by simp -implicitDefEqProofs (disch := (first | omega | fail)) only [go_sem, seval, ↓reduceIte], by simp -implicitDefEqProofs (disch := (first | omega | fail)) only [go_sem, seval, ↓reduceIte, reduceCtorEq], rfl, 0, by omega, by simp -implicitDefEqProofs (disch := (first | omega | fail)) only [go_sem, Nat.reduceSub, Nat.reduceMod, Nat.reduceDiv, ↓reduceIte, reduceCtorEq]; rfl, fun i hi => by omega⟩
    rintro k ⟨⟨n', tr⟩, mks⟩ g ⟨hmk, hn', t0, u1, rfl, p, hpk, t5, hs⟩
    simp only [Tm.get_mk] at hmk hn' t0 u1 t5
    subst hmk hn'
    by_cases hp : p < a.length
    · have hpb : p < b.length := by omega
      obtain ⟨b1, o1, cap1, ex1, c1, ce1, w1, rfl, _, _, i1, j1, k1, l1⟩ := h1.at' hp
      obtain ⟨b2, o2, cap2, ex2, c2, ce2, w2, rfl, _, _, i2, j2, k2, l2⟩ := h2.at' hpb
      have hR1 := hR b1
      have hR2 := hR b2
      have hw1 := l1.one
      have hw2 := l2.one
      have hb1 := ha _ (List.getElem_mem hp)
      have hb2 := hb _ (List.getElem_mem hpb)
      obtain ⟨r1, hc1⟩ := conv_lr l1 hb1
      obtain ⟨r2, hc2⟩ := conv_lr l2 hb2
      have hr1 : allB (fun b => g.n ≤ b ∨ R b) r1 := allB_of fun b _ => .inr (hR b)
      have hr2 : allB (fun b => g.n ≤ b ∨ R b) r2 := allB_of fun b _ => .inr (hR b)
      have hse := sb_neq (strB a[p]) (strB b[p])
      have p1 : (p : Int) < (a.length : Int) := by omega
      have p2 : (p : Int) < (b.length : Int) := by omega
      have p0 : (0 : Int) ≤ (p : Int) := by omega
      by_cases he : strB a[p] = strB b[p]
      · rw [decide_eq_true he] at hse
        simp -implicitDefEqProofs (disch := (first | omega | fail)) only [go_sem, seval, ↓reduceIte, reduceCtorEq, ir53_l0, t0, u1, t5, ↓hl1, hR1, hR2, i1, i2, k1, k2, ↓cvSD, hc1, hc2, hse, p0, p1, p2]
        refine ⟨⟨fun b _ _ => .inr (hR b), fun b _ _ => .inr (hR b)⟩, k - 1, by omega, p + 1, by omega, by simp, fun i hi => ?_⟩
        by_cases e : i = p
        · subst e; rw [List.getElem?_map, List.getElem?_map, List.getElem?_eq_getElem hp, List.getElem?_eq_getElem hpb, Option.map_some, Option.map_some, he]
        · exact hs i (by omega)
      · rw [decide_eq_false he] at hse
        simp -implicitDefEqProofs (disch := (first | omega | fail)) only [go_sem, seval, ↓reduceIte, reduceCtorEq, ir53_l0, t0, u1, t5, ↓hl1, hR1, hR2, i1, i2, k1, k2, ↓cvSD, hc1, hc2, hse, p0, p1, p2]
        refine ⟨⟨fun b _ _ => .inr (hR b), fun b _ _ => .inr (hR b)⟩, ?_⟩
        unfold sameR
        rw [decide_eq_false]
        intro e
        refine he ?_
        have h3 : (a.map strB)[p]? = (b.map strB)[p]? := by rw [e]
        rw [List.getElem?_map, List.getElem?_map, List.getElem?_eq_getElem hp, List.getElem?_eq_getElem hpb] at h3
        exact Option.some.inj h3
    · have e : a.map strB = b.map strB := same_step (by simpa using hl) hs (by rw [List.length_map]; omega)
      have p1 : ¬ (p : Int) < (a.length : Int) := by omega
      simp -implicitDefEqProofs (disch := (first | omega | fail)) only [go_sem, seval, ↓reduceIte, reduceCtorEq, ir53_l0, t0, t5, ↓hl1, p1]
      unfold sameR
      rw [decide_eq_true e]
  · have hn : ((a.length : Int) != (b.length : Int)) = true := by simp; omega
    simp -implicitDefEqProofs (disch := (first | omega | fail)) only [go_sem, seval, ↓reduceIte, reduceCtorEq, ir53, ↓hl1, ↓hl2, hn]
    unfold sameR
    rw [decide_eq_false fun e => hl (by have := congrArg List.length e; simpa using this)]
theorem RPorts.oob (hr : RPorts h I rd bl qs S) {a n : Int} (ha : ¬ okA qs a) : lookA S a n = none := hr.not (by unfold askA; rw [if_neg ha]; decide)
theorem RPorts.upto (hr : RPorts h I rd bl qs S) {i q : Nat} (hq : qs[i]? = some q) : (List.range q).filter (fun n : Nat => (lookA S (i : Int) (n : Int)).isSome) = openA S (i : Int) := by
  have hq16 := hr.qs.2.2 q (List.mem_of_getElem? hq)
  have e : List.range 16 = List.range q ++ (List.range (16 - q)).map (q + ·) := by rw [← List.range_add]; congr 1; omega
  unfold openA
  rw [e, List.filter_append]
  have : ((List.range (16 - q)).map (q + ·)).filter (fun n : Nat => (lookA S (i : Int) (n : Int)).isSome) = [] := by
    rw [List.filter_eq_nil_iff]
    intro n hn h
    obtain ⟨j, _, rfl⟩ := List.mem_map.1 hn
    obtain ⟨x, hx⟩ := Option.isSome_iff_exists.1 h
    obtain ⟨i', m, e1, e2, h3⟩ := lookA_nat hx
    obtain ⟨q', h4, h5⟩ := hr.dom _ _ _ h3
    rw [show i' = i by omega, hq] at h4
    cases h4
    omega
  rw [this, List.append_nil]
end Go.Proofs.Ytmimialblhlklaa
