/- The document's ports: writing a port; Close. -/
import Derived.Test.YtmimialblhlklaaN2
set_option linter.unusedVariables false
set_option maxRecDepth 100000
namespace Go.Proofs.Ytmimialblhlklaa
open Go Go.Vm
variable {h : Heap} {R W I : Set'} {rd : Nat} {bl : Nat → Nat} {qs : List Nat} {S : AT}
theorem RPorts.at' (hr : RPorts h I rd bl qs S) {i q m : Nat} (hq : qs[i]? = some q) (hmq : m < q) : ∃ c b o cap ex cc ce cb, h.get rd = some (.cells c 106) ∧ c.size = 1 ∧ c.get 0 = .slice (some (b, o)) qs.length cap ex ∧ h.get b = some (.cells cc ce) ∧ o + qs.length ≤ cc.size ∧ cc.get (o + i) = .slice (some (bl i, 0)) q q true ∧ h.get (bl i) = some (.cells cb 109) ∧ cb.size = q * 4 ∧ cb.ro = false ∧ (∀ n, n < q → PortC h I cb (n * 4) (S i n)) ∧ m * 4 + 4 ≤ cb.size := by
  have hi : i < qs.length := (List.getElem?_eq_some_iff.1 hq).1
  obtain ⟨c, b, o, cap, ex, cc, ce, c1, c2, c3, c4, c5, c6, _⟩ := hr.acc hi
  have hqi : qs[i] = q := by rw [List.getElem?_eq_getElem hi] at hq; exact Option.some.inj hq
  rw [hqi] at c6
  obtain ⟨cb, b1, b2, b3, b4⟩ := hr.b i q hq
  exact ⟨c, b, o, cap, ex, cc, ce, cb, c1, c2, c3, c4, c5, c6, b1, b2, b3, b4, by rw [b2]; omega⟩
theorem PortC.mono {c : Blk} {o : Nat} {y : Option Pt} {I' : Set'} (hp : PortC h I c o y) (hI : ∀ k, I k → I' k) : PortC h I' c o y := by
  cases y with
  | none => exact hp
  | some x =>
    obtain ⟨h1, h2, h3, h6⟩ := hp
    exact ⟨h1, LRs.mono h2 fun k _ h => hI k h, h3.mono hI, h6⟩
theorem PortC.cell {c c' : Blk} {o : Nat} {y : Option Pt} (hp : PortC h I c o y) (hc : ∀ j, j < 4 → c'.get (o + j) = c.get (o + j)) : PortC h I c' o y := by
  have e0 := hc 0 (by decide); have e1 := hc 1 (by decide); have e2 := hc 2 (by decide); have e3 := hc 3 (by decide)
  rw [Nat.add_zero] at e0
  cases y with
  | none => exact ⟨e0.trans hp.1, e1.trans hp.2.1, e2.trans hp.2.2.1, e3.trans hp.2.2.2⟩
  | some x =>
    obtain ⟨h1, h2, h3, h5⟩ := hp
    exact ⟨e0.trans h1, by rw [e1]; exact h2, by rw [e2]; exact h3, e3.trans h5⟩
theorem RPorts.put {h' : Heap} {I' : Set'} (hr : RPorts h I rd bl qs S) {i q m : Nat} {y : Option Pt} {cb c' : Blk} (hq : qs[i]? = some q) (hmq : m < q) (hb : h.get (bl i) = some (.cells cb 109)) (h1 : h'.get (bl i) = some (.cells c' 109)) (h2 : c'.size = cb.size) (h3 : c'.ro = false) (h4 : PortC h' I' c' (m * 4) y)
    (h5 : ∀ j, ¬ (m * 4 ≤ j ∧ j < m * 4 + 4) → c'.get j = cb.get j) (hk : ∀ k, k < h.n → k ≠ bl i → h'.get k = h.get k) (hI : ∀ k, I k → I' k) (hI' : ∀ k, I' k → I k ∨ ∃ c e, h'.get k = some (.cells c e) ∧ e ≠ 109 ∧ e ≠ 82) : RPorts h' I' rd bl qs (updA S i m y) := by
  have hi : i < qs.length := (List.getElem?_eq_some_iff.1 hq).1
  have hIk : ∀ k, I k → h'.get k = h.get k := fun k h6 => by
    obtain ⟨c, e, h7, h8, _⟩ := hr.imm k h6
    refine hk k (Heap.lt_of_get h7) fun e1 => ?_
    rw [e1, hb] at h7; cases h7; exact h8 rfl
  obtain ⟨c, c1, c2, c3⟩ := hr.c
  refine ⟨⟨c, (hIk rd hr.ir).trans c1, c2, (c3.same fun k h6 _ => hIk k h6).mono fun k _ h6 => hI k h6⟩, hI _ hr.ir, fun a q' e => ?_, fun a n x e => ?_, hr.inj, fun k h6 => ?_, hr.qs⟩
  · by_cases ha : a = i
    · subst ha
      rw [hq] at e; cases e
      obtain ⟨cb', b1, b2, b3, b4⟩ := hr.b a q hq
      rw [hb] at b1; cases b1
      refine ⟨c', h1, h2.trans b2, h3, fun n hn => ?_⟩
      unfold updA
      by_cases hnm : n = m
      · rw [if_pos ⟨rfl, hnm⟩, hnm]; exact h4
      · rw [if_neg fun h => hnm h.2]
        exact (((b4 n hn).same hIk).mono hI).cell fun j hj => h5 _ (by omega)
    · obtain ⟨cb', b1, b2, b3, b4⟩ := hr.b a q' e
      have hne : bl a ≠ bl i := fun h => ha (hr.inj _ _ (List.getElem?_eq_some_iff.1 e).1 hi h)
      refine ⟨cb', (hk _ (Heap.lt_of_get b1) hne).trans b1, b2, b3, fun n hn => ?_⟩
      unfold updA
      rw [if_neg fun h => ha h.1]
      exact ((b4 n hn).same hIk).mono hI
  · unfold updA at e
    split at e
    · rename_i hc; rw [hc.1, hc.2]; exact ⟨q, hq, hmq⟩
    · exact hr.dom _ _ _ e
  · rcases hI' k h6 with h7 | h7
    · obtain ⟨c, e, h8, h9⟩ := hr.imm k h7
      exact ⟨c, e, (hIk k h7).trans h8, h9⟩
    · exact h7
theorem lookA_nat {a n : Int} {x : Pt} (h : lookA S a n = some x) : ∃ i m : Nat, a = (i : Int) ∧ n = (m : Int) ∧ S i m = some x := by
  unfold lookA at h
  split at h
  · rename_i hp
    exact ⟨a.toNat, n.toNat, by omega, by omega, h⟩
  · cases h
theorem RPorts.not (hr : RPorts h I rd bl qs S) {a n : Int} (hz : askA qs S a n ≠ 0) : lookA S a n = none := by
  cases e : lookA S a n with
  | none => rfl
  | some x =>
    obtain ⟨i, m, rfl, rfl, hx⟩ := lookA_nat e
    obtain ⟨q, h1, _⟩ := hr.dom _ _ _ hx
    refine absurd ?_ hz
    unfold askA
    rw [if_pos (show okA qs (i : Int) from ⟨by omega, by have := (List.getElem?_eq_some_iff.1 h1).1; omega⟩), e]; rfl
end Go.Proofs.Ytmimialblhlklaa
