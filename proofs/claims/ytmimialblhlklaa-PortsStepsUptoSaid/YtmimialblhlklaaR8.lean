/- The document's ports: writing a port; Close. -/
import Derived.Test.YtmimialblhlklaaN2
set_option linter.unusedVariables false
set_option maxRecDepth 100000
namespace Go.Proofs.Ytmimialblhlklaa
open Go Go.Vm
variable {h : Heap} {R W I : Set'} {rd : Nat} {bl : Nat → Nat} {qs : List Nat} {S : AT}
theorem RPorts.at' (hr : RPorts h I rd bl qs S) {i q m : Nat} (hq : qs[i]? = some q) (hmq : m < q) : ∃ c b o cap ex cc ce cb, h.get rd = some (.cells c 106) ∧ c.size = 1 ∧ c.get 0 = .slice (some (b, o)) qs.length cap ex ∧ h.get b = some (.cells cc ce) ∧ o + qs.length ≤ cc.size ∧ cc.get (o + i) = .slice (some (bl i, 0)) q q true ∧ h.get (bl i) = some (.cells cb 109) ∧ cb.size = q * 4 ∧ cb.ro = false ∧ (∀ n, n < q → PortC h I cb (n * 4) (S i n)) ∧ m * 4 + 4 ≤ cb.size := by
 have hi : i < qs.length := (List.getElem?_eq_some_iff.1 hq).1
 obtain ⟨c, b, o, cap, ex, cc, ce, c1, c2, c3, c4, c5, c6, _⟩ := hr.acc hi
 have hqi : qs[i] = q := by rw [List.getElem?_eq_getElem hi] at hq; exact Option.some.inj hq
 rw [hqi] at c6
 obtain ⟨cb, b1, b2, b3, b4⟩ := hr.b i q hq
 exact ⟨c, b, o, cap, ex, cc, ce, cb, c1, c2, c3, c4, c5, c6, b1, b2, b3, b4, by rw [b2]; omega⟩
theorem PortC.mono {c : Blk} {o : Nat} {y : Option Pt} {I' : Set'} (hp : PortC h I c o y) (hI : ∀ k, I k → I' k) : PortC h I' c o y := by
 cases y with
 | none => exact hp
 | some x =>
  obtain ⟨h1, h2, h3, h6⟩ := hp
  exact ⟨h1, LRs.mono h2 fun k _ h => hI k h, h3.mono hI, h6⟩
theorem PortC.cell {c c' : Blk} {o : Nat} {y : Option Pt} (hp : PortC h I c o y) (hc : ∀ j, j < 4 → c'.get (o + j) = c.get (o + j)) : PortC h I c' o y := by
 have e0 := hc 0 (by decide); have e1 := hc 1 (by decide); have e2 := hc 2 (by decide); have e3 := hc 3 (by decide)
 rw [Nat.add_zero] at e0
 cases y with
 | none => exact ⟨e0.trans hp.1, e1.trans hp.2.1, e2.trans hp.2.2.1, e3.trans hp.2.2.2⟩
 | some x =>
  obtain ⟨h1, h2, h3, h5⟩ := hp
  exact ⟨e0.trans h1, by rw [e1]; exact h2, by rw [e2]; exact h3, e3.trans h5⟩
theorem RPorts.put {h' : Heap} {I' : Set'} (hr : RPorts h I rd bl qs S) {i q m : Nat} {y : Option Pt} {cb c' : Blk} (hq : qs[i]? = some q) (hmq : m < q) (hb : h.get (bl i) = some (.cells cb 109)) (h1 : h'.get (bl i) = some (.cells c' 109)) (h2 : c'.size = cb.size) (h3 : c'.ro = false) (h4 : PortC h' I' c' (m * 4) y)
  (h5 : ∀ j, ¬ (m * 4 ≤ j ∧ j < m * 4 + 4) → c'.get j = cb.get j) (hk : ∀ k, k < h.n → k ≠ bl i → h'.get k = h.get k) (hI : ∀ k, I k → I' k) (hI' : ∀ k, I' k → I k ∨ ∃ c e, h'.get k = some (.cells c e) ∧ e ≠ 109 ∧ e ≠ 82) : RPorts h' I' rd bl qs (updA S i m y) := by
 have hi : i < qs.length := (List.getElem?_eq_some_iff.1 hq).1
 have hIk : ∀ k, I k → h'.get k = h.get k := fun k h6 => by
  obtain ⟨c, e, h7, h8, _⟩ := hr.imm k h6
  refine hk k (Heap.lt_of_get h7) fun e1 => ?_
  rw [e1, hb] at h7; cases h7; exact h8 rfl
 obtain ⟨c, c1, c2, c3⟩ := hr.c
 refine ⟨⟨c, (hIk rd hr.ir).trans c1, c2, (c3.same fun k h6 _ => hIk k h6).mono fun k _ h6 => hI k h6⟩, hI _ hr.ir, fun a q' e => ?_, fun a n x e => ?_, hr.inj, fun k h6 => ?_, hr.qs⟩
 ·by_cases ha : a = i
  ·subst ha
   rw [hq] at e; cases e
   obtain ⟨cb', b1, b2, b3, b4⟩ := hr.b a q hq
   rw [hb] at b1; cases b1
   refine ⟨c', h1, h2.trans b2, h3, fun n hn => ?_⟩
   unfold updA
   by_cases hnm : n = m
   ·rw [if_pos ⟨rfl, hnm⟩, hnm]; exact h4
   ·rw [if_neg fun h => hnm h.2]
    exact (((b4 n hn).same hIk).mono hI).cell fun j hj => h5 _ (by omega)
  ·obtain ⟨cb', b1, b2, b3, b4⟩ := hr.b a q' e
   have hne : bl a ≠ bl i := fun h => ha (hr.inj _ _ (List.getElem?_eq_some_iff.1 e).1 hi h)
   refine ⟨cb', (hk _ (Heap.lt_of_get b1) hne).trans b1, b2, b3, fun n hn => ?_⟩
   unfold updA
   rw [if_neg fun h => ha h.1]
   exact ((b4 n hn).same hIk).mono hI
 ·unfold updA at e
  split at e
  ·rename_i hc; rw [hc.1, hc.2]; exact ⟨q, hq, hmq⟩
  ·exact hr.dom _ _ _ e
 ·rcases hI' k h6 with h7 | h7
  ·obtain ⟨c, e, h8, h9⟩ := hr.imm k h7
   exact ⟨c, e, (hIk k h7).trans h8, h9⟩
  ·exact h7
theorem set4 (c : Blk) (o : Nat) (a b d e : V) : ∀ c', c' = (((c.set o a).set (o + 1) b).set (o + 1 + 1) d).set (o + 1 + 1 + 1) e → c'.size = c.size ∧ c'.ro = c.ro ∧ c'.get o = a ∧ c'.get (o + 1) = b ∧ c'.get (o + 2) = d ∧ c'.get (o + 3) = e ∧ ∀ j, ¬ (o ≤ j ∧ j < o + 4) → c'.get j = c.get j := by
 rintro c' rfl
 refine ⟨by simp only [Blk.size_set], by simp only [Blk.ro_set], ?_, ?_, ?_, ?_, fun j hj => ?_⟩
 all_goals simp only [Blk.get_set]
 ·rw [if_neg (by omega), if_neg (by omega), if_neg (by omega), if_pos trivial]
 ·rw [if_neg (by omega), if_neg (by omega), if_pos trivial]
 ·rw [if_neg (by omega), if_pos trivial]
 ·rw [if_pos trivial]
 ·rw [if_neg (by omega), if_neg (by omega), if_neg (by omega), if_neg (by omega)]
theorem lookA_nat {a n : Int} {x : Pt} (h : lookA S a n = some x) : ∃ i m : Nat, a = (i : Int) ∧ n = (m : Int) ∧ S i m = some x := by
 unfold lookA at h
 split at h
 ·rename_i hp
  exact ⟨a.toNat, n.toNat, by omega, by omega, h⟩
 ·cases h
theorem askA_some {a n : Int} (hz : askA qs S a n = 0) : okA qs a ∧ ∃ x, lookA S a n = some x := by
 unfold askA at hz
 by_cases h : okA qs a
 ·rw [if_pos h] at hz
  refine ⟨h, ?_⟩
  cases e : lookA S a n with
  | none => rw [e] at hz; cases hz
  | some x => exact ⟨x, rfl⟩
 ·rw [if_neg h] at hz; cases hz
theorem RPorts.not (hr : RPorts h I rd bl qs S) {a n : Int} (hz : askA qs S a n ≠ 0) : lookA S a n = none := by
 cases e : lookA S a n with
 | none => rfl
 | some x =>
  obtain ⟨i, m, rfl, rfl, hx⟩ := lookA_nat e
  obtain ⟨q, h1, _⟩ := hr.dom _ _ _ hx
  refine absurd ?_ hz
  unfold askA
  rw [if_pos (show okA qs (i : Int) from ⟨by omega, by have := (List.getElem?_eq_some_iff.1 h1).1; omega⟩), e]; rfl
theorem rclose_ok (hr : RPorts h I rd bl qs S) (hR : ∀ b, R b) (hW : ∀ a, a < qs.length → W (bl a)) (a n : Int) : SF Try.prog 43 [.ptr (some (rd, 0)), .int .i64 a, .int .i64 n] h R W fun r h' => r = .tuple [.int .i64 (closeV qs S a n).1, .int .i64 (closeV qs S a n).2] ∧ h'.n = h.n ∧ (∀ k, (∀ a, a < qs.length → k ≠ bl a) → h'.get k = h.get k) ∧ RPorts h' I rd bl qs (closeA S a n) := by
 refine SF.go hm Try.func43 ir43_eq ?_
 simp -implicitDefEqProofs (disch := (first | omega | fail)) only [go_sem, seval, ↓reduceIte, reduceCtorEq, ir43]
 refine GCall.of (rask_ok hr (fun b => .inr (hR b)) a n) ?_
 rintro r g ⟨rfl, rfl⟩
 by_cases hz : askA qs S a n = 0
 rotate_left
 ·have hz' : (askA qs S a n != 0) = true := by simpa using hz
  have hno := hr.not hz
  simp -implicitDefEqProofs (disch := (first | omega | fail)) only [go_sem, seval, ↓reduceIte, reduceCtorEq, hz']
  unfold closeV closeA
  rw [hno]
  exact ⟨rfl, hr⟩
 obtain ⟨ha, x, hx⟩ := askA_some hz
 obtain ⟨i, m, rfl, rfl, hS⟩ := lookA_nat hx
 obtain ⟨q, hq, hmq⟩ := hr.dom _ _ _ hS
 have hi : i < qs.length := (List.getElem?_eq_some_iff.1 hq).1
 obtain ⟨c, b, o, cap, ex, cc, ce, cb, c1, c2, c3, c4, c5, c6, b1, b2, b3, b4, hsz⟩ := hr.at' hq hmq
 have hm4 := b4 m hmq
 rw [hS] at hm4
 obtain ⟨o0, o1, o2, o3⟩ := hm4.ones
 obtain ⟨p0, p1, p2, p3⟩ := hm4
 have hsl := p2.lenV
 have hRd := hR rd; have hRb := hR b; have hRl := hR (bl i)
 have hWl := hW i hi
 have hz1 : (i : Int) < (qs.length : Int) := ha.2
 have hi0 : (0 : Int) ≤ (i : Int) := ha.1
 have hz2 : (m : Int) < (q : Int) := by omega
 have hm0 : (0 : Int) ≤ (m : Int) := by omega
 have hlb := Heap.lt_of_get b1
 simp -implicitDefEqProofs (disch := (first | omega | fail)) only [go_sem, seval, ↓reduceIte, reduceCtorEq, undefV, hz, c1, c2, c3, c4, c6, hRd, hRb, hRl, hWl, hz1, hi0, hz2, hm0, b1, b3, ↓hsl]
 have hcv : closeV qs S (i : Int) (m : Int) = ((x.ring.length : Int), 0) := by unfold closeV; rw [hx, hz]; rfl
 have hca : closeA S (i : Int) (m : Int) = updA S i m none := by unfold closeA; rw [hx]; rfl
 rw [hcv, hca]
 obtain ⟨s1, s2, s3, s4, s5, s6, s7⟩ := set4 cb (m * 4) (V.bool false) (V.slice none 0 0 true) (V.slice none 0 0 true) (V.int IntKind.i64 0) _ rfl
 refine ⟨rfl, fun k hk => w_set_ne hlb (hk i hi) _, hr.put hq hmq b1 (w_set_eq hlb rfl _) s1 (s2.trans b3) ⟨s3, s4, s5, s6⟩ s7 (fun k _ hk => w_set_ne hlb hk _) (fun _ h => h) fun k h => .inl h⟩
end Go.Proofs.Ytmimialblhlklaa
