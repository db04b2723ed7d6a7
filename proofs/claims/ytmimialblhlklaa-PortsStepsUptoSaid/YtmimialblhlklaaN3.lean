/- The document's ports: Claim. -/
import Derived.Test.YtmimialblhlklaaR9
set_option linter.unusedVariables false
set_option maxRecDepth 100000
namespace Go.Proofs.Ytmimialblhlklaa
open Go Go.Vm
variable {h : Heap} {R W I : Set'} {rd : Nat} {bl : Nat → Nat} {qs : List Nat} {S : AT}
theorem lookA_cast (S : AT) (i m : Nat) : lookA S (i : Int) (m : Int) = S i m := by unfold lookA; rw [if_pos ⟨by omega, by omega⟩, Int.toNat_natCast, Int.toNat_natCast]
set_option maxHeartbeats 4000000 in
theorem rclaim_ok {S0 : Set'} {v : V} {L : List Te} (hr : RPorts h I rd bl qs S) (hv : TestsV h S0 v L) (hR : ∀ b, R b) (hW : ∀ a, a < qs.length → W (bl a)) (a : Int) : SF Try.prog 41 [.ptr (some (rd, 0)), .int .i64 a, v] h R W fun r g => r = .tuple [.int .i64 (claimV qs S a L).1, .int .i64 (claimV qs S a L).2] ∧ h.n ≤ g.n ∧ (∀ k, k < h.n → (∀ a, a < qs.length → k ≠ bl a) → g.get k = h.get k) ∧ ∃ I', RPorts g I' rd bl qs (claimA qs S a L) ∧ ∀ k, I' k → I k ∨ h.n ≤ k := by
 refine SF.go hm Try.func41 ir41_eq ?_
 simp -implicitDefEqProofs (disch := (first | omega | (simp -implicitDefEqProofs only [szs, ne_eq] <;> omega) | fail)) only [go_sem, seval, ↓reduceIte, reduceCtorEq, ir41]
 refine GCall.of (rin_ok hr (fun b => .inr (hR b)) a) ?_
 rintro r g ⟨rfl, rfl⟩
 by_cases ha : okA qs a
 rotate_left
 ·rw [decide_eq_false ha]
  simp -implicitDefEqProofs (disch := (first | omega | (simp -implicitDefEqProofs only [szs, ne_eq] <;> omega) | fail)) only [go_sem, seval, ↓reduceIte, reduceCtorEq]
  have : claimV qs S a L = (0, 2) := by unfold claimV; rw [if_neg ha]
  unfold claimA
  rw [this]
  exact ⟨rfl, I, hr, fun k h => .inl h⟩
 rw [decide_eq_true ha]
 simp -implicitDefEqProofs (disch := (first | omega | (simp -implicitDefEqProofs only [szs, ne_eq] <;> omega) | fail)) only [go_sem, seval, ↓reduceIte, reduceCtorEq]
 refine GCall.of (rmay_ok hv (fun b => .inr (hR b))) ?_
 rintro r g' ⟨rfl, rfl⟩
 by_cases hok : okF L
 rotate_left
 ·rw [decide_eq_false hok]
  simp -implicitDefEqProofs (disch := (first | omega | (simp -implicitDefEqProofs only [szs, ne_eq] <;> omega) | fail)) only [go_sem, seval, ↓reduceIte, reduceCtorEq]
  have : claimV qs S a L = (0, 2) := by unfold claimV; rw [if_pos ha, if_neg hok]
  unfold claimA
  rw [this]
  exact ⟨rfl, I, hr, fun k h => .inl h⟩
 rw [decide_eq_true hok]
 simp -implicitDefEqProofs (disch := (first | omega | (simp -implicitDefEqProofs only [szs, ne_eq] <;> omega) | fail)) only [go_sem, seval, ↓reduceIte, reduceCtorEq]
 obtain ⟨i, rfl⟩ : ∃ i : Nat, a = (i : Int) := ⟨a.toNat, by have := ha.1; omega⟩
 have hi : i < qs.length := by have := ha.2; omega
 have hq : qs[i]? = some qs[i] := List.getElem?_eq_getElem hi
 have hqd : qs.getD i 0 = qs[i] := by rw [List.getD_eq_getElem?_getD, hq]; rfl
 generalize qs[i] = q at hq hqd
 have hq16 := hr.qs.2.2 q (List.mem_of_getElem? hq)
 have hcv : claimV qs S (i : Int) L = match freeA S i 0 q with | some n => ((n : Int), 0) | none => (0, 5) := by
  unfold claimV; rw [if_pos ha, if_pos hok, Int.toNat_natCast, hqd]
  cases freeA S i 0 q <;> rfl
 refine GLoop.inv hm (fun k f g => f.mks = [] ∧ f.tm.n = 55 ∧ f.tm.get 0 = some (.ptr (some (rd, 0))) ∧ f.tm.get 1 = some (.int .i64 (i : Int)) ∧ f.tm.get 2 = some v ∧ g = g' ∧ ∃ p : Nat, p + k = q ∧ f.tm.get 8 = some (.int .i64 (p : Int)) ∧ freeA S i 0 q = freeA S i p k) q ?_ ?_
 ·exact ⟨rfl, rfl, by simp -implicitDefEqProofs (disch := (first | omega | (simp -implicitDefEqProofs only [szs, ne_eq] <;> omega) | fail)) only [go_sem, seval, ↓reduceIte], by simp -implicitDefEqProofs (disch := (first | omega | (simp -implicitDefEqProofs only [szs, ne_eq] <;> omega) | fail)) only [go_sem, seval, ↓reduceIte, reduceCtorEq], by simp -implicitDefEqProofs (disch := (first | omega | (simp -implicitDefEqProofs only [szs, ne_eq] <;> omega) | fail)) only [go_sem, seval, ↓reduceIte, reduceCtorEq], rfl, 0, by omega, by simp -implicitDefEqProofs (disch := (first | omega | (simp -implicitDefEqProofs only [szs, ne_eq] <;> omega) | fail)) only [go_sem, Nat.reduceSub, Nat.reduceMod, Nat.reduceDiv, ↓reduceIte, reduceCtorEq]; rfl, rfl⟩
 rintro k ⟨⟨n', tr⟩, mks⟩ g ⟨hmk, hn', t0, t1, t2, rfl, p, hpk, t8, hfree⟩
 simp only [Tm.get_mk] at hmk hn' t0 t1 t2 t8
 subst hmk hn'
 have hRd := hR rd; have hRl := hR (bl i)
 have hz1 : (i : Int) < (qs.length : Int) := ha.2
 have hi0 : (0 : Int) ≤ (i : Int) := ha.1
 have hm0 : (0 : Int) ≤ (p : Int) := by omega
 by_cases hpq : p < q
 rotate_left
 ·have hz2 : ¬ (p : Int) < (q : Int) := by omega
  obtain ⟨c, b, o, cap, ex, cc, ce, c1, c2, c3, c4, c5, c6, _⟩ := hr.acc hi
  have hqi : qs[i] = q := by rw [List.getElem?_eq_getElem hi] at hq; exact Option.some.inj hq
  rw [hqi] at c6
  have hRb := hR b
  obtain rfl : k = 0 := by omega
  have : claimV qs S (i : Int) L = (0, 5) := by rw [hcv, hfree]; rfl
  simp -implicitDefEqProofs (disch := (first | omega | (simp -implicitDefEqProofs only [szs, ne_eq] <;> omega) | fail)) only [go_sem, seval, ↓reduceIte, reduceCtorEq, ir41_l0, t0, t1, t8, c1, c2, c3, c4, c6, hRd, hRb, hz1, hi0, hz2]
  unfold claimA
  rw [this]
  exact ⟨rfl, I, hr, fun k h => .inl h⟩
 obtain ⟨k, rfl⟩ : ∃ k', k = k' + 1 := ⟨k - 1, by omega⟩
 obtain ⟨c, b, o, cap, ex, cc, ce, cb, c1, c2, c3, c4, c5, c6, b1, b2, b3, b4, hsz⟩ := hr.at' hq hpq
 have hRb := hR b
 have hz2 : (p : Int) < (q : Int) := by omega
 have hm4 := b4 p hpq
 cases hS : S i p with
 | some x =>
  rw [hS] at hm4
  have e0 := hm4.1
  simp -implicitDefEqProofs (disch := (first | omega | (simp -implicitDefEqProofs only [szs, ne_eq] <;> omega) | fail)) only [go_sem, seval, ↓reduceIte, reduceCtorEq, ir41_l0, t0, t1, t2, t8, c1, c2, c3, c4, c6, hRd, hRb, hRl, hz1, hi0, hz2, hm0, b1, e0]
  refine ⟨k, by omega, p + 1, by omega, by simp, ?_⟩
  rw [hfree]; simp only [freeA, hS]
 | none =>
  rw [hS] at hm4
  have e0 := hm4.1
  have hcp : claimV qs S (i : Int) L = ((p : Int), 0) := by rw [hcv, hfree]; simp only [freeA, hS]
  have hca : claimA qs S (i : Int) L = updA S i p (some ⟨L, [], 0⟩) := by unfold claimA; rw [hcp]; rfl
  simp -implicitDefEqProofs (disch := (first | omega | (simp -implicitDefEqProofs only [szs, ne_eq] <;> omega) | fail)) only [go_sem, seval, ↓reduceIte, reduceCtorEq, ir41_l0, t0, t1, t2, t8, c1, c2, c3, c4, c6, hRd, hRb, hRl, hz1, hi0, hz2, hm0, b1, e0]
  refine GCallD.of (R' := fun _ => True) (W' := fun _ => False) (rtests_ok (R := fun _ => True) (W := fun _ => False) hv (fun _ _ => trivial) (by have := hok.1; omega)) ?_
  rintro r h1 ⟨ho, hn1, hk1⟩
  have hlb := Heap.lt_of_get b1
  have kk : ∀ {k c}, g.get k = some c → h1.get k = some c := fun {k c} e => (hk1 k (Heap.lt_of_get e)).trans e
  have c1' := kk c1; have c4' := kk c4; have b1' := kk b1
  have hro := ho.lr.one
  have hrc := ho.lr.cells
  have hWl := hW i hi
  simp -implicitDefEqProofs (disch := (first | omega | (simp -implicitDefEqProofs only [szs, ne_eq] <;> omega) | fail)) only [go_sem, seval, ↓reduceIte, undefV, t8, hRd, hRb, hWl, hz2, hm0, b1', b3, ↓hro, ↓hrc]
  rw [hcp, hca]
  obtain ⟨s1, s2, s3, s4, s5, s6, s7⟩ := set4 cb (p * 4) (V.bool true) r (V.slice none 0 0 true) (V.int IntKind.i64 0) _ rfl
  have hlb1 := Heap.lt_of_get b1'
  have kS : ∀ k, k ≠ bl i → (h1.set (bl i) (O.cells ((((cb.set (p * 4) (V.bool true)).set (p * 4 + 1) r).set (p * 4 + 1 + 1) (V.slice none 0 0 true)).set (p * 4 + 1 + 1 + 1) (V.int IntKind.i64 0)) 109)).get k = h1.get k := fun k hk => w_set_ne hlb1 hk _
  have hnb : ∀ k c, h1.get k = some (.cells c 79) → k ≠ bl i := fun k c h e => by rw [e, b1'] at h; cases h
  refine ⟨?_, ⟨fun b _ _ => .inr (hR b), fun b _ h => h.elim⟩, rfl, by simpa using hn1, fun k hk hne => by rw [kS k (hne i hi)]; exact hk1 k hk, fun k => I k ∨ (g.n ≤ k ∧ ∃ c, h1.get k = some (.cells c 79)), (hr.old hk1).put hq hpq b1' (w_set_eq hlb1 rfl _) s1 (s2.trans b3) ⟨s3, ?_, by rw [s5]; exact .inr ⟨[], .inl ⟨rfl, .inl rfl⟩, Nat.le_refl _, rfl, fun i v e => by simp at e⟩, s6⟩ s7 (fun k _ hk => kS k hk) (fun _ h => .inl h) fun k h => h.imp id fun h => ?_, fun k h => h.imp id fun h => h.1⟩
  ·simp only [List.not_mem_nil, or_false, false_or, and_false, false_implies, implies_true, not_false_eq_true, List.mem_cons, and_true]
   and_intros
   all_goals try (intros; omega)
  ·rw [s4]
   exact (LRs.mono ho.lrf fun k _ h => .inr h).same fun k h _ => by
    rcases h with h | ⟨_, c, h⟩
    ·refine kS k fun e => ?_
     obtain ⟨c', e', h1', h2', _⟩ := hr.imm k h
     rw [e, b1] at h1'; cases h1'; exact h2' rfl
    ·exact kS k (hnb k c h)
  ·obtain ⟨_, c, h⟩ := h
   exact ⟨c, 79, by rw [kS k (hnb k c h)]; exact h, by decide, by decide⟩
end Go.Proofs.Ytmimialblhlklaa
namespace Go.Proofs.Ytmimialblhlklaa
open Go Go.Vm
variable {h : Heap} {R W I : Set'} {rd : Nat} {bl : Nat → Nat} {qs : List Nat} {S : AT}
theorem gets_succ (c : Blk) (o n : Nat) : c.gets o (n + 1) = c.get o :: c.gets (o + 1) n := rfl
theorem RingV.cells {v : V} {r : List (List V)} (hv : RingV h I v r) : v.cellsV = [v] := by
 rcases hv with ⟨_, a, l, rfl⟩ | ⟨sl, h3, _⟩
 ·rfl
 ·exact h3.cells
theorem RingV.tail {v : V} {l : List V} {t : List (List V)} (hv : RingV h I v (l :: t)) : ∃ v', sliceV Try.prog 23 v (some 1) none none = some v' ∧ RingV h I v' t := by
 rcases hv with ⟨h0, _⟩ | ⟨sl, h1, h0, h2, h3⟩
 ·cases h0
 cases sl with
 | nil => simp at h2
 | cons w sl =>
  simp only [List.length_cons, Nat.add_right_cancel_iff] at h2
  rcases h1 with ⟨h1, _⟩ | ⟨b, o, cap, ex, c, ce, rfl, hI, hb, hs, hg⟩
  ·cases h1
  simp only [List.length_cons] at hs hg h0
  rw [gets_succ, List.cons.injEq] at hg
  have h0' : sl.length + 1 ≤ cap := h0
  have hbv : boundsV (sl.length + 1) cap (some 1) none none = some (1, sl.length + 1, cap) := by
   simp only [boundsV]
   rw [if_pos (by omega)]; rfl
  have key : ∀ b' o' cap' ex', (o' = o + 1 ∨ sl = [] ∧ o' = o) → sl.length ≤ cap' → b' = b → RingV h I (.slice (some (b', o')) sl.length cap' ex') t := fun b' o' cap' ex' ho hc hb' => by
   subst hb'
   refine .inr ⟨sl, .inr ⟨b', o', cap', ex', c, ce, rfl, hI, hb, ?_, ?_⟩, hc, h2, fun i v e => ?_⟩
   ·rcases ho with rfl | ⟨rfl, rfl⟩
    ·omega
    ·simp only [List.length_nil] at hs ⊢; omega
   ·rcases ho with rfl | ⟨rfl, rfl⟩
    ·exact hg.2
    ·rfl
   ·have := h3 (i + 1) v (by simpa using e)
    simpa using this
  cases ex with
  | true =>
   refine ⟨_, by simp only [sliceV, Try.underlying23, sz_36, hbv, List.length_cons]; rfl, ?_⟩
   simp only [Nat.add_sub_cancel]
   cases hq : Nat.beq cap 1 with
   | true =>
    have := Nat.eq_of_beq_eq_true hq
    have hl : sl.length = 0 := by omega
    exact key _ _ _ _ (.inr ⟨List.length_eq_zero_iff.1 hl, rfl⟩) (by omega) rfl
   | false => exact key _ _ _ _ (.inl rfl) (by omega) rfl
  | false =>
   by_cases hc : 1 < cap
   ·refine ⟨_, by simp only [sliceV, Try.underlying23, sz_36, hbv, List.length_cons]; rw [if_pos ⟨h0', .inl (w_blt_t hc)⟩], ?_⟩
    simp only [Nat.add_sub_cancel]
    exact key _ _ _ _ (.inl rfl) (by omega) rfl
   ·have hl : sl.length = 0 := by omega
    have hc1 : cap = 1 := by omega
    subst hc1
    refine ⟨_, by simp only [sliceV, Try.underlying23, sz_36, hbv, List.length_cons]; rw [if_neg (fun h => by rcases h.2 with h | h <;> simp at h), if_pos ⟨by omega, by omega⟩], .inl ⟨?_, _, _, rfl⟩⟩
    exact List.length_eq_zero_iff.1 (by omega)
set_option maxHeartbeats 4000000 in
theorem rtake_ok (hr : RPorts h I rd bl qs S) (hR : ∀ b, R b) (hW : ∀ a, a < qs.length → W (bl a)) (a n : Int) (look : Bool) : SF Try.prog 45 [.ptr (some (rd, 0)), .int .i64 a, .int .i64 n, .bool look] h R W fun r g => g.n = h.n ∧ (∀ k, (∀ a, a < qs.length → k ≠ bl a) → g.get k = h.get k) ∧ RPorts g I rd bl qs (if look then S else takeA S a n) ∧ ∃ s, r = .tuple [s, .int .i64 (lookEA qs S a n)] ∧ LR g I s (takeB S a n) := by
 refine SF.go hm Try.func45 ir45_eq ?_
 simp -implicitDefEqProofs (disch := (first | omega | fail)) only [go_sem, seval, ↓reduceIte, reduceCtorEq, ir45]
 refine GCall.of (rask_ok hr (fun b => .inr (hR b)) a n) ?_
 rintro r g ⟨rfl, rfl⟩
 by_cases hz : askA qs S a n = 0
 rotate_left
 ·have hz' : (askA qs S a n != 0) = true := by simpa using hz
  have hno := hr.not hz
  have h1 : lookEA qs S a n = askA qs S a n := by unfold lookEA; rw [hno]
  have h2 : takeA S a n = S := by unfold takeA; rw [hno]
  have h3 : takeB S a n = [] := by unfold takeB; rw [hno]
  simp -implicitDefEqProofs (disch := (first | omega | fail)) only [go_sem, seval, ↓reduceIte, reduceCtorEq, hz']
  rw [h1, h2, h3]
  exact ⟨by simpa using hr, _, rfl, .inl ⟨rfl, .inl rfl⟩⟩
 obtain ⟨ha, x, hx⟩ := askA_some hz
 obtain ⟨i, m, rfl, rfl, hS⟩ := lookA_nat hx
 obtain ⟨q, hq, hmq⟩ := hr.dom _ _ _ hS
 have hi : i < qs.length := (List.getElem?_eq_some_iff.1 hq).1
 obtain ⟨c, b, o, cap, ex, cc, ce, cb, c1, c2, c3, c4, c5, c6, b1, b2, b3, b4, hsz⟩ := hr.at' hq hmq
 have hm4 := b4 m hmq
 rw [hS] at hm4
 obtain ⟨p0, p1, p2, p3⟩ := hm4
 have hp2 := p2
 have hsl := p2.lenV
 have o2 := p2.one
 have hRd := hR rd; have hRb := hR b; have hRl := hR (bl i)
 have hWl := hW i hi
 have hz1 : (i : Int) < (qs.length : Int) := ha.2
 have hi0 : (0 : Int) ≤ (i : Int) := ha.1
 have hz2 : (m : Int) < (q : Int) := by omega
 have hm0 : (0 : Int) ≤ (m : Int) := by omega
 have hlb := Heap.lt_of_get b1
 cases hrr : x.ring with
 | nil =>
  have h1 : lookEA qs S (i : Int) (m : Int) = 6 := by unfold lookEA; rw [hx]; simp [hrr]
  have h2 : takeA S (i : Int) (m : Int) = S := by unfold takeA; rw [hx]; simp [hrr]
  have h3 : takeB S (i : Int) (m : Int) = [] := by unfold takeB; rw [hx]; simp [hrr]
  rw [hrr] at hsl
  simp only [List.length_nil] at hsl
  simp -implicitDefEqProofs (disch := (first | omega | fail)) only [go_sem, seval, ↓reduceIte, reduceCtorEq, hz, c1, c2, c3, c4, c6, hRd, hRb, hRl, hz1, hi0, hz2, hm0, b1, ↓hsl]
  rw [h1, h2, h3]
  exact ⟨by simpa using hr, _, rfl, .inl ⟨rfl, .inl rfl⟩⟩
 | cons l t =>
  have h1 : lookEA qs S (i : Int) (m : Int) = 0 := by unfold lookEA; rw [hx]; simp [hrr]
  have h2 : takeA S (i : Int) (m : Int) = updA S i m (some { x with ring := t }) := by unfold takeA; rw [hx]; simp [hrr]
  have h3 : takeB S (i : Int) (m : Int) = l := by unfold takeB; rw [hx]; simp [hrr]
  rw [hrr] at hsl p2
  have hlz : ¬ ((l :: t).length : Int) = 0 := by simp only [List.length_cons]; omega
  have hl0 : (0 : Int) < ((l :: t).length : Int) := by simp only [List.length_cons]; omega
  obtain ⟨b5, o5, cap5, ex5, c5', ce5, w, e5, e5c, hI5, hb5, hs5, hg5, hw5⟩ := p2.at' (i := 0) (by simp)
  rw [Nat.add_zero] at hg5
  have hs5' : o5 < c5'.size := by simp only [List.length_cons] at hs5; omega
  have hwo := hw5.one
  simp only [List.getElem_cons_zero] at hw5
  have hRb5 := hR b5
  obtain ⟨v', hsv, hrv⟩ := p2.tail
  have hvo := hrv.one
  have hvc := hrv.cells
  generalize hml : (l :: t).length = ml at *
  rw [e5] at hsv
  cases look with
  | true =>
   simp -implicitDefEqProofs (disch := (first | omega | fail)) only [go_sem, seval, ↓reduceIte, reduceCtorEq, hz, c1, c2, c3, c4, c6, hRd, hRb, hRl, hz1, hi0, hz2, hm0, b1, hl0, e5, hRb5, hb5, hg5]
   rw [h1, h3]
   exact ⟨by simpa using hr, _, rfl, hw5⟩
  | false =>
   simp -implicitDefEqProofs (disch := (first | omega | fail)) only [go_sem, seval, ↓reduceIte, reduceCtorEq, undefV, hz, c1, c2, c3, c4, c6, hRd, hRb, hRl, hWl, hz1, hi0, hz2, hm0, b1, b3, hl0, e5, hRb5, hb5, hg5, hsv, ↓hvo, ↓hvc]
   rw [h1, h2, h3]
   have kS : ∀ k, k ≠ bl i → (g.set (bl i) (O.cells (cb.set (m * 4 + 2) v') 109)).get k = g.get k := fun k hk => w_set_ne hlb hk _
   have kI : ∀ k, I k → (g.set (bl i) (O.cells (cb.set (m * 4 + 2) v') 109)).get k = g.get k := fun k h4 => kS k fun e => by
    obtain ⟨c', e', h1', h2', _⟩ := hr.imm k h4
    rw [e, b1] at h1'; cases h1'; exact h2' rfl
   refine ⟨fun k hk => kS k (hk i hi), hr.put hq hmq b1 (w_set_eq hlb rfl _) (by rw [Blk.size_set]) (by rw [Blk.ro_set]; exact b3) ⟨?_, ?_, ?_, ?_⟩ (fun j hj => ?_) (fun k _ hk => kS k hk) (fun _ h => h) (fun k h => .inl h), _, rfl, hw5.same fun k h _ => kI k h⟩
   ·rw [Blk.get_set, if_neg (by omega)]; exact p0
   ·rw [Blk.get_set, if_neg (by omega)]; exact LRs.same p1 fun k h _ => kI k h
   ·rw [Blk.get_set, if_pos rfl]; exact hrv.same kI
   ·rw [Blk.get_set, if_neg (by omega)]; exact p3
   ·rw [Blk.get_set, if_neg (by omega)]
end Go.Proofs.Ytmimialblhlklaa
