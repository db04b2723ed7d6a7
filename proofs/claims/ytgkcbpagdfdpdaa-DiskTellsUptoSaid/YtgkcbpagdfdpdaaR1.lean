/- The document's disk: in, Seen, Read, Bytes. -/
import Derived.Test.YtgkcbpagdfdpdaaG
import Derived.Test.YtgkcbpagdfdpdaaIr2
import Derived.Test.YtgkcbpagdfdpdaaV4
set_option linter.unusedVariables false
set_option linter.unusedSimpArgs false
set_option linter.unusedSimpArgs false
set_option maxRecDepth 100000
set_option linter.unusedVariables false
set_option linter.unusedSimpArgs false
namespace Go.Proofs.Ytgkcbpagdfdpdaa
open Go Go.Vm
attribute [-go_sem] sz_67
/-- The document's disk, in the blocks of R. -/
structure RefAt (h : Heap) (R : Set') (rd : Nat) (D : DS) : Prop where
  pos : 1 ≤ D.n ∧ D.n ≤ 4096
  r : R rd
  d : ∃ c fb pb xf xp, h.get rd = some (.cells c 78) ∧ c.size = 3 ∧ c.ro = false ∧ c.get 0 = .slice (some (fb, 0)) D.n D.n xf ∧ c.get 1 = .slice (some (pb, 0)) D.n D.n xp ∧ c.get 2 = .int .i64 D.wr ∧
    R fb ∧ R pb ∧ (∃ cf, h.get fb = some (.cells cf 33) ∧ cf.size = D.n ∧ cf.ro = false ∧ ∀ s, s < D.n → LR h R (cf.get s) (D.fl s)) ∧
    (∃ cp, h.get pb = some (.cells cp 75) ∧ cp.size = D.n ∧ cp.ro = false ∧ ∀ s, s < D.n → ∃ vs, LR h R (cp.get s) vs ∧ vs.length = (D.pe s).length ∧ ∀ i l, (D.pe s)[i]? = some l → LR h R (vs.getD i undefV) l)
  fl : ∀ s, s < D.n → IsSec (D.fl s)
  pe : ∀ s, ∀ l ∈ D.pe s, IsSec l
  out : ∀ s, D.n ≤ s → D.pe s = []
  few : ∀ s, (D.pe s).length ≤ 1000000000
theorem RefAt.same {h h' : Heap} {R : Set'} {rd : Nat} {D : DS} (hr : RefAt h R rd D) (hk : ∀ b, R b → b < h.n → h'.get b = h.get b) : RefAt h' R rd D := by
  obtain ⟨hp, r, ⟨c, fb, pb, xf, xp, d1, d2, d3, d4, d5, d6, rf, rp, ⟨cf, f1, f2, f3, f4⟩, ⟨cp, p1, p2, p3, p4⟩⟩, h1, h2, h3, h4⟩ := hr
  refine ⟨hp, r, ⟨c, fb, pb, xf, xp, by rw [hk _ r (Heap.lt_of_get d1)]; exact d1, d2, d3, d4, d5, d6, rf, rp, ⟨cf, by rw [hk _ rf (Heap.lt_of_get f1)]; exact f1, f2, f3, fun s hs => (f4 s hs).same hk⟩, ⟨cp, by rw [hk _ rp (Heap.lt_of_get p1)]; exact p1, p2, p3, fun s hs => ?_⟩⟩, h1, h2, h3, h4⟩
  obtain ⟨vs, v1, v2, v3⟩ := p4 s hs
  exact ⟨vs, v1.same hk, v2, fun i l e => (v3 i l e).same hk⟩
theorem RefAt.old {h h' : Heap} {R : Set'} {rd : Nat} {D : DS} (hr : RefAt h R rd D) (hk : ∀ b, b < h.n → h'.get b = h.get b) : RefAt h' R rd D := hr.same fun b _ hb => hk b hb
theorem rin_ok {h : Heap} {R W S : Set'} {rd : Nat} {D : DS} (hr : RefAt h S rd D) (hR : ∀ b, R b) (k : Int) : SF Try.prog 45 [.ptr (some (rd, 0)), .int .i64 k] h R W fun v h' => v = .bool (decide (0 ≤ k ∧ k < D.n)) ∧ h' = h := by
  obtain ⟨c, fb, pb, xf, xp, d1, d2, d3, d4, d5, d6, _⟩ := hr.d
  have hRr := hR rd
  have hp := hr.pos
  refine SF.go hm Try.func45 ir45_eq ?_
  by_cases h0 : 0 ≤ k
  · simp -implicitDefEqProofs (disch := (first | omega | (simp -implicitDefEqProofs only [szs, ne_eq] <;> omega) | fail)) only [go_sem, Nat.reduceAdd, Nat.reduceSub, Nat.reduceMul, Nat.reduceLT, Nat.reduceMod, Nat.reduceDiv, Nat.reduceEqDiff, Nat.reduceBEq, Nat.reduceLeDiff, ↓reduceIte, reduceCtorEq, Int.reduceAdd, Int.reduceSub, Int.reduceLT, Int.reduceLE, Int.reduceBEq, Int.reduceEq, Int.reduceToNat, ir45, d1, d2, d4, hRr, undefV]
    congr 1
    exact decide_eq_decide.2 (by omega)
  · simp -implicitDefEqProofs (disch := (first | omega | (simp -implicitDefEqProofs only [szs, ne_eq] <;> omega) | fail)) only [go_sem, Nat.reduceAdd, Nat.reduceSub, Nat.reduceMul, Nat.reduceLT, Nat.reduceMod, Nat.reduceDiv, Nat.reduceEqDiff, Nat.reduceBEq, Nat.reduceLeDiff, ↓reduceIte, reduceCtorEq, Int.reduceAdd, Int.reduceSub, Int.reduceLT, Int.reduceLE, Int.reduceBEq, Int.reduceEq, Int.reduceToNat, ir45, d1, d2, d4, hRr, undefV]
    congr 1
    exact (decide_eq_false (by omega)).symm
theorem rseen_ok {h : Heap} {R W S : Set'} {rd : Nat} {D : DS} (hr : RefAt h S rd D) (hR : ∀ b, R b) {s : Nat} (hs : s < D.n) : SF Try.prog 46 [.ptr (some (rd, 0)), .int .i64 s] h R W fun v h' => LR h S v (D.seen s) ∧ h' = h := by
  obtain ⟨c, fb, pb, xf, xp, d1, d2, d3, d4, d5, d6, _, _, ⟨cf, f1, f2, f3, f4⟩, ⟨cp, p1, p2, p3, p4⟩⟩ := hr.d
  have hp := hr.pos
  have hRr := hR rd
  have hRf := hR fb
  have hRp := hR pb
  have hfew := hr.few s
  obtain ⟨vs, v1, v2, v3⟩ := p4 s hs
  have hlen := v1.lenV Try.underlying75
  rw [v2] at hlen
  refine SF.go hm Try.func46 ir46_eq ?_
  by_cases he : D.pe s = []
  · rw [he, List.length_nil] at hlen
    simp -implicitDefEqProofs (disch := (first | omega | (simp -implicitDefEqProofs only [szs, ne_eq] <;> omega) | fail)) only [go_sem, Nat.reduceAdd, Nat.reduceSub, Nat.reduceMul, Nat.reduceLT, Nat.reduceMod, Nat.reduceDiv, Nat.reduceEqDiff, Nat.reduceBEq, Nat.reduceLeDiff, ↓reduceIte, reduceCtorEq, Int.reduceAdd, Int.reduceSub, Int.reduceLT, Int.reduceLE, Int.reduceBEq, Int.reduceEq, Int.reduceToNat, ir46, d1, d2, d4, d5, p1, p2, f1, f2, hRr, hRf, hRp, ↓hlen, undefV]
    rw [DS.seen_nil he]
    exact f4 s hs
  · have hp0 := List.length_pos_iff.2 he
    have hgs := DS.seen_get he
    obtain ⟨b, o, cap, ex, cc, ce, hv, hRb', hb, hbs, hbg⟩ := v1.get (i := (D.pe s).length - 1) (by omega)
    have h3 := v3 _ _ hgs
    have hRb := hR b
    have hto : (((D.pe s).length : Int) - 1).toNat = (D.pe s).length - 1 := by omega
    rw [v2] at hv hbs
    rw [hv] at hlen
    simp -implicitDefEqProofs (disch := (first | omega | (simp -implicitDefEqProofs only [szs, ne_eq] <;> omega) | fail)) only [go_sem, Nat.reduceAdd, Nat.reduceSub, Nat.reduceMul, Nat.reduceLT, Nat.reduceMod, Nat.reduceDiv, Nat.reduceEqDiff, Nat.reduceBEq, Nat.reduceLeDiff, ↓reduceIte, reduceCtorEq, Int.reduceAdd, Int.reduceSub, Int.reduceLT, Int.reduceLE, Int.reduceBEq, Int.reduceEq, Int.reduceToNat, ir46, d1, d2, d4, d5, p1, p2, f1, f2, hRr, hRf, hRp, hv, ↓hlen, hb, hbs, hRb, hto, undefV]
    rw [hbg]
    exact h3
theorem rread_ok {h : Heap} {R W S : Set'} {rd : Nat} {D : DS} (hr : RefAt h S rd D) (hR : ∀ b, R b) {s : Nat} (hs : s < D.n) : SF Try.prog 39 [.ptr (some (rd, 0)), .int .i64 s] h R W fun v h' => (∃ v', v = .tuple [v', .int .i64 0] ∧ LR h S v' (D.seen s)) ∧ h' = h := by
  refine SF.go hm Try.func39 ir39_eq ?_
  simp -implicitDefEqProofs (disch := (first | omega | (simp -implicitDefEqProofs only [szs, ne_eq] <;> omega) | fail)) only [go_sem, Nat.reduceAdd, Nat.reduceSub, Nat.reduceMul, Nat.reduceLT, Nat.reduceMod, Nat.reduceDiv, Nat.reduceEqDiff, Nat.reduceBEq, Nat.reduceLeDiff, ↓reduceIte, reduceCtorEq, Int.reduceAdd, Int.reduceSub, Int.reduceLT, Int.reduceLE, Int.reduceBEq, Int.reduceEq, Int.reduceToNat, ir39]
  refine GCall.of (rin_ok hr (fun b => .inr (hR b)) s) ?_
  rintro v g ⟨rfl, rfl⟩
  rw [decide_eq_true (show 0 ≤ (s : Int) ∧ (s : Int) < D.n by omega)]
  simp -implicitDefEqProofs (disch := (first | omega | (simp -implicitDefEqProofs only [szs, ne_eq] <;> omega) | fail)) only [go_sem, Nat.reduceAdd, Nat.reduceSub, Nat.reduceMul, Nat.reduceLT, Nat.reduceMod, Nat.reduceDiv, Nat.reduceEqDiff, Nat.reduceBEq, Nat.reduceLeDiff, ↓reduceIte, reduceCtorEq, Int.reduceAdd, Int.reduceSub, Int.reduceLT, Int.reduceLE, Int.reduceBEq, Int.reduceEq, Int.reduceToNat]
  refine GCall.of (rseen_ok hr (fun b => .inr (hR b)) hs) ?_
  rintro v g2 ⟨hv, rfl⟩
  simp -implicitDefEqProofs (disch := (first | omega | (simp -implicitDefEqProofs only [szs, ne_eq] <;> omega) | fail)) only [go_sem, Nat.reduceAdd, Nat.reduceSub, Nat.reduceMul, Nat.reduceLT, Nat.reduceMod, Nat.reduceDiv, Nat.reduceEqDiff, Nat.reduceBEq, Nat.reduceLeDiff, ↓reduceIte, reduceCtorEq, Int.reduceAdd, Int.reduceSub, Int.reduceLT, Int.reduceLE, Int.reduceBEq, Int.reduceEq, Int.reduceToNat]
  exact ⟨v, rfl, hv⟩
theorem rread_bad {h : Heap} {R W S : Set'} {rd : Nat} {D : DS} (hr : RefAt h S rd D) (hR : ∀ b, R b) {k : Int} (hk : ¬ (0 ≤ k ∧ k < D.n)) : SF Try.prog 39 [.ptr (some (rd, 0)), .int .i64 k] h R W fun v h' => v = .tuple [.slice none 0 0 true, .int .i64 2] ∧ h' = h := by
  refine SF.go hm Try.func39 ir39_eq ?_
  simp -implicitDefEqProofs (disch := (first | omega | (simp -implicitDefEqProofs only [szs, ne_eq] <;> omega) | fail)) only [go_sem, Nat.reduceAdd, Nat.reduceSub, Nat.reduceMul, Nat.reduceLT, Nat.reduceMod, Nat.reduceDiv, Nat.reduceEqDiff, Nat.reduceBEq, Nat.reduceLeDiff, ↓reduceIte, reduceCtorEq, Int.reduceAdd, Int.reduceSub, Int.reduceLT, Int.reduceLE, Int.reduceBEq, Int.reduceEq, Int.reduceToNat, ir39]
  refine GCall.of (rin_ok hr (fun b => .inr (hR b)) k) ?_
  rintro v g ⟨rfl, rfl⟩
  rw [decide_eq_false hk]
  simp -implicitDefEqProofs (disch := (first | omega | (simp -implicitDefEqProofs only [szs, ne_eq] <;> omega) | fail)) only [go_sem, Nat.reduceAdd, Nat.reduceSub, Nat.reduceMul, Nat.reduceLT, Nat.reduceMod, Nat.reduceDiv, Nat.reduceEqDiff, Nat.reduceBEq, Nat.reduceLeDiff, ↓reduceIte, reduceCtorEq, Int.reduceAdd, Int.reduceSub, Int.reduceLT, Int.reduceLE, Int.reduceBEq, Int.reduceEq, Int.reduceToNat]
theorem sec_int {l : List V} (h : IsSec l) : allOne l = true := h.one
set_option maxHeartbeats 1000000 in
theorem rbytes_ok {h : Heap} {R W S : Set'} {rd : Nat} {D : DS} (hr : RefAt h S rd D) (hR : ∀ b, R b) : SF Try.prog 36 [.ptr (some (rd, 0))] h R W fun v h' => Own h.n h' v (flatF D.fl D.n) 5 ∧ ∀ b, b < h.n → h'.get b = h.get b := by
  obtain ⟨c, fb, pb, xf, xp, d1, d2, d3, d4, d5, d6, _, _, ⟨cf, f1, f2, f3, f4⟩, _⟩ := hr.d
  have hp := hr.pos
  have hRr := hR rd
  have hRf := hR fb
  have hlt1 := Heap.lt_of_get d1
  have hlt2 := Heap.lt_of_get f1
  have hN := secN_eq
  refine SF.go hm Try.func36 ir36_eq ?_
  simp -implicitDefEqProofs (disch := (first | omega | (simp -implicitDefEqProofs only [szs, ne_eq] <;> omega) | fail)) only [go_sem, Nat.reduceAdd, Nat.reduceSub, Nat.reduceMul, Nat.reduceLT, Nat.reduceMod, Nat.reduceDiv, Nat.reduceEqDiff, Nat.reduceBEq, Nat.reduceLeDiff, ↓reduceIte, reduceCtorEq, Int.reduceAdd, Int.reduceSub, Int.reduceLT, Int.reduceLE, Int.reduceBEq, Int.reduceEq, Int.reduceToNat, ir36]
  refine GLoop.inv hm (fun k f g => f.mks = [] ∧ f.tm.n = 26 ∧ f.tm.get 0 = some (.ptr (some (rd, 0))) ∧ ∃ (i : Nat) (v : V), i + k = D.n ∧ f.tm.get 4 = some (.int .i64 i) ∧ f.tm.get 3 = some v ∧ h.n ≤ g.n ∧ Own h.n g v (flatF D.fl i) 5 ∧ ∀ b, b < h.n → g.get b = h.get b) D.n ?_ ?_
  · exact ⟨rfl, rfl, by simp -implicitDefEqProofs (disch := (first | omega | (simp -implicitDefEqProofs only [szs, ne_eq] <;> omega) | fail)) only [go_sem, Nat.reduceAdd, Nat.reduceSub, Nat.reduceMul, Nat.reduceLT, Nat.reduceMod, Nat.reduceDiv, Nat.reduceEqDiff, Nat.reduceBEq, Nat.reduceLeDiff, ↓reduceIte, reduceCtorEq, Int.reduceAdd, Int.reduceSub, Int.reduceLT, Int.reduceLE, Int.reduceBEq, Int.reduceEq, Int.reduceToNat], 0, _, by omega, by simp -implicitDefEqProofs (disch := (first | omega | (simp -implicitDefEqProofs only [szs, ne_eq] <;> omega) | fail)) only [go_sem, Nat.reduceAdd, Nat.reduceSub, Nat.reduceMul, Nat.reduceLT, Nat.reduceMod, Nat.reduceDiv, Nat.reduceEqDiff, Nat.reduceBEq, Nat.reduceLeDiff, ↓reduceIte, reduceCtorEq, Int.reduceAdd, Int.reduceSub, Int.reduceLT, Int.reduceLE, Int.reduceBEq, Int.reduceEq, Int.reduceToNat]; rfl, by simp -implicitDefEqProofs (disch := (first | omega | (simp -implicitDefEqProofs only [szs, ne_eq] <;> omega) | fail)) only [go_sem, Nat.reduceAdd, Nat.reduceSub, Nat.reduceMul, Nat.reduceLT, Nat.reduceMod, Nat.reduceDiv, Nat.reduceEqDiff, Nat.reduceBEq, Nat.reduceLeDiff, ↓reduceIte, reduceCtorEq, Int.reduceAdd, Int.reduceSub, Int.reduceLT, Int.reduceLE, Int.reduceBEq, Int.reduceEq, Int.reduceToNat], Nat.le_refl _, Own.nil _ _ _, fun _ _ => rfl⟩
  rintro k ⟨⟨n', tr⟩, mks⟩ g ⟨hmk, hn', t0, i, v, hi, t4, t3, hgn, ho, hold⟩
  simp only [Tm.get_mk] at hmk hn' t0 t4 t3
  subst hmk hn'
  have d1' := (hold _ hlt1).trans d1
  have f1' := (hold _ hlt2).trans f1
  by_cases hin : i < D.n
  · have hs := hr.fl i hin
    have hfl := flatF_len (f := D.fl) (n := i) fun s h => hr.fl s (by omega)
    have hsl := hs.1
    obtain ⟨hx1, rs, hx2, _⟩ := first_lr ((f4 i hin).old hold)
    obtain ⟨v', g', r', w', hap, o', m', k', hw', _⟩ := app_own (bytes := 1) ho hgn hx1 hx2 hs.one (by omega) (by omega)
    have hr0 : allB (fun b => h.n ≤ b ∨ R b) r' := allB_of fun b _ => .inr (hR b)
    have hw0 : allB (fun b => h.n ≤ b ∨ W b) w' := allB_of fun b hb => .inl (hw' b hb)
    simp -implicitDefEqProofs (disch := (first | omega | (simp -implicitDefEqProofs only [szs, ne_eq] <;> omega) | fail)) only [go_sem, Nat.reduceAdd, Nat.reduceSub, Nat.reduceMul, Nat.reduceLT, Nat.reduceMod, Nat.reduceDiv, Nat.reduceEqDiff, Nat.reduceBEq, Nat.reduceLeDiff, ↓reduceIte, reduceCtorEq, Int.reduceAdd, Int.reduceSub, Int.reduceLT, Int.reduceLE, Int.reduceBEq, Int.reduceEq, Int.reduceToNat, ir36_l0, t0, t3, t4, d1', d2, d4, f1', f2, hRr, hRf, appendV_of ap_33, hap, hr0, hw0]
    exact ⟨k - 1, by omega, i + 1, _, by omega, rfl, rfl, by omega, o', fun b hb => by rw [k' b hb, hold b hb]⟩
  · obtain rfl : i = D.n := by omega
    simp -implicitDefEqProofs (disch := (first | omega | (simp -implicitDefEqProofs only [szs, ne_eq] <;> omega) | fail)) only [go_sem, Nat.reduceAdd, Nat.reduceSub, Nat.reduceMul, Nat.reduceLT, Nat.reduceMod, Nat.reduceDiv, Nat.reduceEqDiff, Nat.reduceBEq, Nat.reduceLeDiff, ↓reduceIte, reduceCtorEq, Int.reduceAdd, Int.reduceSub, Int.reduceLT, Int.reduceLE, Int.reduceBEq, Int.reduceEq, Int.reduceToNat, ir36_l0, t0, t3, t4, d1', d2, d4, hRr]
    exact ⟨ho, hold⟩
end Go.Proofs.Ytgkcbpagdfdpdaa
