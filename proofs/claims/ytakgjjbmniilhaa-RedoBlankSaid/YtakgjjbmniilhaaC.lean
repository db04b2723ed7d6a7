/- The log: heads put and taken. -/
import Derived.Test.YtakgjjbmniilhaaB
set_option linter.unusedVariables false
set_option linter.unusedSimpArgs false
set_option linter.unusedSimpArgs false
set_option maxRecDepth 100000
set_option linter.unusedVariables false
set_option linter.unusedSimpArgs false
namespace Go.Proofs.Ytakgjjbmniilhaa
open Go Go.Vm
variable {h : Heap} {R W : Set'}
def Hd.v (H : Hd) : List V := [.int .u64 (H.ep : Int), .int .u64 (H.si : Int), .int .u64 (H.ha : Int), .int .u64 (H.sz : Int), .int .u64 (H.fi : Int)]
def Hd.Lt (H : Hd) : Prop := H.ep < 18446744073709551616 ∧ H.si < 18446744073709551616 ∧ H.ha < 18446744073709551616 ∧ H.sz < 18446744073709551616 ∧ H.fi < 18446744073709551616
theorem LR.push (g : Heap) (l : List V) (e : TypeId) : LR (g.push (.cells (Blk.of l) e)) (fun k => k = g.n) (.slice (some (g.n, 0)) l.length l.length true) l := .inr ⟨g.n, 0, _, _, _, e, rfl, rfl, w_push_eq rfl _, by simp [Blk.of], by
  apply List.ext_getElem?
  intro j
  by_cases hj : j < l.length
  · rw [Blk.gets_get _ _ _ _ hj, Nat.zero_add, Blk.get_of _ _ hj, List.getElem?_eq_getElem hj]
    simp [hj]
  · rw [List.getElem?_eq_none (by rw [Blk.length_gets]; omega), List.getElem?_eq_none (by omega)]⟩
theorem PLs.of {g : Heap} {S : Set'} {vs : List V} {ll : List (List V)} {e : TypeId} (hl : vs.length = ll.length) (h : ∀ i l, ll[i]? = some l → LR g S (vs.getD i undefV) l) : PLs (g.push (.cells (Blk.of vs) e)) (fun k => k = g.n ∨ S k) (.slice (some (g.n, 0)) vs.length vs.length true) ll :=
  ⟨vs, (LR.push g vs e).mono fun b _ hb => .inl hb, hl, fun i l e => ((h i l e).old fun b hb => w_push_ne (by omega) _).mono fun b _ hb => .inr hb⟩
def noW : Set' := fun _ => False
def allR : Set' := fun _ => True
set_option maxHeartbeats 4000000 in
theorem put_ok {H : Hd} (hH : H.Lt) (hR : ∀ b, R b) : SF Try.prog 71 [.agg H.v] h R W fun r g => Own h.n g r (putH H) 5 ∧ ∀ b, b < h.n → g.get b = h.get b := by
  obtain ⟨l1, l2, l3, l4, l5⟩ := hH
  have C : ∀ {g : Heap} {n : Nat}, n < 18446744073709551616 → SF Try.prog 93 [.int .u64 (n : Int)] g allR noW fun r g' => LR g' (fun b => g.n ≤ b) r (leb n) ∧ g.n ≤ g'.n ∧ ∀ b, b < g.n → g'.get b = g.get b := fun hn => SF.mono ((number_ok hn (fun _ => trivial)).kept.foot (fun _ h => h) (fun _ h => h)) fun r g' hq => ⟨hq.1.1, hq.2.n, hq.1.2⟩
  refine SF.go hm Try.func71 ir71_eq ?_
  unfold Hd.v
  have e71 : (71 : Int) = ((71 : Nat) : Int) := rfl
  simp -implicitDefEqProofs (disch := (first | omega | (simp -implicitDefEqProofs only [szs, ne_eq] <;> omega) | fail)) only [go_sem, seval, ↓reduceIte, reduceCtorEq, ir71, undefV]
  rw [e71]
  refine GCallD.of (C (by omega)) ?_
  rintro r1 g1 ⟨o1, n1, k1⟩
  simp only [Heap.n_push] at n1 k1 o1
  have hb : g1.get h.n = some (.cells (Blk.of [.int .u64 (H.ep : Int), .int .u64 (H.si : Int), .int .u64 (H.ha : Int), .int .u64 (H.sz : Int), .int .u64 (H.fi : Int)]) 44) := by rw [k1 _ (by omega)]; exact w_push_eq rfl _
  simp -implicitDefEqProofs (disch := (first | omega | (simp -implicitDefEqProofs only [szs, ne_eq] <;> omega) | fail)) only [go_sem, seval, ↓reduceIte, reduceCtorEq, undefV, hb]
  refine GCallD.of (C l1) ?_
  rintro r2 g2 ⟨o2, n2, k2⟩
  have hb2 := (k2 h.n (by omega)).trans hb
  simp -implicitDefEqProofs (disch := (first | omega | (simp -implicitDefEqProofs only [szs, ne_eq] <;> omega) | fail)) only [go_sem, seval, ↓reduceIte, reduceCtorEq, undefV, hb2]
  refine GCallD.of (C l2) ?_
  rintro r3 g3 ⟨o3, n3, k3⟩
  have hb3 := (k3 h.n (by omega)).trans hb2
  simp -implicitDefEqProofs (disch := (first | omega | (simp -implicitDefEqProofs only [szs, ne_eq] <;> omega) | fail)) only [go_sem, seval, ↓reduceIte, reduceCtorEq, undefV, hb3]
  refine GCallD.of (C l3) ?_
  rintro r4 g4 ⟨o4, n4, k4⟩
  have hb4 := (k4 h.n (by omega)).trans hb3
  simp -implicitDefEqProofs (disch := (first | omega | (simp -implicitDefEqProofs only [szs, ne_eq] <;> omega) | fail)) only [go_sem, seval, ↓reduceIte, reduceCtorEq, undefV, hb4]
  refine GCallD.of (C l4) ?_
  rintro r5 g5 ⟨o5, n5, k5⟩
  have hb5 := (k5 h.n (by omega)).trans hb4
  simp -implicitDefEqProofs (disch := (first | omega | (simp -implicitDefEqProofs only [szs, ne_eq] <;> omega) | fail)) only [go_sem, seval, ↓reduceIte, reduceCtorEq, undefV, hb5]
  refine GCallD.of (C l5) ?_
  rintro r6 g6 ⟨o6, n6, k6⟩
  have hb6 := (k6 h.n (by omega)).trans hb5
  have q5 := o5.old k6
  have q4 := (o4.old k5).old k6
  have q3 := ((o3.old k4).old k5).old k6
  have q2 := (((o2.old k3).old k4).old k5).old k6
  have q1 := ((((o1.old k2).old k3).old k4).old k5).old k6
  have one1 := q1.one
  have one2 := q2.one
  have one3 := q3.one
  have one4 := q4.one
  have one5 := q5.one
  have one6 := o6.one
  have c1 := q1.cells
  have c2 := q2.cells
  have c3 := q3.cells
  have c4 := q4.cells
  have c5 := q5.cells
  have c6 := o6.cells
  simp -implicitDefEqProofs (disch := (first | omega | (simp -implicitDefEqProofs only [szs, ne_eq] <;> omega) | fail)) only [go_sem, seval, ↓reduceIte, reduceCtorEq, undefV, ↓one1, ↓one2, ↓one3, ↓one4, ↓one5, ↓one6, ↓c1, ↓c2, ↓c3, ↓c4, ↓c5, ↓c6]
  have hp := PLs.of (g := g6) (S := fun b => h.n ≤ b) (vs := [r1, r2, r3, r4, r5, r6]) (ll := H.l.map leb) (e := 22) rfl fun i l hi => by
    have : i < 6 := by
      have := (List.getElem?_eq_some_iff.1 hi).1
      simpa [Hd.l] using this
    have hh : i = 0 ∨ i = 1 ∨ i = 2 ∨ i = 3 ∨ i = 4 ∨ i = 5 := by omega
    rcases hh with rfl | rfl | rfl | rfl | rfl | rfl <;> cases hi
    · exact q1.mono fun b _ hb => by omega
    · exact q2.mono fun b _ hb => by omega
    · exact q3.mono fun b _ hb => by omega
    · exact q4.mono fun b _ hb => by omega
    · exact q5.mono fun b _ hb => by omega
    · exact o6.mono fun b _ hb => by omega
  have hj : (joinB H).length ≤ 60 := joinB_len H
  refine GCallD.of (SF.foot (join_ok (R := allR) (W := noW) hp (fun _ => trivial) (by simp [Hd.l]) (by show (joinB H).length ≤ _; omega) (fun l hl => by
    obtain ⟨n, _, rfl⟩ := List.mem_map.1 hl
    exact byt_leb n)).kept (fun _ h => h) (fun _ h => h)) ?_
  rintro r7 g7 ⟨⟨o7, k7⟩, vf7⟩
  have n7 := vf7.n
  simp only [Heap.n_push] at n7 k7 o7
  simp -implicitDefEqProofs (disch := (first | omega | (simp -implicitDefEqProofs only [szs, ne_eq] <;> omega) | fail)) only [go_sem, seval, ↓reduceIte, reduceCtorEq, undefV]
  refine GCallD.of (SF.foot (sector_ok (R := allR) (W := noW) o7.lr (fun _ => trivial) (by show (joinB H).length ≤ _; omega) (byt_joinB H)) (fun _ h => h) (fun _ h => h)) ?_
  rintro r8 g8 ⟨o8, n8, k8⟩
  simp -implicitDefEqProofs (disch := (first | omega | (simp -implicitDefEqProofs only [szs, ne_eq] <;> omega) | fail)) only [go_sem, seval, ↓reduceIte, reduceCtorEq, undefV]
  simp only [noW, List.not_mem_nil, or_false, false_or, and_false, false_and, false_implies, implies_true, not_false_eq_true, List.mem_singleton, List.mem_cons, and_true, true_and, forall_const]
  refine ⟨by and_intros <;> (intros; omega), by and_intros <;> (intros; exact .inr (hR _)), o8.mono (by omega), fun b hb => ?_⟩
  rw [k8 b (by omega), k7 b (by omega), w_push_ne (by omega), k6 b (by omega), k5 b (by omega), k4 b (by omega), k3 b (by omega), k2 b (by omega), k1 b (by omega), w_push_ne (by omega)]
structure RdAt (h : Heap) (b nb : Nat) (l : List V) (a : Nat) : Prop where
  cl : ∃ c, h.get b = some (.cells c 168) ∧ c.size = 2 ∧ c.ro = false ∧ c.get 0 = .slice (some (nb, 0)) l.length (l.length + 1) true ∧ c.get 1 = .int .i64 (a : Int)
  bf : ∃ c, h.get nb = some (.cells c 5) ∧ c.size = l.length + 1 ∧ c.gets 0 l.length = l
  ne : nb ≠ b
theorem RdAt.old {g : Heap} {b nb a : Nat} {l : List V} (hr : RdAt h b nb l a) (hk : ∀ k, k < h.n → g.get k = h.get k) : RdAt g b nb l a := by
  obtain ⟨⟨c, h1, h2⟩, ⟨c', h3, h4⟩, h5⟩ := hr
  exact ⟨⟨c, (hk _ (Heap.lt_of_get h1)).trans h1, h2⟩, ⟨c', (hk _ (Heap.lt_of_get h3)).trans h3, h4⟩, h5⟩
theorem rthere_ok {b nb a : Nat} {l : List V} (hr : RdAt h b nb l a) (hR : ∀ b, R b) : SF Try.prog 100 [.ptr (some (b, 0))] h R W fun r g => r = .bool true ∧ g = h := by
  obtain ⟨⟨c, hb, hs, _, hc, _⟩, _⟩ := hr
  have hRb := hR b
  refine SF.go hm Try.func100 ir100_eq ?_
  simp -implicitDefEqProofs (disch := (first | omega | (simp -implicitDefEqProofs only [szs, ne_eq] <;> omega) | fail)) only [go_sem, seval, ↓reduceIte, reduceCtorEq, ir100, hb, hc, hRb, undefV]
theorem ropen_ok {S : Set'} {v : V} {l : List V} (hv : LR h S v l) (hR : ∀ b, R b) (hl : l.length ≤ 1000) (hb : Byt l) : SF Try.prog 89 [v] h R W fun r g => ∃ b nb, r = .ptr (some (b, 0)) ∧ RdAt g b nb l 0 ∧ h.n ≤ b ∧ h.n ≤ nb ∧ h.n ≤ g.n ∧ ∀ k, k < h.n → g.get k = h.get k := by
  have hlen := hv.lenV Try.underlying22
  have h0 : (0 : Int) ≤ (l.length : Int) + 1 := by omega
  have e1 : ((l.length : Int) + 1).toNat = l.length + 1 := by omega
  obtain ⟨hx, rs, hf, _⟩ := first_lr (hv.old (h' := h.push (.cells (Blk.rep (l.length + 1) [V.int .u8 0]) 5)) fun b hb => w_push_ne (by omega) _)
  obtain ⟨v', g', r', w', hap, hb', hn', hk', hw'⟩ := app_buf (cap := l.length + 1) (nb := h.n) (n2 := h.n) (l := []) (v := .slice (some (h.n, 0)) 0 (l.length + 1) true) (h := h.push (.cells (Blk.rep (l.length + 1) [V.int .u8 0]) 5)) ⟨by simp, _, rfl, w_push_eq rfl _, rfl, rfl, rfl⟩ hx hf hb.allOne (by simp only [List.length_nil]; omega)
  have hr : allB (fun b => h.n ≤ b ∨ R b) r' := allB_of fun b _ => .inr (hR b)
  have hw : allB (fun b => h.n ≤ b ∨ W b) w' := allB_of fun b hb => .inl (by rw [hw' b hb]; exact Nat.le_refl _)
  simp only [Heap.n_push] at hn'
  obtain ⟨hl', c, rfl, h1, h2, h3, h4⟩ := hb'
  rw [List.nil_append] at hap h4
  refine SF.go hm Try.func89 ir89_eq ?_
  have hA : l.length ≤ 281474976710655 := by omega
  have hB : (l.length : Int) + 1 ≤ 9223372036854775807 := by omega
  simp -implicitDefEqProofs (disch := (first | omega | (simp -implicitDefEqProofs only [szs, ne_eq] <;> omega) | fail)) only [go_sem, seval, ↓reduceIte, reduceCtorEq, ir89, ↓hlen, h0, e1, hA, hB, appendV_of ap_22, hap, undefV]
  refine ⟨hr, hw, _, h.n, rfl, ⟨⟨_, w_push_eq rfl _, rfl, rfl, rfl, rfl⟩, ⟨c, ?_, h2, ?_⟩, by omega⟩, by omega, by omega, by omega, fun k hk => ?_⟩
  · rw [w_push_ne (by omega)]; exact h1
  · exact h4
  · rw [w_push_ne (by omega), hk' k (by omega), w_push_ne (by omega)]
set_option maxHeartbeats 4000000 in
theorem rnum_ok {b nb a : Nat} {l : List V} (hr : RdAt h b nb l a) (hR : ∀ b, R b) (hW : W b) (hl : l.length ≤ 1000) (hb : Byt l) (ha : a ≤ l.length) : SF Try.prog 90 [.ptr (some (b, 0))] h R W fun r g => (∀ k, k < h.n → k ≠ b → g.get k = h.get k) ∧ g.n = h.n ∧ match rd (l.drop a) with
    | some (n, t) => r = .tuple [.int .u64 (n : Int), .int .i64 0] ∧ ∃ a', a' ≤ l.length ∧ l.drop a' = t ∧ RdAt g b nb l a'
    | none => r = .tuple [.int .u64 0, .int .i64 4] := by
  obtain ⟨⟨c, h1, h2, h3, h4, h5⟩, ⟨c', h6, h7, h8⟩, h9⟩ := hr
  have hRb := hR b
  have hRn := hR nb
  refine SF.go hm Try.func90 ir90_eq ?_
  simp -implicitDefEqProofs (disch := (first | omega | (simp -implicitDefEqProofs only [szs, ne_eq] <;> omega) | fail)) only [go_sem, seval, ↓reduceIte, reduceCtorEq, ir90, undefV]
  refine GCall.of (rthere_ok ⟨⟨c, h1, h2, h3, h4, h5⟩, ⟨c', h6, h7, h8⟩, h9⟩ (fun b => .inr (hR b))) ?_
  rintro r g ⟨rfl, rfl⟩
  simp -implicitDefEqProofs (disch := (first | omega | (simp -implicitDefEqProofs only [szs, ne_eq] <;> omega) | fail)) only [go_sem, seval, ↓reduceIte, reduceCtorEq, undefV, h1, h5, hRb]
  refine GLoop.inv hm (fun k f g' => f.mks = [] ∧ f.tm.n = 61 ∧ g' = g ∧ f.tm.get 0 = some (.ptr (some (b, 0))) ∧ ∃ (p s m : Nat), p + k = l.length ∧ f.tm.get 4 = some (.int .u64 (m : Int)) ∧ f.tm.get 5 = some (.int .i64 (p : Int)) ∧ f.tm.get 6 = some (.int .u64 (s : Int)) ∧ m < 2 ^ s ∧ (∃ j, s = 7 * j ∧ j ≤ 9) ∧ rdB s m (l.drop p) = rd (l.drop a)) (l.length - a) ?_ ?_
  · exact ⟨rfl, rfl, rfl, by simp -implicitDefEqProofs (disch := (first | omega | (simp -implicitDefEqProofs only [szs, ne_eq] <;> omega) | fail)) only [go_sem, seval, ↓reduceIte, reduceCtorEq], a, 0, 0, by omega, by simp -implicitDefEqProofs (disch := (first | omega | (simp -implicitDefEqProofs only [szs, ne_eq] <;> omega) | fail)) only [go_sem, Nat.reduceAdd, Nat.reduceSub, Nat.reduceMul, Nat.reduceLT, Nat.reduceMod, Nat.reduceDiv, Nat.reduceEqDiff, Nat.reduceBEq, Nat.reduceLeDiff, ↓reduceIte, reduceCtorEq, Int.reduceAdd, Int.reduceSub, Int.reduceLT, Int.reduceLE, Int.reduceBEq, Int.reduceEq, Int.reduceToNat]; rfl, by simp -implicitDefEqProofs (disch := (first | omega | (simp -implicitDefEqProofs only [szs, ne_eq] <;> omega) | fail)) only [go_sem, seval, ↓reduceIte, reduceCtorEq], by simp -implicitDefEqProofs (disch := (first | omega | (simp -implicitDefEqProofs only [szs, ne_eq] <;> omega) | fail)) only [go_sem, Nat.reduceAdd, Nat.reduceSub, Nat.reduceMul, Nat.reduceLT, Nat.reduceMod, Nat.reduceDiv, Nat.reduceEqDiff, Nat.reduceBEq, Nat.reduceLeDiff, ↓reduceIte, reduceCtorEq, Int.reduceAdd, Int.reduceSub, Int.reduceLT, Int.reduceLE, Int.reduceBEq, Int.reduceEq, Int.reduceToNat]; rfl, by decide, ⟨0, rfl, by omega⟩, rfl⟩
  rintro k ⟨⟨n', tr⟩, mks⟩ g' ⟨hmk, hn', rfl, t0, p, s, m, hpk, t4, t5, t6, hms, ⟨j, hj, hj9⟩, hrd⟩
  simp only [Tm.get_mk] at hmk hn' t0 t4 t5 t6
  subst hmk hn'
  by_cases hp : p < l.length
  rotate_left
  · have hc : ¬ (p : Int) < (l.length : Int) := by omega
    rw [List.drop_eq_nil_of_le (by omega)] at hrd
    simp -implicitDefEqProofs (disch := (first | omega | (simp -implicitDefEqProofs only [szs, ne_eq] <;> omega) | fail)) only [go_sem, seval, ↓reduceIte, reduceCtorEq, ir90_l0, undefV, t0, t4, t5, t6, h1, h4, hRb, hc]
    rw [← hrd]; trivial
  have hc : (p : Int) < (l.length : Int) := by omega
  have hp0 : (0 : Int) ≤ (p : Int) := by omega
  obtain ⟨hb1, hb2⟩ := bN_lt hb (List.getElem_mem hp)
  obtain ⟨n, hn⟩ : ∃ n, n = bN l[p] := ⟨_, rfl⟩
  rw [← hn] at hb1 hb2
  have hcp : c'.get p = .int .u8 (n : Int) := by
    have := Blk.gets_get c' l.length 0 p hp
    rw [h8, List.getElem?_eq_getElem hp, Nat.zero_add] at this
    rw [← Option.some.inj this]; exact hb2
  rw [List.drop_eq_getElem_cons hp] at hrd
  simp only [rdB, ← hn] at hrd
  by_cases hbad : (s = 63 ∧ 1 < n) ∨ (0 < s ∧ n = 0)
  · rw [if_pos hbad] at hrd
    have fin : match rd (l.drop a) with
      | some (n, t) => V.tuple [.int .u64 0, .int .i64 4] = .tuple [.int .u64 (n : Int), .int .i64 0] ∧ ∃ a', a' ≤ l.length ∧ l.drop a' = t ∧ RdAt g' b nb l a'
      | none => True := by rw [← hrd]; trivial
    by_cases h63 : s = 63
    · have q63 : ((s : Int) = 63) := by omega
      by_cases h1n : 1 < n
      · have q1 : (1 : Int) < (n : Int) := by omega
        simp -implicitDefEqProofs (disch := (first | omega | (simp -implicitDefEqProofs only [szs, ne_eq] <;> omega) | fail)) only [go_sem, seval, ↓reduceIte, reduceCtorEq, ir90_l0, undefV, t0, t4, t5, t6, h1, h4, hRb, hc, hp0, h6, hRn, hcp, q63, q1]
        exact fin
      · have q1 : ¬ (1 : Int) < (n : Int) := by omega
        have q0 : (n : Int) = 0 := by omega
        simp -implicitDefEqProofs (disch := (first | omega | (simp -implicitDefEqProofs only [szs, ne_eq] <;> omega) | fail)) only [go_sem, seval, ↓reduceIte, reduceCtorEq, ir90_l0, undefV, t0, t4, t5, t6, h1, h4, hRb, hc, hp0, h6, hRn, hcp, q63, q1, q0]
        exact fin
    · have q63 : ¬ ((s : Int) = 63) := by omega
      have qs : (0 : Int) < (s : Int) := by omega
      have q0 : (n : Int) = 0 := by omega
      simp -implicitDefEqProofs (disch := (first | omega | (simp -implicitDefEqProofs only [szs, ne_eq] <;> omega) | fail)) only [go_sem, seval, ↓reduceIte, reduceCtorEq, ir90_l0, undefV, t0, t4, t5, t6, h1, h4, hRb, hc, hp0, h6, hRn, hcp, q63, qs, q0]
      exact fin
  rw [if_neg hbad] at hrd
  have hs64 : s < 64 := by omega
  have hand := and127 n hb1
  have hm64 : m < 18446744073709551616 := Nat.lt_of_lt_of_le hms (Nat.pow_le_pow_right (by omega) (show s ≤ 64 by omega))
  have hx : n % 128 * 2 ^ s < 18446744073709551616 := by
    by_cases h63 : s = 63
    · subst h63
      have : n ≤ 1 := by omega
      have : n % 128 ≤ 1 := by omega
      simp; omega
    · have h1 : 2 ^ s ≤ 2 ^ 56 := Nat.pow_le_pow_right (by omega) (by omega)
      have h2 : n % 128 ≤ 127 := by omega
      have := Nat.mul_le_mul h2 h1
      simp at this ⊢; omega
  have hsh := shl64 (n % 128) s hs64 hx
  have hor := or64 m (n % 128 * 2 ^ s) hm64 hx
  rw [or_add hms] at hor
  have hw5 : IntKind.u64.wrap ((n % 128 : Nat) : Int) = ((n % 128 : Nat) : Int) := wrap64 (by omega)
  have qA : ¬ ((s : Int) = 63 ∧ (1 : Int) < (n : Int)) := by omega
  by_cases h128 : n < 128
  · rw [if_pos h128] at hrd
    have q128 : (n : Int) < 128 := by omega
    by_cases hs0 : 0 < s
    · have qs : (0 : Int) < (s : Int) := by omega
      have q0 : ¬ (n : Int) = 0 := by omega
      by_cases h63 : s = 63
      · have q63 : (s : Int) = 63 := by omega
        have q1 : ¬ (1 : Int) < (n : Int) := by omega
        have hsh' := hsh
        rw [q63] at hsh'
        simp -implicitDefEqProofs (disch := (first | omega | (simp -implicitDefEqProofs only [szs, ne_eq] <;> omega) | fail)) only [go_sem, seval, ↓reduceIte, reduceCtorEq, ir90_l0, undefV, t0, t4, t5, t6, h1, h2, h3, h4, hRb, hW, hc, hp0, h6, hRn, hcp, q63, q1, qs, q0, q128, ↓hand, ↓hsh', ↓hor, hw5]
        exact ⟨fun k _ hk => w_set_ne (Heap.lt_of_get h1) hk _, by
          rw [← hrd]
          exact ⟨rfl, p + 1, by omega, rfl, ⟨⟨_, w_set_eq (Heap.lt_of_get h1) rfl _, by rw [Blk.size_set]; exact h2, by rw [Blk.ro_set]; exact h3, by rw [Blk.get_set, if_neg (by omega)]; exact h4, by rw [Blk.get_set, if_pos rfl]; rfl⟩, ⟨c', by rw [w_set_ne (Heap.lt_of_get h1) h9]; exact h6, h7, h8⟩, h9⟩⟩⟩
      · have q63 : ¬ (s : Int) = 63 := by omega
        simp -implicitDefEqProofs (disch := (first | omega | (simp -implicitDefEqProofs only [szs, ne_eq] <;> omega) | fail)) only [go_sem, seval, ↓reduceIte, reduceCtorEq, ir90_l0, undefV, t0, t4, t5, t6, h1, h2, h3, h4, hRb, hW, hc, hp0, h6, hRn, hcp, q63, qs, q0, q128, ↓hand, ↓hsh, ↓hor, hw5]
        exact ⟨fun k _ hk => w_set_ne (Heap.lt_of_get h1) hk _, by
          rw [← hrd]
          exact ⟨rfl, p + 1, by omega, rfl, ⟨⟨_, w_set_eq (Heap.lt_of_get h1) rfl _, by rw [Blk.size_set]; exact h2, by rw [Blk.ro_set]; exact h3, by rw [Blk.get_set, if_neg (by omega)]; exact h4, by rw [Blk.get_set, if_pos rfl]; rfl⟩, ⟨c', by rw [w_set_ne (Heap.lt_of_get h1) h9]; exact h6, h7, h8⟩, h9⟩⟩⟩
    · have qs : ¬ (0 : Int) < (s : Int) := by omega
      have q63 : ¬ (s : Int) = 63 := by omega
      simp -implicitDefEqProofs (disch := (first | omega | (simp -implicitDefEqProofs only [szs, ne_eq] <;> omega) | fail)) only [go_sem, seval, ↓reduceIte, reduceCtorEq, ir90_l0, undefV, t0, t4, t5, t6, h1, h2, h3, h4, hRb, hW, hc, hp0, h6, hRn, hcp, q63, qs, q128, ↓hand, ↓hsh, ↓hor, hw5]
      exact ⟨fun k _ hk => w_set_ne (Heap.lt_of_get h1) hk _, by
          rw [← hrd]
          exact ⟨rfl, p + 1, by omega, rfl, ⟨⟨_, w_set_eq (Heap.lt_of_get h1) rfl _, by rw [Blk.size_set]; exact h2, by rw [Blk.ro_set]; exact h3, by rw [Blk.get_set, if_neg (by omega)]; exact h4, by rw [Blk.get_set, if_pos rfl]; rfl⟩, ⟨c', by rw [w_set_ne (Heap.lt_of_get h1) h9]; exact h6, h7, h8⟩, h9⟩⟩⟩
  · rw [if_neg h128] at hrd
    have q128 : ¬ (n : Int) < 128 := by omega
    have q0 : ¬ (n : Int) = 0 := by omega
    have h63 : s ≠ 63 := by omega
    have q63 : ¬ (s : Int) = 63 := by omega
    have hw7 : V.int .u64 (IntKind.u64.wrap ((s : Int) + 7)) = .int .u64 ((s + 7 : Nat) : Int) := by rw [show (s : Int) + 7 = ((s + 7 : Nat) : Int) by omega, wrap64 (by omega)]
    have hbd : m + n % 128 * 2 ^ s < 2 ^ (s + 7) := by
      rw [Nat.pow_add]
      have := Nat.mul_le_mul_right (2 ^ s) (show n % 128 ≤ 127 by omega)
      have e7 : 2 ^ 7 = 128 := by decide
      rw [e7]; omega
    by_cases hs0 : 0 < s
    · have qs : (0 : Int) < (s : Int) := by omega
      simp -implicitDefEqProofs (disch := (first | omega | (simp -implicitDefEqProofs only [szs, ne_eq] <;> omega) | fail)) only [go_sem, seval, ↓reduceIte, reduceCtorEq, ir90_l0, undefV, t0, t4, t5, t6, h1, h4, hRb, hc, hp0, h6, hRn, hcp, q63, qs, q0, q128, ↓hand, ↓hsh, ↓hor, hw5]
      exact ⟨k - 1, by omega, p + 1, s + 7, m + n % 128 * 2 ^ s, by omega, rfl, rfl, hw7, hbd, ⟨j + 1, by omega, by omega⟩, hrd⟩
    · have qs : ¬ (0 : Int) < (s : Int) := by omega
      simp -implicitDefEqProofs (disch := (first | omega | (simp -implicitDefEqProofs only [szs, ne_eq] <;> omega) | fail)) only [go_sem, seval, ↓reduceIte, reduceCtorEq, ir90_l0, undefV, t0, t4, t5, t6, h1, h4, hRb, hc, hp0, h6, hRn, hcp, q63, qs, q0, q128, ↓hand, ↓hsh, ↓hor, hw5]
      exact ⟨k - 1, by omega, p + 1, s + 7, m + n % 128 * 2 ^ s, by omega, rfl, rfl, hw7, hbd, ⟨j + 1, by omega, by omega⟩, hrd⟩
end Go.Proofs.Ytakgjjbmniilhaa
