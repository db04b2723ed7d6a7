/- The log: which head counts; what a log is in memory. -/
import Derived.Test.YtakgjjbmniilhaaMg3
set_option linter.unusedVariables false
set_option maxRecDepth 100000
set_option linter.unusedVariables false
namespace Go.Proofs.Ytakgjjbmniilhaa
open Go Go.Vm
attribute [-go_sem] qQ
variable {h g : Heap} {R W M : Set'} {bd lp fr ct : Nat} {D : DS}
set_option maxHeartbeats 8000000 in
theorem which_ok (hx : DkX h M bd D) (hl : LogC h lp bd fr ct) (hc : 16 ≤ ct ∧ fr + ct ≤ D.n) (hR : ∀ b, R b) : SF Try.prog 34 [.ptr (some (lp, 0))] h R W fun r g => ∃ H : Hd, H.Lt ∧ r = .tuple [.agg H.v, .bool (jZ ((ct - 2) / 2) (D.seen fr) (D.seen (fr + 1))).isSome] ∧ (∀ H', jZ ((ct - 2) / 2) (D.seen fr) (D.seen (fr + 1)) = some H' → H' = H) ∧ h.n ≤ g.n ∧ ∀ k, k < h.n → g.get k = h.get k := by
 have hpos := hx.pos
 have hlp : lp < h.n := by obtain ⟨c, h1, _⟩ := hl; exact Heap.lt_of_get h1
 refine SF.go hm Try.func34 ir34_eq ?_
 simp -implicitDefEqProofs (disch := first | omega | (simp -implicitDefEqProofs only [szs, ne_eq] <;> omega) | fail) only [go_sem, seval, ↓reduceIte, reduceCtorEq, ir34, qE]
 have lq0 : LogC (h.push (.cells (Blk.of [.int .u64 0, .int .u64 0, .int .u64 0, .int .u64 0, .int .u64 0]) 44)) lp bd fr ct := hl.old fun k hk => qC (by omega) _
 obtain ⟨h0, e0⟩ : ∃ h0, h0 = ((h.push (.cells (Blk.of [.int .u64 0, .int .u64 0, .int .u64 0, .int .u64 0, .int .u64 0]) 44)).push (.cells (Blk.of [.int .u64 0, .int .u64 0, .int .u64 0, .int .u64 0, .int .u64 0]) 44)).set (h.n + 1) (.cells ((((((Blk.of [.int .u64 0, .int .u64 0, .int .u64 0, .int .u64 0, .int .u64 0]).set 0 (.int .u64 0)).set 1 (.int .u64 0)).set 2 (.int .u64 0)).set 3 (.int .u64 0)).set 4 (.int .u64 1)) 44) := ⟨_, rfl⟩
 rw [← e0]
 have n0 : h0.n = h.n + 2 := by rw [e0]; simp
 have k0 : ∀ k, k < h.n → h0.get k = h.get k := fun k hk => by rw [e0, qB (by simp) (by omega), qC (by simp; omega), qC (by omega)]
 have z0 : h0.get h.n = some (.cells (Blk.of [.int .u64 0, .int .u64 0, .int .u64 0, .int .u64 0, .int .u64 0]) 44) := by rw [e0, qB (by simp) (by omega), qC (by simp)]; exact qH rfl _
 have o0 : ∃ c, h0.get (h.n + 1) = some (.cells c 44) ∧ c.size = 5 ∧ c.ro = false ∧ c.gets 0 5 = h00.v := by
  refine ⟨_, by rw [e0]; exact qF (by simp) rfl _, rfl, rfl, xR fun j hj => ?_⟩
  simp only [Blk.get_set]
  have hh : j = 0 ∨ j = 1 ∨ j = 2 ∨ j = 3 ∨ j = 4 := by omega
  rcases hh with rfl | rfl | rfl | rfl | rfl <;> rfl
 clear e0 lq0
 obtain ⟨co, o1, o2, o3, o4⟩ := o0
 refine qK.of (halves_ok (hl.old k0) ⟨by omega, by omega⟩ (by omega) (fun b => .inr (hR b))) ?_
 rintro r h1 ⟨rfl, n1, k1⟩
 simp -implicitDefEqProofs (disch := first | omega | (simp -implicitDefEqProofs only [szs, ne_eq] <;> omega) | fail) only [go_sem, seval, ↓reduceIte, reduceCtorEq, qE]
 obtain ⟨h2, e2⟩ : ∃ h2, h2 = (h1.push (.cells (Blk.of [.int .i64 0, .int .i64 0]) 86)).set h1.n (.cells (((Blk.of [.int .i64 0, .int .i64 0]).set 0 (.int .i64 ((fr + 2 : Nat) : Int))).set 1 (.int .i64 ((fr + 2 + (ct - 2) / 2 : Nat) : Int))) 86) := ⟨_, rfl⟩
 rw [← e2]
 have n2 : h2.n = h1.n + 1 := by rw [e2]; simp
 have k2 : ∀ k, k < h1.n → h2.get k = h1.get k := fun k hk => by rw [e2, qB (by simp) (by omega), qC (by omega)]
 clear e2
 have kk : ∀ k, k < h.n → h2.get k = h.get k := fun k hk => by rw [k2 k (by omega), k1 k (by omega), k0 k hk]
 have z2 := (k2 h.n (by omega)).trans ((k1 h.n (by omega)).trans z0)
 have o5 := (k2 (h.n + 1) (by omega)).trans ((k1 (h.n + 1) (by omega)).trans o1)
 refine ⟨.inl (by omega), ?_⟩
 refine which_loop (R := fun b => h.n ≤ b ∨ R b) (W := fun b => h.n ≤ b ∨ W b) (M := M) (D := D) (ob := h.n + 1) (zb := h.n) (bd := bd) (fr := fr) (ct := ct) (lp := lp) (hx.old (by omega) kk) (hl.old kk) hc (fun b => .inr (hR b)) (.inl (by omega)) (.inl (Nat.le_refl _)) (fun b hb => .inl (by omega)) ⟨by omega, by omega, by omega⟩ (fun k hk => by have : k < h.n := hk.elim (hx.lt k) (fun h => h ▸ hlp); omega) ?_ ?_ ?_ ?_ ?_ ⟨Nat.le_refl _, fun _ _ _ _ => rfl, ⟨co, o5, o2, o3, o4⟩, ⟨_, z2, rfl, rfl⟩⟩ ?_ ?_
 ·simp -implicitDefEqProofs (disch := first | omega | (simp -implicitDefEqProofs only [szs, ne_eq] <;> omega) | fail) only [go_sem, seval, ↓reduceIte]
 ·simp -implicitDefEqProofs (disch := first | omega | (simp -implicitDefEqProofs only [szs, ne_eq] <;> omega) | fail) only [go_sem, seval, ↓reduceIte, reduceCtorEq]
 ·simp -implicitDefEqProofs (disch := first | omega | (simp -implicitDefEqProofs only [szs, ne_eq] <;> omega) | fail) only [go_sem, seval, ↓reduceIte, reduceCtorEq]
 ·simp -implicitDefEqProofs (disch := first | omega | (simp -implicitDefEqProofs only [szs, ne_eq] <;> omega) | fail) only [go_sem, seval, ↓reduceIte, reduceCtorEq]
 ·simp -implicitDefEqProofs (disch := first | omega | (simp -implicitDefEqProofs only [szs, ne_eq] <;> omega) | fail) only [go_sem, seval, ↓reduceIte, reduceCtorEq]
 ·rintro tr g H hw hLt t2 t4 ⟨gn, gk, ⟨c4, d1, d2, d3, d4⟩, ⟨c5, d5, d6, d7⟩⟩
  have hvl : H.v.length = 5 := rfl
  have hone : allOne H.v = true := rfl
  have hRo := hR (h.n + 1)
  have hput : (c5.puts 0 H.v).gets 0 5 = H.v := xR fun j hj => by
   rw [Blk.get_puts, if_pos ⟨by omega, by rw [hvl]; omega⟩, Nat.sub_zero]
  have hputs : (c5.puts 0 H.v).size = 5 := by rw [Blk.zT]; exact d6
  have hz := Heap.lt_of_get d5
  rw [whichI_2] at hw
  simp -implicitDefEqProofs (disch := first | omega | (simp -implicitDefEqProofs only [szs, ne_eq] <;> omega) | fail) only [go_sem, seval, ↓reduceIte, t2, t4, d1, d2, d4, d5, d6, d7, hRo, hvl, hone, hputs, hput]
  refine ⟨H, hLt, ?_, fun H' h => ?_, by omega, fun k hk => by rw [qB hz (by omega), gk k (by omega) (by omega) (by omega), kk k hk]⟩
  ·have := hw
   simp only [Nat.add_zero] at this
   rw [this]; rfl
  ·have := hw
   simp only [Nat.add_zero] at this
   rw [this] at h
   exact (Option.some.inj h).symm
 ·rintro tr g hw t2 t3 ⟨H, gn, gk, _, _⟩ ⟨c5, d5, d6, d7⟩
  rw [whichI_2] at hw
  simp -implicitDefEqProofs (disch := first | omega | (simp -implicitDefEqProofs only [szs, ne_eq] <;> omega) | fail) only [go_sem, seval, t2, t3, d5, d6, d7]
  have := hw
  simp only [Nat.add_zero] at this
  rw [this]
  exact ⟨Hd.zero, ⟨by decide, by decide, by decide, by decide, by decide⟩, rfl, (fun H' h => by cases h), by omega, fun k hk => by rw [gk k (by omega) (by omega) (by omega), kk k hk]⟩
end Go.Proofs.Ytakgjjbmniilhaa
set_option maxRecDepth 100000
set_option linter.unusedVariables false
namespace Go.Proofs.Ytakgjjbmniilhaa
open Go Go.Vm
variable {h g : Heap} {R W : Set'}
theorem shrN (n s : Nat) (hs : s < 64) : xW .shr .u64 (n : Int) (s : Int) = some (.int .u64 ((n / 2 ^ s : Nat) : Int)) := by
 unfold xW
 simp only [show ¬ ((s : Int) < 0) by omega, if_false]
 have h : Int.fdiv (n : Int) (2 ^ (min (s : Int).toNat IntKind.u64.bits)) = ((n / 2 ^ s : Nat) : Int) := by
  rw [show min (s : Int).toNat IntKind.u64.bits = s by rw [show IntKind.u64.bits = 64 from rfl]; omega, Int.fdiv_eq_ediv_of_nonneg _ (by exact Int.pow_nonneg (by omega))]
  simp
 rw [h]
theorem big_get (n : Nat) {i : Nat} (hi : i < 8) : (zK n)[i]? = some (bV (n / 2 ^ (56 - 8 * i))) := by
 have hh : i = 0 ∨ i = 1 ∨ i = 2 ∨ i = 3 ∨ i = 4 ∨ i = 5 ∨ i = 6 ∨ i = 7 := by omega
 rcases hh with rfl | rfl | rfl | rfl | rfl | rfl | rfl | rfl <;> simp [zK]
set_option maxHeartbeats 4000000 in
theorem big_ok {n : Nat} (hR : ∀ b, R b) : SF Try.prog 44 [.int .u64 (n : Int)] h R W fun r g => Own h.n g r (zK n) 5 ∧ h.n ≤ g.n ∧ ∀ b, b < h.n → g.get b = h.get b := by
 refine SF.go hm Try.func44 ir44_eq ?_
 simp -implicitDefEqProofs (disch := omega) only [go_sem, seval, ↓reduceIte, reduceCtorEq, ir44]
 refine kE.inv hm (fun k f g => f.mks = [] ∧ f.tm.n = 17 ∧ f.tm.get 0 = some (.int .u64 (n : Int)) ∧ ∃ (i : Nat) (v : V), i + k = 8 ∧ f.tm.get 4 = some (.int .i64 (56 - 8 * (i : Int))) ∧ f.tm.get 3 = some v ∧ Own h.n g v ((zK n).take i) 5 ∧ h.n ≤ g.n ∧ ∀ b, b < h.n → g.get b = h.get b) 8 ?_ ?_
 ·exact ⟨rfl, rfl, by simp -implicitDefEqProofs (disch := omega) only [go_sem, seval, ↓reduceIte], 0, _, rfl, by simp -implicitDefEqProofs (disch := omega) only [go_sem, Nat.reduceSub, Nat.reduceMod, Nat.reduceDiv, ↓reduceIte, reduceCtorEq]; rfl, by simp -implicitDefEqProofs (disch := omega) only [go_sem, seval, ↓reduceIte, reduceCtorEq], Own.nil _ _ _, Nat.le_refl _, fun _ _ => rfl⟩
 rintro k ⟨⟨n', tr⟩, mks⟩ g ⟨hmk, hn', t0, i, v, hik, t4, t3, ho, hgn, hold⟩
 simp only [Tm.kL] at hmk hn' t0 t4 t3
 subst hmk hn'
 by_cases hi : i < 8
 ·have hc : (0 : Int) ≤ 56 - 8 * (i : Int) := by omega
  have hlen : ((zK n).take i).length = i := by rw [List.length_take, yI]; omega
  have hsh := shrN n (56 - 8 * i) (by omega)
  rw [show ((56 - 8 * i : Nat) : Int) = 56 - 8 * (i : Int) by omega] at hsh
  obtain ⟨v', g', r', w', hap, ho', hn', hk', hw', _⟩ := jK (bytes := 1) (news := [.int .u8 ((n / 2 ^ (56 - 8 * i) % 256 : Nat) : Int)]) (h := g.push (.cells (Blk.of [.int .u8 ((n / 2 ^ (56 - 8 * i) % 256 : Nat) : Int)]) 5)) (x := .slice (some (g.n, 0)) 1 1 true) (ho.old fun b hb => qC (by omega) _) (by simp; omega) rfl (yO (qH rfl _)) rfl (by rw [hlen]; simp only [List.length_cons, List.length_nil]; omega) (by rw [hlen]; simp only [List.length_cons, List.length_nil]; omega)
  simp only [Heap.qG] at hn'
  have hr : allB (fun b => h.n ≤ b ∨ R b) r' := qO fun b _ => .inr (hR b)
  have hw : allB (fun b => h.n ≤ b ∨ W b) w' := qO fun b hb => .inl (hw' b hb)
  simp -implicitDefEqProofs (disch := omega) only [go_sem, seval, ↓reduceIte, reduceCtorEq, ir44_l0, t0, t4, t3, hc, ↓hsh, wrap8, qU jO, hap]
  refine ⟨hr, hw, k - 1, by omega, i + 1, v', by omega, by congr 1; omega, rfl, ?_, by omega, fun b hb => by rw [hk' b hb, qC (by omega), hold b hb]⟩
  rw [List.take_add_one, big_get n hi]; exact ho'
 ·have hc : ¬ (0 : Int) ≤ 56 - 8 * (i : Int) := by omega
  obtain rfl : i = 8 := by omega
  rw [List.take_of_length_le (Nat.le_of_eq (yI n))] at ho
  simp -implicitDefEqProofs (disch := omega) only [go_sem, seval, ↓reduceIte, ir44_l0, t4, t3]
  exact ⟨ho, hgn, hold⟩
theorem shl8 (a : Nat) (h : a * 256 < 18446744073709551616) : xW .shl .u64 (a : Int) 8 = some (.int .u64 ((a * 256 : Nat) : Int)) := shl64 a 8 (by omega) h
theorem numB_take {l : List V} (hl : Byt l) : ∀ i, jQ (l.take i) < 256 ^ i
 | 0 => by simp [jQ]
 | i + 1 => by
  have hi := numB_take hl i
  rw [List.take_add_one]
  cases h : l[i]? with
  | none =>
   rw [Option.toList, List.append_nil, Nat.pow_succ]; omega
  | some v =>
   have := (bN_lt hl (List.mem_of_getElem? h)).1
   rw [Option.toList, jQ, List.foldl_append, Nat.pow_succ]
   show jQ (l.take i) * 256 + bN v < _
   omega
set_option maxHeartbeats 4000000 in
theorem numb_ok {S : Set'} {v : V} {l : List V} (hv : LR h S v l) (hl : l.length = 8) (hb : Byt l) (hR : ∀ b, R b) : SF Try.prog 101 [v] h R W fun r g => r = .int .u64 (jQ l : Nat) ∧ g = h := by
 have hlen := hv.lenV Try.underlying22
 rw [hl] at hlen
 refine SF.go hm Try.func101 ir101_eq ?_
 simp -implicitDefEqProofs (disch := omega) only [go_sem, Nat.reduceAdd, Nat.reduceSub, Nat.reduceMod, Nat.reduceDiv, ↓reduceIte, reduceCtorEq, ir101, ↓hlen]
 refine kE.inv hm (fun k f g => f.mks = [] ∧ f.tm.n = 19 ∧ g = h ∧ f.tm.get 6 = some v ∧ f.tm.get 7 = some (.int .i64 8) ∧ ∃ i : Nat, i + k = 8 ∧ f.tm.get 8 = some (.int .i64 (i : Int)) ∧ f.tm.get 3 = some (.int .u64 (jQ (l.take i) : Nat))) 8 ?_ ?_
 ·exact ⟨rfl, rfl, rfl, by simp -implicitDefEqProofs (disch := omega) only [go_sem, Nat.reduceSub, Nat.reduceMod, Nat.reduceDiv, ↓reduceIte, reduceCtorEq], by simp -implicitDefEqProofs (disch := omega) only [go_sem, Nat.reduceMod, Nat.reduceDiv, ↓reduceIte, reduceCtorEq]; rfl, 0, rfl, by simp -implicitDefEqProofs (disch := omega) only [go_sem, Nat.reduceSub, Nat.reduceMod, Nat.reduceDiv, ↓reduceIte, reduceCtorEq]; rfl, by simp -implicitDefEqProofs (disch := omega) only [go_sem, Nat.reduceMod, Nat.reduceDiv, ↓reduceIte, reduceCtorEq]; rfl⟩
 rintro k ⟨⟨n', tr⟩, mks⟩ g ⟨hmk, hn', rfl, t6, t7, i, hik, t8, t3⟩
 simp only [Tm.kL] at hmk hn' t6 t7 t8 t3
 subst hmk hn'
 by_cases hi : i < 8
 ·have hc : (i : Int) < 8 := by omega
  have hi0 : (0 : Int) ≤ (i : Int) := by omega
  have hil : i < l.length := by omega
  have hc8 : (i : Int) < ((8 : Nat) : Int) := by omega
  obtain ⟨b, o, cap, ex, c, ce, e, _, h1, h2, h3⟩ := hv.get hil
  rw [hl] at e h2
  subst e
  obtain ⟨m1, m2⟩ := bN_lt hb (List.getElem_mem hil)
  obtain ⟨m, hm'⟩ : ∃ m, m = bN l[i] := ⟨_, rfl⟩
  rw [← hm'] at m1 m2
  have h3' : c.get (o + i) = .int .u8 (m : Int) := by
   rw [h3, List.getD_eq_getElem?_getD, List.getElem?_eq_getElem hil]; exact m2
  have hlt := numB_take hb i
  have hpw : 256 ^ i ≤ 256 ^ 7 := Nat.pow_le_pow_right (by omega) (by omega)
  have e7 : 256 ^ 7 = 72057594037927936 := by decide
  have hs8 := shl8 (jQ (l.take i)) (by omega)
  have hor := or64 (jQ (l.take i) * 256) m (by omega) (by omega)
  have hadd : jQ (l.take i) * 256 ||| m = jQ (l.take (i + 1)) := by
   rw [Nat.or_comm, show (256 : Nat) = 2 ^ 8 by decide, or_add (by simpa using m1), List.take_add_one, List.getElem?_eq_getElem hil, Option.toList, jQ, jQ, List.foldl_append]
   show m + _ * 256 = _ * 256 + bN l[i]
   rw [← hm']; omega
  rw [hadd] at hor
  have hw5 : IntKind.u64.wrap (m : Int) = (m : Int) := wrap64 (by omega)
  have hRb := hR b
  simp -implicitDefEqProofs (disch := omega) only [go_sem, seval, ↓reduceIte, ir101_l0, t6, t7, t8, t3, hc, hi0, h1, h3', hRb, ↓hs8, ↓hor, hw5]
  exact ⟨k - 1, by omega, i + 1, by omega, by simp, rfl⟩
 ·have hc : ¬ (i : Int) < 8 := by omega
  obtain rfl : i = 8 := by omega
  rw [List.take_of_length_le (by omega)] at t3
  simp -implicitDefEqProofs (disch := omega) only [go_sem, seval, ↓reduceIte, ir101_l0, t7, t8, t3]
end Go.Proofs.Ytakgjjbmniilhaa
set_option maxRecDepth 100000
set_option linter.unusedVariables false
namespace Go.Proofs.Ytakgjjbmniilhaa
open Go Go.Vm
variable {h g : Heap} {R W : Set'}
theorem bV_lt {n : Nat} (h : n < 256) : V.int .u8 (n : Int) = bV n := by unfold bV; rw [Nat.mod_eq_of_lt h]
set_option maxHeartbeats 8000000 in
theorem part_ok {S : Set'} {v : V} {l : List V} {num ep pl of : Nat} (hp : pl < 256) (ho : of < 256) (hv : LR h S v l) (hl : l.length ≤ 108) (hb : Byt l) (hR : ∀ b, R b) : SF Try.prog 41 [.agg [.int .u64 (num : Int), .int .u64 (ep : Int), .int .u8 (pl : Int), .int .u8 (of : Int)], v] h R W fun r g => Own h.n g r (kV num ep pl of l) 5 ∧ h.n ≤ g.n ∧ ∀ k, k < h.n → g.get k = h.get k := by
 have hlen := hv.lenV Try.underlying22
 have hone := hv.one
 have hcv := hv.cells
 refine SF.go hm Try.func41 ir41_eq ?_
 simp -implicitDefEqProofs (disch := omega) only [go_sem, seval, ↓reduceIte, reduceCtorEq, ir41, qE]
 refine qN.of (SF.foot (big_ok (R := qR) (W := noW) (n := num) (fun _ => trivial)) (fun _ h => h) (fun _ h => h)) ?_
 rintro r1 g1 ⟨o1, n1, k1⟩
 simp only [Heap.qG] at n1 k1 o1
 have hb1 : g1.get h.n = some (.cells (Blk.of [.int .u64 (num : Int), .int .u64 (ep : Int), .int .u8 (pl : Int), .int .u8 (of : Int)]) 90) := by rw [k1 _ (by omega)]; exact qH rfl _
 simp -implicitDefEqProofs (disch := omega) only [go_sem, seval, ↓reduceIte, reduceCtorEq, qE, hb1]
 refine qN.of (SF.foot (big_ok (R := qR) (W := noW) (n := ep) (fun _ => trivial)) (fun _ h => h) (fun _ h => h)) ?_
 rintro r2 g2 ⟨o2, n2, k2⟩
 have hb2 := (k2 _ (by omega)).trans hb1
 have q1 := (o1.lr.mono (R' := fun b => h.n ≤ b) fun b _ h => by omega).old k2
 have q2 := o2.lr.mono (R' := fun b => h.n ≤ b) fun b _ h => by omega
 have kk : ∀ k, k < h.n → g2.get k = h.get k := fun k hk => by rw [k2 k (by omega), k1 k (by omega), qC (by omega)]
 have q4 := hv.old kk
 have one1 := q1.one
 have one2 := q2.one
 have c1 := q1.cells
 have c2 := q2.cells
 simp -implicitDefEqProofs (disch := omega) only [go_sem, seval, ↓reduceIte, reduceCtorEq, qE, hb2, ↓hlen, ↓c1, ↓c2, ↓hcv, wrap8]
 have hp3 : LR (g2.push (.cells (Blk.of [.int .u8 (pl : Int), .int .u8 (of : Int), .int .u8 ((l.length % 256 : Nat) : Int)]) 5)) (fun k => k = g2.n) (.slice (some (g2.n, 0)) 3 3 true) [bV pl, bV of, bV l.length] := by
  rw [← bV_lt hp, ← bV_lt ho]; exact LR.push g2 _ 5
 have kp : ∀ k, k < g2.n → (g2.push (.cells (Blk.of [.int .u8 (pl : Int), .int .u8 (of : Int), .int .u8 ((l.length % 256 : Nat) : Int)]) 5)).get k = g2.get k := fun k hk => qC (by omega) _
 have hpl := PLs.of (S := fun b => h.n ≤ b ∨ S b) (vs := [r1, r2, .slice (some (g2.n, 0)) 3 3 true, v]) (ll := [zK num, zK ep, [bV pl, bV of, bV l.length], l]) (e := 22) (g := g2.push (.cells (Blk.of [.int .u8 (pl : Int), .int .u8 (of : Int), .int .u8 ((l.length % 256 : Nat) : Int)]) 5)) rfl fun i x hi => by
  have : i < 4 := (List.getElem?_eq_some_iff.1 hi).1
  have hh : i = 0 ∨ i = 1 ∨ i = 2 ∨ i = 3 := by omega
  rcases hh with rfl | rfl | rfl | rfl <;> cases hi
  ·exact (q1.old kp).mono fun b _ hb => .inl hb
  ·exact (q2.old kp).mono fun b _ hb => .inl hb
  ·exact hp3.mono fun b _ hb => .inl (by omega)
  ·exact (q4.old kp).mono fun b _ hb => .inr hb
 have hfl : [zK num, zK ep, [bV pl, bV of, bV l.length], l].flatten = zK num ++ zK ep ++ [bV pl, bV of, bV l.length] ++ l := by simp
 have hfn : (zK num ++ zK ep ++ [bV pl, bV of, bV l.length] ++ l).length ≤ 127 := by simp [yI]; omega
 have hfb : Byt (zK num ++ zK ep ++ [bV pl, bV of, bV l.length] ++ l) := (((yS _).app (yS _)).app (Byt.cons (xI _) (Byt.cons (xI _) (Byt.cons (xI _) Byt.nil)))).app hb
 refine qN.of (SF.foot (join_ok (R := qR) (W := noW) hpl (fun _ => trivial) (by simp) (by rw [hfl]; omega) (fun x hx => by
  simp only [List.mem_cons, List.not_mem_nil, or_false] at hx
  rcases hx with rfl | rfl | rfl | rfl
  ·exact yS _
  ·exact yS _
  ·exact Byt.cons (xI _) (Byt.cons (xI _) (Byt.cons (xI _) Byt.nil))
  ·exact hb)).kept (fun _ h => h) (fun _ h => h)) ?_
 rintro r7 g7 ⟨⟨o7, k7⟩, vf7⟩
 have n7 := vf7.n
 rw [hfl] at o7
 simp only [Heap.qG] at n7 k7 o7
 simp -implicitDefEqProofs (disch := omega) only [go_sem, seval, ↓reduceIte, reduceCtorEq]
 refine qN.of (SF.foot (sector_ok (R := qR) (W := noW) o7.lr (fun _ => trivial) (by omega) hfb) (fun _ h => h) (fun _ h => h)) ?_
 rintro r8 g8 ⟨o8, n8, k8⟩
 simp -implicitDefEqProofs (disch := omega) only [go_sem, seval, ↓reduceIte, reduceCtorEq]
 simp only [noW, List.not_mem_nil, or_false, false_or, and_false, false_implies, implies_true, not_false_eq_true, List.mem_cons, and_true, true_and]
 refine ⟨by and_intros <;> (intros; omega), by and_intros <;> (intros; exact .inr (hR _)), o8.mono (by omega), by omega, fun b hb => ?_⟩
 rw [k8 b (by omega), k7 b (by omega), qC (by simp; omega), kp b (by omega), kk b hb]
noncomputable def ir92_e : LC := pk (atP (ir0 Try.f92 [] []) [1, 1, 1, 1]) _
noncomputable def ir92_d : LC := (pk (fun p0 => jX (atP (ir0 Try.f92 [] []) [1, 1]) [1, 1] p0) _) ir92_e
noncomputable def ir92_c : LC := (pk (fun p0 => jX (ir0 Try.f92 [] []) [1, 1] p0) _) ir92_d
theorem ir92_c_eq : ir92 = ir92_c := rfl

theorem sl_8 (b : Nat) : kC Try.prog 22 (.slice (some (b, 0)) 128 128 true) none (some 8) none = some (.slice (some (b, 0)) 8 128 true) := by
 simp only [kC, Try.underlying22, sz_5, kJ]
 rfl
theorem sl_16 (b : Nat) : kC Try.prog 22 (.slice (some (b, 0)) 128 128 true) (some 8) (some 16) none = some (.slice (some (b, 8)) 8 120 true) := by
 simp only [kC, Try.underlying22, sz_5, kJ]
 rfl
theorem sl_19 (b : Nat) {n : Nat} (hn : n ≤ 108) : kC Try.prog 22 (.slice (some (b, 0)) 128 128 true) (some 19) (some (19 + (n : Int))) none = some (.slice (some (b, 19)) n 109 true) := by
 have e : (19 + (n : Int)).toNat = 19 + n := by omega
 have hbv : kJ 128 128 (some 19) (some (19 + (n : Int))) none = some (19, 19 + n, 128) := by
  simp only [kJ, e]
  rw [if_pos (by simp; omega)]
  simp only []
  rw [if_pos (by constructor <;> omega)]; rfl
 simp only [kC, Try.underlying22, sz_5, hbv]
 simp
theorem gets_sub {c : Blk} {l : List V} {n o k : Nat} (h : c.gets 0 n = l) (hk : o + k ≤ n) : c.gets o k = (l.drop o).take k := by
 have hl : l.length = n := by rw [← h, Blk.qJ]
 refine Blk.jH (fun j hj => ?_) (by rw [List.length_take, List.length_drop]; omega)
 rw [List.length_take, List.length_drop] at hj
 have := Blk.qM c n 0 (o + j) (by omega)
 rw [h, Nat.zero_add] at this
 rw [List.getD_eq_getElem?_getD, List.getElem?_take, if_pos (by omega), List.getElem?_drop, this]; rfl
theorem sub_lr {b o k cap : Nat} {ex : Bool} {c : Blk} {ce : TypeId} {l : List V} {n : Nat} (h1 : h.get b = some (.cells c ce)) (h2 : n ≤ c.size) (hg : c.gets 0 n = l) (hk : o + k ≤ n) : LR h (fun x => x = b) (.slice (some (b, o)) k cap ex) ((l.drop o).take k) := by
 have hl : l.length = n := by rw [← hg, Blk.qJ]
 have hlk : ((l.drop o).take k).length = k := by rw [List.length_take, List.length_drop]; omega
 exact .inr ⟨b, o, cap, ex, c, ce, by rw [hlk], rfl, h1, by omega, by rw [hlk]; exact gets_sub hg hk⟩
def Rc.v (r : Rc) : List V := [.int .u64 (r.num : Int), .int .u64 (r.ep : Int), .int .u8 (r.pl : Int), .int .u8 (r.of : Int)]
set_option maxHeartbeats 8000000 in
theorem read_e {Q : Ex → Fr → Heap → Prop} {t : List It} {b mb zb n0 : Nat} {l : List V} {tr : Tr V} {c cm cz : Blk} {ce : TypeId} (h1 : h.get b = some (.cells c ce)) (h2 : 128 ≤ c.size) (h3 : c.gets 0 128 = l) (hb : Byt l) (hR : ∀ b, R b) (hW : ∀ b, n0 ≤ b → W b) (hn0 : n0 ≤ h.n) (hWz : n0 ≤ zb) (hn : bAt l 18 ≤ 108) (hbb : b < n0)
  (m1 : h.get mb = some (.cells cm 90)) (m2 : cm.size = 4) (m3 : cm.gets 0 4 = (jA l).v)
  (z1 : h.get zb = some (.cells cz 90)) (z2 : cz.size = 4) (z3 : cz.ro = false)
  (hp : (jA l).pl < 256 ∧ (jA l).of < 256)
  (t0 : tr.get 0 = some (.slice (some (b, 0)) 128 128 true)) (t2 : tr.get 2 = some (.ptr (some (zb, 0)))) (t5 : tr.get 5 = some (.ptr (some (mb, 0)))) (t6 : tr.get 6 = some (.int .i64 (bAt l 18 : Nat)))
  (hk : ∀ tr g v, tr.get 2 = some (.ptr (some (zb, 0))) → tr.get 3 = some v → tr.get 4 = some (.bool (sameB (jA l).put l)) → Own n0 g v (jA l).dat 5 → h.n ≤ g.n → (∀ k, k < h.n → k ≠ zb → g.get k = h.get k) → (∃ c, g.get zb = some (.cells c 90) ∧ c.size = 4 ∧ c.gets 0 4 = (jA l).v) → Q .ret ⟨⟨78, tr⟩, []⟩ g) :
  GO (Try.prog : MP) R W none Q (It.code ir92_e :: t) ⟨⟨78, tr⟩, []⟩ h := by
 have hll : l.length = 128 := by rw [← h3, Blk.qJ]
 have hs := sl_19 b hn
 have hd := sub_lr (ex := true) (cap := 109) (o := 19) (k := bAt l 18) h1 h2 h3 (by omega)
 have hdl : ((l.drop 19).take (bAt l 18)).length = bAt l 18 := by rw [List.length_take, List.length_drop]; omega
 have hdb : Byt ((l.drop 19).take (bAt l 18)) := (hb.drop 19).take _
 simp -implicitDefEqProofs (disch := first | omega | (simp -implicitDefEqProofs only [szs, ne_eq] <;> omega) | fail) only [go_sem, seval, ↓reduceIte, ir92_e, t0, t6, hs]
 refine qK.of (SF.foot (clone42 (R := R) (W := noW) hd hR (by omega) hdb.allOne).kept (fun _ h => h) (fun _ h => h.elim)) ?_
 rintro r g1 ⟨⟨o1, k1⟩, vf1⟩
 have n1 := vf1.n
 have hone := o1.lr.one
 have hvl : (jA l).v.length = 4 := rfl
 have hall : allOne (jA l).v = true := rfl
 have hm1 := (k1 _ (Heap.lt_of_get m1)).trans m1
 have hz1 := (k1 _ (Heap.lt_of_get z1)).trans z1
 have hRm := hR mb
 simp -implicitDefEqProofs (disch := first | omega | (simp -implicitDefEqProofs only [szs, ne_eq] <;> omega) | fail) only [go_sem, seval, ↓reduceIte, t5, hm1, m2, m3]
 rw [show (jA l).v = [.int .u64 ((jA l).num : Int), .int .u64 ((jA l).ep : Int), .int .u8 ((jA l).pl : Int), .int .u8 ((jA l).of : Int)] from rfl]
 refine qN.of (SF.foot (part_ok (R := qR) (W := noW) hp.1 hp.2 o1.lr (by omega) hdb (fun _ => trivial)) (fun _ h => h) (fun _ h => h)) ?_
 rintro r2 g2 ⟨o2, n2, k2⟩
 have hd2 := ((sub_lr (ex := true) (cap := 128) (o := 0) (k := 128) h1 h2 h3 (by omega)).old k1).old k2
 rw [List.drop_zero, List.take_of_length_le (by omega)] at hd2
 have hlr2 : LR g2 (fun x => x = b) (.slice (some (b, 0)) 128 128 true) l := hd2
 simp -implicitDefEqProofs (disch := first | omega | (simp -implicitDefEqProofs only [szs, ne_eq] <;> omega) | fail) only [go_sem, seval, ↓reduceIte, reduceCtorEq, t0]
 refine qN.of (SF.foot (equal_ok (R := qR) (W := noW) o2.lr hlr2 (fun _ => trivial) (yT _ _ _ _ hdb) hb) (fun _ h => h) (fun _ h => h)) ?_
 rintro r3 g3 ⟨rfl, rfl⟩
 have hz2 := (k2 _ (Heap.lt_of_get hz1)).trans hz1
 have hWz' := hW zb hWz
 have hput : (cz.puts 0 (jA l).v).gets 0 4 = (jA l).v := by
  refine List.ext_getElem? fun j => ?_
  by_cases hj : j < 4
  ·rw [Blk.qM _ _ _ _ hj, Blk.get_puts, if_pos ⟨by omega, by rw [hvl]; omega⟩, Nat.sub_zero, Nat.zero_add, List.getD_eq_getElem?_getD, List.getElem?_eq_getElem (by rw [hvl]; exact hj)]; rfl
  ·rw [List.getElem?_eq_none (by rw [Blk.qJ]; omega), List.getElem?_eq_none (by rw [hvl]; omega)]
 simp -implicitDefEqProofs (disch := first | omega | (simp -implicitDefEqProofs only [szs, ne_eq] <;> omega) | fail) only [go_sem, seval, ↓reduceIte, qE, t2, hz2, z2, z3, hWz']
 refine ⟨?_, ?_, hk _ _ r (by simp -implicitDefEqProofs (disch := first | omega | (simp -implicitDefEqProofs only [szs, ne_eq] <;> omega) | fail) only [go_sem, seval, ↓reduceIte, t2]) (by simp -implicitDefEqProofs (disch := first | omega | (simp -implicitDefEqProofs only [szs, ne_eq] <;> omega) | fail) only [go_sem, seval, ↓reduceIte]) (by simp -implicitDefEqProofs (disch := first | omega | (simp -implicitDefEqProofs only [szs, ne_eq] <;> omega) | fail) only [go_sem, seval, ↓reduceIte]; rfl) ((o1.mono (by omega)).keep fun k c e => ?_) (by simp only [Heap.n_set]; omega) (fun k q1 q2 => ?_) ⟨_, qF (Heap.lt_of_get hz2) rfl _, by simp only [Blk.size_set]; exact z2, hput⟩⟩
 ·simp only [noW]
  (try simp only [List.not_mem_nil, or_false, false_or, and_false, false_implies, implies_true, not_false_eq_true, List.mem_cons, and_true, true_and]; try and_intros; all_goals (try trivial); all_goals (intro b hb; first | omega | (intro hc; first | omega | (rcases hb with hb | hb <;> first | omega))))
 ·simp only [noW]
  and_intros
  all_goals (intros; first | exact hR _ | exact (by assumption : False).elim | exact hW _ (by omega) | omega)
 ·have hne : k ≠ zb := fun h => by rw [h, hz1] at e; cases e
  rw [qB (Heap.lt_of_get hz2) hne, k2 k (Heap.lt_of_get e)]; exact e
 ·rw [qB (Heap.lt_of_get hz2) q2, k2 k (by omega), k1 k (by omega)]
theorem bAt_get {l : List V} {c : Blk} {n i : Nat} (hl : c.gets 0 n = l) (hb : Byt l) (hi : i < n) : c.get i = .int .u8 (bAt l i : Nat) ∧ bAt l i < 256 := by
 have hll : l.length = n := by rw [← hl, Blk.qJ]
 have h1 := Blk.qM c n 0 i hi
 rw [hl, Nat.zero_add] at h1
 obtain ⟨m1, m2⟩ := bN_lt hb (List.mem_of_getElem? h1)
 have e : bAt l i = bN (c.get i) := by unfold bAt; rw [List.getD_eq_getElem?_getD, h1]; rfl
 rw [e]; exact ⟨m2, m1⟩
theorem recA_bad {l : List V} (h : ¬ okR (bAt l 18) (bAt l 16) (bAt l 17)) : jT l = none := by unfold jT; rw [if_neg fun hc => h hc.1]
theorem recA_good {l : List V} (hl : l.length = 128) (hb : Byt l) (h : okR (bAt l 18) (bAt l 16) (bAt l 17)) : jT l = if sameB (jA l).put l then some (jA l) else none := by
 have hq : sameB (jA l).put l = true ↔ (jA l).put = l := sameB_iff (yT (jA l).num (jA l).ep (jA l).pl (jA l).of ((hb.drop 19).take (bAt l 18))) hb
 unfold jT
 by_cases hc : (jA l).put = l
 ·rw [if_pos ⟨h, hc⟩, if_pos (hq.2 hc)]
 ·rw [if_neg fun h => hc h.2, if_neg fun h => hc (hq.1 h)]
end Go.Proofs.Ytakgjjbmniilhaa
set_option maxRecDepth 100000
set_option linter.unusedVariables false
namespace Go.Proofs.Ytakgjjbmniilhaa
open Go Go.Vm
variable {h g : Heap} {R W : Set'}
set_option maxHeartbeats 8000000 in
theorem read_d {Q : Ex → Fr → Heap → Prop} {t : List It} {b mb zb n0 : Nat} {l : List V} {tr : Tr V} {c cm cz : Blk} {ce : TypeId} (h1 : h.get b = some (.cells c ce)) (h2 : 128 ≤ c.size) (h3 : c.gets 0 128 = l) (hb : Byt l) (hR : ∀ b, R b) (hW : ∀ b, n0 ≤ b → W b) (hn0 : n0 ≤ h.n) (hWz' : n0 ≤ zb) (hbb : b < n0)
  (m1 : h.get mb = some (.cells cm 90)) (m2 : cm.size = 4) (m0 : cm.gets 0 4 = (jA l).v)
  (z1 : h.get zb = some (.cells cz 90)) (z2 : cz.size = 4) (z3 : cz.ro = false)
  (t0 : tr.get 0 = some (.slice (some (b, 0)) 128 128 true)) (t2 : tr.get 2 = some (.ptr (some (zb, 0)))) (t5 : tr.get 5 = some (.ptr (some (mb, 0))))
  (bad : ¬ okR (bAt l 18) (bAt l 16) (bAt l 17) → ∀ tr g, tr.get 2 = some (.ptr (some (zb, 0))) → tr.get 3 = some (.slice none 0 0 true) → tr.get 4 = some (.bool false) → h.n ≤ g.n → (∀ k, k < h.n → k ≠ zb → g.get k = h.get k) → (∃ c, g.get zb = some (.cells c 90) ∧ c.size = 4 ∧ ∀ j, j < 4 → (∃ n : Int, c.get j = .int .u64 n) ∨ ∃ n : Int, c.get j = .int .u8 n) → Q .ret ⟨⟨78, tr⟩, []⟩ g)
  (hk : okR (bAt l 18) (bAt l 16) (bAt l 17) → ∀ tr g v, tr.get 2 = some (.ptr (some (zb, 0))) → tr.get 3 = some v → tr.get 4 = some (.bool (sameB (jA l).put l)) → Own n0 g v (jA l).dat 5 → h.n ≤ g.n → (∀ k, k < h.n → k ≠ zb → g.get k = h.get k) → (∃ c, g.get zb = some (.cells c 90) ∧ c.size = 4 ∧ c.gets 0 4 = (jA l).v) → Q .ret ⟨⟨78, tr⟩, []⟩ g) :
  GO (Try.prog : MP) R W none Q (It.code ir92_d :: t) ⟨⟨78, tr⟩, []⟩ h := by
 have hRb := hR b
 have hRm := hR mb
 have hWz := hW zb hWz'
 obtain ⟨g18, b18⟩ := bAt_get h3 hb (show 18 < 128 by omega)
 obtain ⟨g16, b16⟩ := bAt_get h3 hb (show 16 < 128 by omega)
 obtain ⟨g17, b17⟩ := bAt_get h3 hb (show 17 < 128 by omega)
 have i18 : (18 : Int) < ((128 : Nat) : Int) := by decide
 have h2' : 18 < c.size := by omega
 have m3 : cm.get 2 = .int .u8 (bAt l 16 : Nat) := by have := Blk.qM cm 4 0 2 (by omega); rw [m0] at this; exact (Option.some.inj this).symm
 have m4 : cm.get 3 = .int .u8 (bAt l 17 : Nat) := by have := Blk.qM cm 4 0 3 (by omega); rw [m0] at this; exact (Option.some.inj this).symm
 have hw18 : IntKind.i64.wrap ((bAt l 18 : Nat) : Int) = ((bAt l 18 : Nat) : Int) := IntWalk.i64_in _ (by omega)
 by_cases a1 : bAt l 18 ≤ 108
 rotate_left
 ·have xa1 : 108 < ((bAt l 18 : Nat) : Int) := by omega
  simp -implicitDefEqProofs (disch := first | omega | (simp -implicitDefEqProofs only [szs, ne_eq] <;> omega) | fail) only [go_sem, seval, ↓reduceIte, ir92_d, qE, t0, t2, h1, g18, hRb, hw18, z1, z2, z3, hWz, xa1]
  refine bad (fun h => absurd h.1 (by omega)) _ _ (by simp -implicitDefEqProofs (disch := first | omega | (simp -implicitDefEqProofs only [szs, ne_eq] <;> omega) | fail) only [go_sem, seval, ↓reduceIte, t2]) (by simp -implicitDefEqProofs (disch := first | omega | (simp -implicitDefEqProofs only [szs, ne_eq] <;> omega) | fail) only [go_sem, seval, ↓reduceIte]) (by simp -implicitDefEqProofs (disch := first | omega | (simp -implicitDefEqProofs only [szs, ne_eq] <;> omega) | fail) only [go_sem, seval, ↓reduceIte]) (by simp only [Heap.n_set]; omega) (fun k q1 q2 => qB (Heap.lt_of_get z1) q2 _) ⟨_, qF (Heap.lt_of_get z1) rfl _, by simp only [Blk.size_set]; exact z2, fun j hj => ?_⟩
  simp only [Blk.get_set]
  have hh : j = 0 ∨ j = 1 ∨ j = 2 ∨ j = 3 := by omega
  rcases hh with rfl | rfl | rfl | rfl
  ·exact .inl ⟨_, rfl⟩
  ·exact .inl ⟨_, rfl⟩
  ·exact .inr ⟨_, rfl⟩
  ·exact .inr ⟨_, rfl⟩
 have xa1 : ¬ 108 < ((bAt l 18 : Nat) : Int) := by omega
 by_cases a2 : 1 ≤ bAt l 17
 rotate_left
 ·have xa2 : ((bAt l 17 : Nat) : Int) < 1 := by omega
  simp -implicitDefEqProofs (disch := first | omega | (simp -implicitDefEqProofs only [szs, ne_eq] <;> omega) | fail) only [go_sem, seval, ↓reduceIte, ir92_d, qE, t0, t2, t5, h1, g18, hRb, hw18, m1, m2, m4, hRm, z1, z2, z3, hWz, xa1, xa2]
  refine bad (fun h => absurd h.2.1 (by omega)) _ _ (by simp -implicitDefEqProofs (disch := first | omega | (simp -implicitDefEqProofs only [szs, ne_eq] <;> omega) | fail) only [go_sem, seval, ↓reduceIte, t2]) (by simp -implicitDefEqProofs (disch := first | omega | (simp -implicitDefEqProofs only [szs, ne_eq] <;> omega) | fail) only [go_sem, seval, ↓reduceIte]) (by simp -implicitDefEqProofs (disch := first | omega | (simp -implicitDefEqProofs only [szs, ne_eq] <;> omega) | fail) only [go_sem, seval, ↓reduceIte]) (by simp only [Heap.n_set]; omega) (fun k q1 q2 => qB (Heap.lt_of_get z1) q2 _) ⟨_, qF (Heap.lt_of_get z1) rfl _, by simp only [Blk.size_set]; exact z2, fun j hj => ?_⟩
  simp only [Blk.get_set]
  have hh : j = 0 ∨ j = 1 ∨ j = 2 ∨ j = 3 := by omega
  rcases hh with rfl | rfl | rfl | rfl
  ·exact .inl ⟨_, rfl⟩
  ·exact .inl ⟨_, rfl⟩
  ·exact .inr ⟨_, rfl⟩
  ·exact .inr ⟨_, rfl⟩
 have xa2 : ¬ ((bAt l 17 : Nat) : Int) < 1 := by omega
 by_cases a3 : bAt l 17 ≤ 64
 rotate_left
 ·have xa3 : 64 < ((bAt l 17 : Nat) : Int) := by omega
  simp -implicitDefEqProofs (disch := first | omega | (simp -implicitDefEqProofs only [szs, ne_eq] <;> omega) | fail) only [go_sem, seval, ↓reduceIte, ir92_d, qE, t0, t2, t5, h1, g18, hRb, hw18, m1, m2, m4, hRm, z1, z2, z3, hWz, xa1, xa2, xa3]
  refine bad (fun h => absurd h.2.2.1 (by omega)) _ _ (by simp -implicitDefEqProofs (disch := first | omega | (simp -implicitDefEqProofs only [szs, ne_eq] <;> omega) | fail) only [go_sem, seval, ↓reduceIte, t2]) (by simp -implicitDefEqProofs (disch := first | omega | (simp -implicitDefEqProofs only [szs, ne_eq] <;> omega) | fail) only [go_sem, seval, ↓reduceIte]) (by simp -implicitDefEqProofs (disch := first | omega | (simp -implicitDefEqProofs only [szs, ne_eq] <;> omega) | fail) only [go_sem, seval, ↓reduceIte]) (by simp only [Heap.n_set]; omega) (fun k q1 q2 => qB (Heap.lt_of_get z1) q2 _) ⟨_, qF (Heap.lt_of_get z1) rfl _, by simp only [Blk.size_set]; exact z2, fun j hj => ?_⟩
  simp only [Blk.get_set]
  have hh : j = 0 ∨ j = 1 ∨ j = 2 ∨ j = 3 := by omega
  rcases hh with rfl | rfl | rfl | rfl
  ·exact .inl ⟨_, rfl⟩
  ·exact .inl ⟨_, rfl⟩
  ·exact .inr ⟨_, rfl⟩
  ·exact .inr ⟨_, rfl⟩
 have xa3 : ¬ 64 < ((bAt l 17 : Nat) : Int) := by omega
 by_cases a4 : bAt l 16 < bAt l 17
 rotate_left
 ·have xa4 : ((bAt l 17 : Nat) : Int) ≤ ((bAt l 16 : Nat) : Int) := by omega
  simp -implicitDefEqProofs (disch := first | omega | (simp -implicitDefEqProofs only [szs, ne_eq] <;> omega) | fail) only [go_sem, seval, ↓reduceIte, ir92_d, qE, t0, t2, t5, h1, g18, hRb, hw18, m1, m2, m3, m4, hRm, z1, z2, z3, hWz, xa1, xa2, xa3, xa4]
  refine bad (fun h => absurd h.2.2.2.1 (by omega)) _ _ (by simp -implicitDefEqProofs (disch := first | omega | (simp -implicitDefEqProofs only [szs, ne_eq] <;> omega) | fail) only [go_sem, seval, ↓reduceIte, t2]) (by simp -implicitDefEqProofs (disch := first | omega | (simp -implicitDefEqProofs only [szs, ne_eq] <;> omega) | fail) only [go_sem, seval, ↓reduceIte]) (by simp -implicitDefEqProofs (disch := first | omega | (simp -implicitDefEqProofs only [szs, ne_eq] <;> omega) | fail) only [go_sem, seval, ↓reduceIte]) (by simp only [Heap.n_set]; omega) (fun k q1 q2 => qB (Heap.lt_of_get z1) q2 _) ⟨_, qF (Heap.lt_of_get z1) rfl _, by simp only [Blk.size_set]; exact z2, fun j hj => ?_⟩
  simp only [Blk.get_set]
  have hh : j = 0 ∨ j = 1 ∨ j = 2 ∨ j = 3 := by omega
  rcases hh with rfl | rfl | rfl | rfl
  ·exact .inl ⟨_, rfl⟩
  ·exact .inl ⟨_, rfl⟩
  ·exact .inr ⟨_, rfl⟩
  ·exact .inr ⟨_, rfl⟩
 have xa4 : ¬ ((bAt l 17 : Nat) : Int) ≤ ((bAt l 16 : Nat) : Int) := by omega
 have hw1 : IntKind.u8.wrap (((bAt l 16 : Nat) : Int) + 1) = ((bAt l 16 : Nat) : Int) + 1 := by
  rw [show ((bAt l 16 : Nat) : Int) + 1 = ((bAt l 16 + 1 : Nat) : Int) by omega, wrap8, Nat.mod_eq_of_lt (by omega)]
 have good : (bAt l 16 + 1 < bAt l 17 → bAt l 18 = 108) → (1 < bAt l 17 → bAt l 18 ≠ 0) → ∀ tr', tr'.get 0 = some (.slice (some (b, 0)) 128 128 true) → tr'.get 2 = some (.ptr (some (zb, 0))) → tr'.get 5 = some (.ptr (some (mb, 0))) → tr'.get 6 = some (.int .i64 (bAt l 18 : Nat)) → GO (Try.prog : MP) R W none Q (It.code ir92_e :: t) ⟨⟨78, tr'⟩, []⟩ h := fun a5 a6 tr' u0 u2 u5 u6 =>
  read_e h1 h2 h3 hb hR hW hn0 hWz' a1 hbb m1 m2 m0 z1 z2 z3 ⟨b16, b17⟩ u0 u2 u5 u6 (hk ⟨a1, a2, a3, a4, a5, a6⟩)
 by_cases p5 : bAt l 16 + 1 < bAt l 17
 ·have x5 : ((bAt l 16 : Nat) : Int) + 1 < ((bAt l 17 : Nat) : Int) := by omega
  have x7 : 1 < ((bAt l 17 : Nat) : Int) := by omega
  by_cases a5 : bAt l 18 = 108
  rotate_left
  ·have x6 : ¬ ((bAt l 18 : Nat) : Int) = 108 := by omega
   simp -implicitDefEqProofs (disch := first | omega | (simp -implicitDefEqProofs only [szs, ne_eq] <;> omega) | fail) only [go_sem, seval, ↓reduceIte, ir92_d, qE, t0, t2, t5, h1, g18, hRb, hw18, m1, m2, m3, m4, hRm, z1, z2, z3, hWz, xa1, xa2, xa3, xa4, hw1, x5]
   refine bad (fun h => a5 (h.2.2.2.2.1 p5)) _ _ (by simp -implicitDefEqProofs (disch := first | omega | (simp -implicitDefEqProofs only [szs, ne_eq] <;> omega) | fail) only [go_sem, seval, ↓reduceIte, t2]) (by simp -implicitDefEqProofs (disch := first | omega | (simp -implicitDefEqProofs only [szs, ne_eq] <;> omega) | fail) only [go_sem, seval, ↓reduceIte]) (by simp -implicitDefEqProofs (disch := first | omega | (simp -implicitDefEqProofs only [szs, ne_eq] <;> omega) | fail) only [go_sem, seval, ↓reduceIte]) (by simp only [Heap.n_set]; omega) (fun k q1 q2 => qB (Heap.lt_of_get z1) q2 _) ⟨_, qF (Heap.lt_of_get z1) rfl _, by simp only [Blk.size_set]; exact z2, fun j hj => ?_⟩
   simp only [Blk.get_set]
   have hh : j = 0 ∨ j = 1 ∨ j = 2 ∨ j = 3 := by omega
   rcases hh with rfl | rfl | rfl | rfl
   ·exact .inl ⟨_, rfl⟩
   ·exact .inl ⟨_, rfl⟩
   ·exact .inr ⟨_, rfl⟩
   ·exact .inr ⟨_, rfl⟩
  ·have x6 : (((bAt l 18 : Nat) : Int) == 108) = true := by rw [beq_iff_eq]; omega
   have x8 : ¬ ((bAt l 18 : Nat) : Int) = 0 := by omega
   simp -implicitDefEqProofs (disch := first | omega | (simp -implicitDefEqProofs only [szs, ne_eq] <;> omega) | fail) only [go_sem, seval, ↓reduceIte, ir92_d, t0, t5, h1, g18, hRb, hw18, m1, m2, m3, m4, hRm, xa1, xa2, xa3, xa4, hw1, x5, bne, x6, x7]
   exact good (fun _ => a5) (fun _ => by omega) _ (by simp -implicitDefEqProofs (disch := first | omega | (simp -implicitDefEqProofs only [szs, ne_eq] <;> omega) | fail) only [go_sem, seval, ↓reduceIte, reduceCtorEq, t0]) (by simp -implicitDefEqProofs (disch := first | omega | (simp -implicitDefEqProofs only [szs, ne_eq] <;> omega) | fail) only [go_sem, seval, ↓reduceIte, t2]) (by simp -implicitDefEqProofs (disch := first | omega | (simp -implicitDefEqProofs only [szs, ne_eq] <;> omega) | fail) only [go_sem, seval, ↓reduceIte, t5]) (by simp -implicitDefEqProofs (disch := first | omega | (simp -implicitDefEqProofs only [szs, ne_eq] <;> omega) | fail) only [go_sem, seval, ↓reduceIte])
 ·have x5 : ¬ ((bAt l 16 : Nat) : Int) + 1 < ((bAt l 17 : Nat) : Int) := by omega
  by_cases p6 : 1 < bAt l 17
  ·have x7 : 1 < ((bAt l 17 : Nat) : Int) := by omega
   by_cases a6 : bAt l 18 = 0
   ·have x8 : (((bAt l 18 : Nat) : Int) == 0) = true := by rw [beq_iff_eq]; omega
    simp -implicitDefEqProofs (disch := first | omega | (simp -implicitDefEqProofs only [szs, ne_eq] <;> omega) | fail) only [go_sem, seval, ↓reduceIte, ir92_d, qE, t0, t2, t5, h1, g18, hRb, hw18, m1, m2, m3, m4, hRm, z1, z2, z3, hWz, xa1, xa2, xa3, xa4, hw1, x5, x7, x8]
    refine bad (fun h => h.2.2.2.2.2 p6 a6) _ _ (by simp -implicitDefEqProofs (disch := first | omega | (simp -implicitDefEqProofs only [szs, ne_eq] <;> omega) | fail) only [go_sem, seval, ↓reduceIte, t2]) (by simp -implicitDefEqProofs (disch := first | omega | (simp -implicitDefEqProofs only [szs, ne_eq] <;> omega) | fail) only [go_sem, seval, ↓reduceIte]) (by simp -implicitDefEqProofs (disch := first | omega | (simp -implicitDefEqProofs only [szs, ne_eq] <;> omega) | fail) only [go_sem, seval, ↓reduceIte]) (by simp only [Heap.n_set]; omega) (fun k q1 q2 => qB (Heap.lt_of_get z1) q2 _) ⟨_, qF (Heap.lt_of_get z1) rfl _, by simp only [Blk.size_set]; exact z2, fun j hj => ?_⟩
    simp only [Blk.get_set]
    have hh : j = 0 ∨ j = 1 ∨ j = 2 ∨ j = 3 := by omega
    rcases hh with rfl | rfl | rfl | rfl
    ·exact .inl ⟨_, rfl⟩
    ·exact .inl ⟨_, rfl⟩
    ·exact .inr ⟨_, rfl⟩
    ·exact .inr ⟨_, rfl⟩
   ·have x8 : ¬ ((bAt l 18 : Nat) : Int) = 0 := by omega
    simp -implicitDefEqProofs (disch := first | omega | (simp -implicitDefEqProofs only [szs, ne_eq] <;> omega) | fail) only [go_sem, seval, ↓reduceIte, ir92_d, qE, t0, t5, h1, g18, hRb, hw18, m1, m2, m3, m4, hRm, xa1, xa2, xa3, xa4, hw1, x5, x7]
    exact good (fun h => absurd h p5) (fun _ => a6) _ (by simp -implicitDefEqProofs (disch := first | omega | (simp -implicitDefEqProofs only [szs, ne_eq] <;> omega) | fail) only [go_sem, seval, ↓reduceIte, reduceCtorEq, t0]) (by simp -implicitDefEqProofs (disch := first | omega | (simp -implicitDefEqProofs only [szs, ne_eq] <;> omega) | fail) only [go_sem, seval, ↓reduceIte, t2]) (by simp -implicitDefEqProofs (disch := first | omega | (simp -implicitDefEqProofs only [szs, ne_eq] <;> omega) | fail) only [go_sem, seval, ↓reduceIte, t5]) (by simp -implicitDefEqProofs (disch := first | omega | (simp -implicitDefEqProofs only [szs, ne_eq] <;> omega) | fail) only [go_sem, seval, ↓reduceIte])
  ·have x7 : ¬ 1 < ((bAt l 17 : Nat) : Int) := by omega
   simp -implicitDefEqProofs (disch := first | omega | (simp -implicitDefEqProofs only [szs, ne_eq] <;> omega) | fail) only [go_sem, seval, ↓reduceIte, ir92_d, qE, t0, t5, h1, g18, hRb, hw18, m1, m2, m3, m4, hRm, xa1, xa2, xa3, xa4, hw1, x5, x7]
   exact good (fun h => absurd h p5) (fun h => absurd h p6) _ (by simp -implicitDefEqProofs (disch := first | omega | (simp -implicitDefEqProofs only [szs, ne_eq] <;> omega) | fail) only [go_sem, seval, ↓reduceIte, reduceCtorEq, t0]) (by simp -implicitDefEqProofs (disch := first | omega | (simp -implicitDefEqProofs only [szs, ne_eq] <;> omega) | fail) only [go_sem, seval, ↓reduceIte, t2]) (by simp -implicitDefEqProofs (disch := first | omega | (simp -implicitDefEqProofs only [szs, ne_eq] <;> omega) | fail) only [go_sem, seval, ↓reduceIte, t5]) (by simp -implicitDefEqProofs (disch := first | omega | (simp -implicitDefEqProofs only [szs, ne_eq] <;> omega) | fail) only [go_sem, seval, ↓reduceIte])
theorem allOne_of : ∀ {l : List V}, (∀ i, i < l.length → (l.getD i qE).one = true) → allOne l = true
 | [], _ => rfl
 | v :: l, h => by
  have h0 := h 0 (by simp)
  have h1 := allOne_of (l := l) fun i hi => by
   have := h (i + 1) (by simp; omega)
   simpa using this
  have h0' : v.one = true := by simpa using h0
  simp only [allOne, h0', h1]
set_option maxHeartbeats 8000000 in
theorem recread_ok {S : Set'} {b : Nat} {l : List V} (hv : LR h S (.slice (some (b, 0)) 128 128 true) l) (hl : l.length = 128) (hb : Byt l) (hR : ∀ b, R b) : SF Try.prog 92 [.slice (some (b, 0)) 128 128 true] h R W fun r g => ∃ (m : List V) (v : V), r = .tuple [.agg m, v, .bool (jT l).isSome] ∧ m.length = 4 ∧ allOne m = true ∧ v.one = true ∧ (∀ x, jT l = some x → m = x.v ∧ Own h.n g v x.dat 5) ∧ h.n ≤ g.n ∧ ∀ k, k < h.n → g.get k = h.get k := by
 rcases hv with ⟨rfl, _⟩ | ⟨b', o, cap, ex, c, ce, e, hS, h1, h2, h3⟩
 ·cases hl
 rw [hl] at e h2 h3
 cases e
 rw [Nat.zero_add] at h2
 have hlt := Heap.lt_of_get h1
 have hRb := hR b
 obtain ⟨g16, b16⟩ := bAt_get h3 hb (show 16 < 128 by omega)
 obtain ⟨g17, b17⟩ := bAt_get h3 hb (show 17 < 128 by omega)
 obtain ⟨g18, b18⟩ := bAt_get h3 hb (show 18 < 128 by omega)
 refine SF.go hm Try.func92 ir92_eq ?_
 rw [ir92_c_eq]
 simp -implicitDefEqProofs (disch := first | omega | (simp -implicitDefEqProofs only [szs, ne_eq] <;> omega) | fail) only [go_sem, seval, ↓reduceIte, reduceCtorEq, ir92_c, sl_8]
 have kp : ∀ k, k < h.n → (h.push (.cells (Blk.of [.int .u64 0, .int .u64 0, .int .u8 0, .int .u8 0]) 90)).get k = h.get k := fun k hk => qC (by omega) _
 have h1p := (kp b hlt).trans h1
 have s8 := sub_lr (ex := true) (cap := 128) (o := 0) (k := 8) h1p h2 h3 (by omega)
 have s16 := sub_lr (ex := true) (cap := 120) (o := 8) (k := 8) h1p h2 h3 (by omega)
 have l8 : ((l.drop 0).take 8).length = 8 := by rw [List.length_take, List.length_drop]; omega
 have l16 : ((l.drop 8).take 8).length = 8 := by rw [List.length_take, List.length_drop]; omega
 refine qN.of (SF.foot (numb_ok (R := qR) (W := noW) s8 l8 ((hb.drop 0).take 8) (fun _ => trivial)) (fun _ h => h) (fun _ h => h)) ?_
 rintro r g1 ⟨rfl, rfl⟩
 simp -implicitDefEqProofs (disch := first | omega | (simp -implicitDefEqProofs only [szs, ne_eq] <;> omega) | fail) only [go_sem, seval, ↓reduceIte, reduceCtorEq, sl_16]
 refine qN.of (SF.foot (numb_ok (R := qR) (W := noW) s16 l16 ((hb.drop 8).take 8) (fun _ => trivial)) (fun _ h => h) (fun _ h => h)) ?_
 rintro r g2 ⟨rfl, rfl⟩
 have i16 : (16 : Int) < ((128 : Nat) : Int) := by decide
 have i17 : (17 : Int) < ((128 : Nat) : Int) := by decide
 have hA : 16 < c.size := by omega
 have hB : 17 < c.size := by omega
 simp -implicitDefEqProofs (disch := first | omega | (simp -implicitDefEqProofs only [szs, ne_eq] <;> omega) | fail) only [go_sem, seval, ↓reduceIte, reduceCtorEq, qE, h1, g16, g17, hRb]
 refine ⟨?_, ?_, ?_⟩
 ·simp only [noW]
  (try simp only [List.not_mem_nil, or_false, false_or, and_false, false_implies, implies_true, not_false_eq_true, List.mem_cons, and_true, true_and]; try and_intros; all_goals (try trivial); all_goals (intro b hb; first | omega | (intro hc; first | omega | (rcases hb with hb | hb <;> first | omega))))
 ·simp only [noW]
  and_intros
  all_goals (intros; first | exact .inr (hR _) | exact (by assumption : False).elim | omega)
 obtain ⟨g, eg⟩ : ∃ g, g = ((h.push (.cells (Blk.of [.int .u64 0, .int .u64 0, .int .u8 0, .int .u8 0]) 90)).push (.cells (Blk.of [.int .u64 0, .int .u64 0, .int .u8 0, .int .u8 0]) 90)).set (h.n + 1) (.cells (((((Blk.of [.int .u64 0, .int .u64 0, .int .u8 0, .int .u8 0]).set 0 (.int .u64 ((jQ ((l.drop 0).take 8) : Nat) : Int))).set 1 (.int .u64 ((jQ ((l.drop 8).take 8) : Nat) : Int))).set 2 (.int .u8 ((bAt l 16 : Nat) : Int))).set 3 (.int .u8 ((bAt l 17 : Nat) : Int))) 90) := ⟨_, rfl⟩
 rw [← eg]
 have gn : g.n = h.n + 2 := by rw [eg]; simp
 have gk : ∀ k, k < h.n → g.get k = h.get k := fun k hk => by rw [eg, qB (by simp) (by omega), qC (by simp; omega), qC (by omega)]
 have gz : g.get h.n = some (.cells (Blk.of [.int .u64 0, .int .u64 0, .int .u8 0, .int .u8 0]) 90) := by rw [eg, qB (by simp) (by omega), qC (by simp)]; exact qH rfl _
 have gm : ∃ c, g.get (h.n + 1) = some (.cells c 90) ∧ c.size = 4 ∧ c.gets 0 4 = (jA l).v := by
  refine ⟨_, by rw [eg]; exact qF (by simp) rfl _, rfl, ?_⟩
  refine List.ext_getElem? fun j => ?_
  by_cases hj : j < 4
  ·rw [Blk.qM _ _ _ _ hj, Nat.zero_add]
   simp only [Blk.get_set]
   have hh : j = 0 ∨ j = 1 ∨ j = 2 ∨ j = 3 := by omega
   rcases hh with rfl | rfl | rfl | rfl <;> rfl
  ·rw [List.getElem?_eq_none (by rw [Blk.qJ]; omega), List.getElem?_eq_none (by show 4 ≤ j; omega)]
 clear eg
 obtain ⟨cm, gm1, gm2, gm3⟩ := gm
 refine read_d (R := fun b => h.n ≤ b ∨ R b) (W := fun b => h.n ≤ b ∨ W b) (n0 := h.n) (b := b) (mb := h.n + 1) (zb := h.n) (l := l) ((gk b hlt).trans h1) h2 h3 hb (fun b => .inr (hR b)) (fun b hb => .inl hb) (by omega) (Nat.le_refl _) hlt gm1 gm2 gm3 gz rfl rfl (by simp -implicitDefEqProofs (disch := first | omega | (simp -implicitDefEqProofs only [szs, ne_eq] <;> omega) | fail) only [go_sem, seval, ↓reduceIte]) (by simp -implicitDefEqProofs (disch := first | omega | (simp -implicitDefEqProofs only [szs, ne_eq] <;> omega) | fail) only [go_sem, seval, ↓reduceIte, reduceCtorEq]) (by simp -implicitDefEqProofs (disch := first | omega | (simp -implicitDefEqProofs only [szs, ne_eq] <;> omega) | fail) only [go_sem, seval, ↓reduceIte, reduceCtorEq]) ?_ ?_
 ·rintro hno tr g' t2 t3 t4 n' k' ⟨c', d1, d2, d3⟩
  have hnn := recA_bad hno
  obtain ⟨m, hmm⟩ : ∃ m, m = c'.gets 0 4 := ⟨_, rfl⟩
  have hml : m.length = 4 := by rw [hmm, Blk.qJ]
  have hma : allOne m = true := by
   have : ∀ i, i < m.length → (m.getD i qE).one = true := fun i hi => by
    rw [hmm, List.getD_eq_getElem?_getD, Blk.qM _ _ _ _ (by omega), Nat.zero_add]
    rcases d3 i (by omega) with ⟨n, e⟩ | ⟨n, e⟩ <;> (rw [Option.getD_some, e]; rfl)
   exact allOne_of this
  simp -implicitDefEqProofs (disch := first | omega | (simp -implicitDefEqProofs only [szs, ne_eq] <;> omega) | fail) only [go_sem, seval, t2, t3, t4, d1, d2, ← hmm]
  refine ⟨m, .slice none 0 0 true, by rw [hnn]; rfl, hml, hma, rfl, (fun x hx => by rw [hnn] at hx; cases hx), by omega, fun k hk => by rw [k' k (by omega) (by omega), gk k hk]⟩
 ·rintro hok tr g' v t2 t3 t4 ho n' k' ⟨c', d1, d2, d3⟩
  have hgd := recA_good hl hb hok
  have hone := ho.lr.one
  simp -implicitDefEqProofs (disch := first | omega | (simp -implicitDefEqProofs only [szs, ne_eq] <;> omega) | fail) only [go_sem, seval, t2, t3, t4, d1, d2, d3]
  refine ⟨(jA l).v, v, ?_, rfl, rfl, hone, fun x hx => ?_, by omega, fun k hk => by rw [k' k (by omega) (by omega), gk k hk]⟩
  ·rw [hgd]
   cases sameB (jA l).put l <;> rfl
  ·rw [hgd] at hx
   split at hx
   ·cases hx; exact ⟨rfl, ho⟩
   ·cases hx
end Go.Proofs.Ytakgjjbmniilhaa
