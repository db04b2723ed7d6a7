/- The log: numbers in eight bytes, a record's sector. -/
import Derived.Test.YtakgjjbmniilhaaGA
set_option linter.unusedVariables false
set_option linter.unusedSimpArgs false
set_option linter.unusedSimpArgs false
set_option maxRecDepth 100000
set_option linter.unusedVariables false
set_option linter.unusedSimpArgs false
namespace Go.Proofs.Ytakgjjbmniilhaa
open Go Go.Vm
variable {h g : Heap} {R W : Set'}
theorem shrN (n s : Nat) (hs : s < 64) : intShift .shr .u64 (n : Int) (s : Int) = some (.int .u64 ((n / 2 ^ s : Nat) : Int)) := by
  unfold intShift
  simp only [show ¬ ((s : Int) < 0) by omega, if_false]
  have h : Int.fdiv (n : Int) (2 ^ (min (s : Int).toNat IntKind.u64.bits)) = ((n / 2 ^ s : Nat) : Int) := by
    rw [show min (s : Int).toNat IntKind.u64.bits = s by rw [show IntKind.u64.bits = 64 from rfl]; omega, Int.fdiv_eq_ediv_of_nonneg _ (by exact Int.pow_nonneg (by omega))]
    simp
  rw [h]
theorem big_get (n : Nat) {i : Nat} (hi : i < 8) : (bigB n)[i]? = some (bV (n / 2 ^ (56 - 8 * i))) := by
  have hh : i = 0 ∨ i = 1 ∨ i = 2 ∨ i = 3 ∨ i = 4 ∨ i = 5 ∨ i = 6 ∨ i = 7 := by omega
  rcases hh with rfl | rfl | rfl | rfl | rfl | rfl | rfl | rfl <;> simp [bigB]
set_option maxHeartbeats 4000000 in
theorem big_ok {n : Nat} (hR : ∀ b, R b) : SF Try.prog 44 [.int .u64 (n : Int)] h R W fun r g => Own h.n g r (bigB n) 5 ∧ h.n ≤ g.n ∧ ∀ b, b < h.n → g.get b = h.get b := by
  refine SF.go hm Try.func44 ir44_eq ?_
  simp -implicitDefEqProofs (disch := (first | omega | (simp -implicitDefEqProofs only [szs, ne_eq] <;> omega) | fail)) only [go_sem, seval, ↓reduceIte, reduceCtorEq, ir44]
  refine GLoop.inv hm (fun k f g => f.mks = [] ∧ f.tm.n = 17 ∧ f.tm.get 0 = some (.int .u64 (n : Int)) ∧ ∃ (i : Nat) (v : V), i + k = 8 ∧ f.tm.get 4 = some (.int .i64 (56 - 8 * (i : Int))) ∧ f.tm.get 3 = some v ∧ Own h.n g v ((bigB n).take i) 5 ∧ h.n ≤ g.n ∧ ∀ b, b < h.n → g.get b = h.get b) 8 ?_ ?_
  · exact ⟨rfl, rfl, by simp -implicitDefEqProofs (disch := (first | omega | (simp -implicitDefEqProofs only [szs, ne_eq] <;> omega) | fail)) only [go_sem, seval, ↓reduceIte, reduceCtorEq], 0, _, rfl, by simp -implicitDefEqProofs (disch := (first | omega | (simp -implicitDefEqProofs only [szs, ne_eq] <;> omega) | fail)) only [go_sem, Nat.reduceAdd, Nat.reduceSub, Nat.reduceMul, Nat.reduceLT, Nat.reduceMod, Nat.reduceDiv, Nat.reduceEqDiff, Nat.reduceBEq, Nat.reduceLeDiff, ↓reduceIte, reduceCtorEq, Int.reduceAdd, Int.reduceSub, Int.reduceLT, Int.reduceLE, Int.reduceBEq, Int.reduceEq, Int.reduceToNat]; rfl, by simp -implicitDefEqProofs (disch := (first | omega | (simp -implicitDefEqProofs only [szs, ne_eq] <;> omega) | fail)) only [go_sem, seval, ↓reduceIte, reduceCtorEq], Own.nil _ _ _, Nat.le_refl _, fun _ _ => rfl⟩
  rintro k ⟨⟨n', tr⟩, mks⟩ g ⟨hmk, hn', t0, i, v, hik, t4, t3, ho, hgn, hold⟩
  simp only [Tm.get_mk] at hmk hn' t0 t4 t3
  subst hmk hn'
  by_cases hi : i < 8
  · have hc : (0 : Int) ≤ 56 - 8 * (i : Int) := by omega
    have hlen : ((bigB n).take i).length = i := by rw [List.length_take, bigB_len]; omega
    have hsh := shrN n (56 - 8 * i) (by omega)
    rw [show ((56 - 8 * i : Nat) : Int) = 56 - 8 * (i : Int) by omega] at hsh
    obtain ⟨v', g', r', w', hap, ho', hn', hk', hw', _⟩ := app_own (bytes := 1) (news := [.int .u8 ((n / 2 ^ (56 - 8 * i) % 256 : Nat) : Int)]) (h := g.push (.cells (Blk.of [.int .u8 ((n / 2 ^ (56 - 8 * i) % 256 : Nat) : Int)]) 5)) (x := .slice (some (g.n, 0)) 1 1 true) (ho.old fun b hb => w_push_ne (by omega) _) (by simp; omega) rfl (first_one (w_push_eq rfl _)) rfl (by rw [hlen]; simp only [List.length_cons, List.length_nil]; omega) (by rw [hlen]; simp only [List.length_cons, List.length_nil]; omega)
    simp only [Heap.n_push] at hn'
    have hr : allB (fun b => h.n ≤ b ∨ R b) r' := allB_of fun b _ => .inr (hR b)
    have hw : allB (fun b => h.n ≤ b ∨ W b) w' := allB_of fun b hb => .inl (hw' b hb)
    simp -implicitDefEqProofs (disch := (first | omega | (simp -implicitDefEqProofs only [szs, ne_eq] <;> omega) | fail)) only [go_sem, seval, ↓reduceIte, reduceCtorEq, ir44_l0, t0, t4, t3, hc, ↓hsh, wrap8, appendV_of ap_22, hap]
    refine ⟨hr, hw, k - 1, by omega, i + 1, v', by omega, by congr 1; omega, rfl, ?_, by omega, fun b hb => by rw [hk' b hb, w_push_ne (by omega), hold b hb]⟩
    rw [List.take_add_one, big_get n hi]; exact ho'
  · have hc : ¬ (0 : Int) ≤ 56 - 8 * (i : Int) := by omega
    obtain rfl : i = 8 := by omega
    rw [List.take_of_length_le (Nat.le_of_eq (bigB_len n))] at ho
    simp -implicitDefEqProofs (disch := (first | omega | (simp -implicitDefEqProofs only [szs, ne_eq] <;> omega) | fail)) only [go_sem, seval, ↓reduceIte, reduceCtorEq, ir44_l0, t0, t4, t3, hc]
    exact ⟨ho, hgn, hold⟩
theorem shl8 (a : Nat) (h : a * 256 < 18446744073709551616) : intShift .shl .u64 (a : Int) 8 = some (.int .u64 ((a * 256 : Nat) : Int)) := shl64 a 8 (by omega) h
theorem numB_take {l : List V} (hl : Byt l) : ∀ i, numB (l.take i) < 256 ^ i
  | 0 => by simp [numB]
  | i + 1 => by
    have hi := numB_take hl i
    rw [List.take_add_one]
    cases h : l[i]? with
    | none =>
      rw [Option.toList, List.append_nil, Nat.pow_succ]; omega
    | some v =>
      have := (bN_lt hl (List.mem_of_getElem? h)).1
      rw [Option.toList, numB, List.foldl_append, Nat.pow_succ]
      show numB (l.take i) * 256 + bN v < _
      omega
set_option maxHeartbeats 4000000 in
theorem numb_ok {S : Set'} {v : V} {l : List V} (hv : LR h S v l) (hl : l.length = 8) (hb : Byt l) (hR : ∀ b, R b) : SF Try.prog 101 [v] h R W fun r g => r = .int .u64 (numB l : Nat) ∧ g = h := by
  have hlen := hv.lenV Try.underlying22
  rw [hl] at hlen
  refine SF.go hm Try.func101 ir101_eq ?_
  simp -implicitDefEqProofs (disch := (first | omega | (simp -implicitDefEqProofs only [szs, ne_eq] <;> omega) | fail)) only [go_sem, Nat.reduceAdd, Nat.reduceSub, Nat.reduceMul, Nat.reduceLT, Nat.reduceMod, Nat.reduceDiv, Nat.reduceEqDiff, Nat.reduceBEq, Nat.reduceLeDiff, ↓reduceIte, reduceCtorEq, Int.reduceAdd, Int.reduceSub, Int.reduceLT, Int.reduceLE, Int.reduceBEq, Int.reduceEq, Int.reduceToNat, ir101, ↓hlen]
  refine GLoop.inv hm (fun k f g => f.mks = [] ∧ f.tm.n = 19 ∧ g = h ∧ f.tm.get 6 = some v ∧ f.tm.get 7 = some (.int .i64 8) ∧ ∃ i : Nat, i + k = 8 ∧ f.tm.get 8 = some (.int .i64 (i : Int)) ∧ f.tm.get 3 = some (.int .u64 (numB (l.take i) : Nat))) 8 ?_ ?_
  · exact ⟨rfl, rfl, rfl, by simp -implicitDefEqProofs (disch := (first | omega | (simp -implicitDefEqProofs only [szs, ne_eq] <;> omega) | fail)) only [go_sem, Nat.reduceAdd, Nat.reduceSub, Nat.reduceMul, Nat.reduceLT, Nat.reduceMod, Nat.reduceDiv, Nat.reduceEqDiff, Nat.reduceBEq, Nat.reduceLeDiff, ↓reduceIte, reduceCtorEq, Int.reduceAdd, Int.reduceSub, Int.reduceLT, Int.reduceLE, Int.reduceBEq, Int.reduceEq, Int.reduceToNat], by simp -implicitDefEqProofs (disch := (first | omega | (simp -implicitDefEqProofs only [szs, ne_eq] <;> omega) | fail)) only [go_sem, Nat.reduceAdd, Nat.reduceSub, Nat.reduceMul, Nat.reduceLT, Nat.reduceMod, Nat.reduceDiv, Nat.reduceEqDiff, Nat.reduceBEq, Nat.reduceLeDiff, ↓reduceIte, reduceCtorEq, Int.reduceAdd, Int.reduceSub, Int.reduceLT, Int.reduceLE, Int.reduceBEq, Int.reduceEq, Int.reduceToNat]; rfl, 0, rfl, by simp -implicitDefEqProofs (disch := (first | omega | (simp -implicitDefEqProofs only [szs, ne_eq] <;> omega) | fail)) only [go_sem, Nat.reduceAdd, Nat.reduceSub, Nat.reduceMul, Nat.reduceLT, Nat.reduceMod, Nat.reduceDiv, Nat.reduceEqDiff, Nat.reduceBEq, Nat.reduceLeDiff, ↓reduceIte, reduceCtorEq, Int.reduceAdd, Int.reduceSub, Int.reduceLT, Int.reduceLE, Int.reduceBEq, Int.reduceEq, Int.reduceToNat]; rfl, by simp -implicitDefEqProofs (disch := (first | omega | (simp -implicitDefEqProofs only [szs, ne_eq] <;> omega) | fail)) only [go_sem, Nat.reduceAdd, Nat.reduceSub, Nat.reduceMul, Nat.reduceLT, Nat.reduceMod, Nat.reduceDiv, Nat.reduceEqDiff, Nat.reduceBEq, Nat.reduceLeDiff, ↓reduceIte, reduceCtorEq, Int.reduceAdd, Int.reduceSub, Int.reduceLT, Int.reduceLE, Int.reduceBEq, Int.reduceEq, Int.reduceToNat]; rfl⟩
  rintro k ⟨⟨n', tr⟩, mks⟩ g ⟨hmk, hn', rfl, t6, t7, i, hik, t8, t3⟩
  simp only [Tm.get_mk] at hmk hn' t6 t7 t8 t3
  subst hmk hn'
  by_cases hi : i < 8
  · have hc : (i : Int) < 8 := by omega
    have hi0 : (0 : Int) ≤ (i : Int) := by omega
    have hil : i < l.length := by omega
    have hc8 : (i : Int) < ((8 : Nat) : Int) := by omega
    obtain ⟨b, o, cap, ex, c, ce, e, _, h1, h2, h3⟩ := hv.get hil
    rw [hl] at e h2
    subst e
    obtain ⟨m1, m2⟩ := bN_lt hb (List.getElem_mem hil)
    obtain ⟨m, hm'⟩ : ∃ m, m = bN l[i] := ⟨_, rfl⟩
    rw [← hm'] at m1 m2
    have h3' : c.get (o + i) = .int .u8 (m : Int) := by
      rw [h3, List.getD_eq_getElem?_getD, List.getElem?_eq_getElem hil]; exact m2
    have hlt := numB_take hb i
    have hpw : 256 ^ i ≤ 256 ^ 7 := Nat.pow_le_pow_right (by omega) (by omega)
    have e7 : 256 ^ 7 = 72057594037927936 := by decide
    have hs8 := shl8 (numB (l.take i)) (by omega)
    have hor := or64 (numB (l.take i) * 256) m (by omega) (by omega)
    have hadd : numB (l.take i) * 256 ||| m = numB (l.take (i + 1)) := by
      rw [Nat.or_comm, show (256 : Nat) = 2 ^ 8 by decide, or_add (by simpa using m1), List.take_add_one, List.getElem?_eq_getElem hil, Option.toList, numB, numB, List.foldl_append]
      show m + _ * 256 = _ * 256 + bN l[i]
      rw [← hm']; omega
    rw [hadd] at hor
    have hw5 : IntKind.u64.wrap (m : Int) = (m : Int) := wrap64 (by omega)
    have hRb := hR b
    simp -implicitDefEqProofs (disch := (first | omega | (simp -implicitDefEqProofs only [szs, ne_eq] <;> omega) | fail)) only [go_sem, seval, ↓reduceIte, reduceCtorEq, ir101_l0, t6, t7, t8, t3, hc, hc8, hi0, h1, h2, h3', hRb, ↓hs8, ↓hor, hw5]
    exact ⟨k - 1, by omega, i + 1, by omega, by simp, rfl⟩
  · have hc : ¬ (i : Int) < 8 := by omega
    obtain rfl : i = 8 := by omega
    rw [List.take_of_length_le (by omega)] at t3
    simp -implicitDefEqProofs (disch := (first | omega | (simp -implicitDefEqProofs only [szs, ne_eq] <;> omega) | fail)) only [go_sem, seval, ↓reduceIte, reduceCtorEq, ir101_l0, t6, t7, t8, t3, hc]
end Go.Proofs.Ytakgjjbmniilhaa
