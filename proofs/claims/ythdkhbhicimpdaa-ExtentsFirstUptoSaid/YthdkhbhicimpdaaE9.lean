/- New of the program's extents where quotas may not be. -/
import Derived.Test.YthdkhbhicimpdaaE8
set_option linter.unusedVariables false
set_option maxRecDepth 100000
namespace Go.Proofs.Ythdkhbhicimpdaa
open Go Go.Vm
attribute [-go_sem] sz_113
structure QI (h : Heap) (v : V) (m : Nat) (q : Nat → Int) : Prop where
  int : ∀ i, i < m → -9223372036854775808 ≤ q i ∧ q i ≤ 9223372036854775807
  len : m ≤ 9223372036854775807
  at' : (m = 0 ∧ (v = .slice none 0 0 true ∨ ∃ a, v = .esl a)) ∨ ∃ b o cap ex c ce, v = .slice (some (b, o)) m cap ex ∧ h.get b = some (.cells c ce) ∧ o + m ≤ c.size ∧ m ≤ cap ∧ ∀ i, i < m → c.get (o + i) = .int .i64 (q i)
theorem QI.lenV {h : Heap} {v : V} {m : Nat} {q : Nat → Int} (hv : QI h v m q) (g : Heap) : Vm.lenV Try.prog 22 v g = some (m, []) := by
  rcases hv.at' with ⟨rfl, rfl | ⟨a, rfl⟩⟩ | ⟨b, o, cap, ex, c, ce, rfl, _⟩ <;> simp [Vm.lenV, Try.underlying22]
theorem QI.old {h h' : Heap} {v : V} {m : Nat} {q : Nat → Int} (hv : QI h v m q) (hk : ∀ b, b < h.n → h'.get b = h.get b) : QI h' v m q :=
  ⟨hv.int, hv.len, hv.at'.imp id fun ⟨b, o, cap, ex, c, ce, e, hb, r⟩ => ⟨b, o, cap, ex, c, ce, e, by rw [hk b (Heap.lt_of_get hb)]; exact hb, r⟩⟩
def stQ (q : Nat → Int) (n : Nat) : Nat → Int × Bool
  | 0 => (0, false)
  | i + 1 => if q i > (n : Int) - (stQ q n i).1 then ((stQ q n i).1, true) else ((stQ q n i).1 + q i, (stQ q n i).2)
theorem stQ_succ (q : Nat → Int) (n i : Nat) : stQ q n (i + 1) = if q i > (n : Int) - (stQ q n i).1 then ((stQ q n i).1, true) else ((stQ q n i).1 + q i, (stQ q n i).2) := rfl
theorem stQ_le {q : Nat → Int} {n : Nat} : ∀ {i : Nat}, (∀ j, j < i → 0 ≤ q j) → 0 ≤ (stQ q n i).1 ∧ (stQ q n i).1 ≤ n
  | 0, _ => by simp [stQ]
  | i + 1, h => by
    have h1 := stQ_le (q := q) (n := n) (i := i) fun j hj => h j (by omega)
    have h2 := h i (by omega)
    rw [stQ_succ]
    split
    · exact h1
    · simp only
      omega
theorem stQ_full {q : Nat → Int} {n : Nat} {i : Nat} (h : (stQ q n (i + 1)).2 = false) : (stQ q n i).2 = false ∧ q i ≤ (n : Int) - (stQ q n i).1 ∧ (stQ q n (i + 1)).1 = (stQ q n i).1 + q i := by
  rw [stQ_succ] at h ⊢
  split at h
  · simp at h
  · rename_i h1
    rw [if_neg h1]
    exact ⟨h, by omega, rfl⟩
theorem stQ_good {q : Nat → Int} {n : Nat} : ∀ {m : Nat}, (∀ j, j < m → 0 ≤ q j) → (stQ q n m).2 = false → (stQ q n m).1 = sumN (fun a => (q a).toNat) m ∧ sumN (fun a => (q a).toNat) m ≤ n
  | 0, _, _ => by simp [stQ, sumN]
  | m + 1, h, hf => by
    obtain ⟨h1, h2, h3⟩ := stQ_full hf
    obtain ⟨h4, h5⟩ := stQ_good (m := m) (fun j hj => h j (by omega)) h1
    have h6 := h m (by omega)
    simp only [sumN]
    constructor <;> omega
theorem there_nil {h : Heap} {R W : Set'} : SF Try.prog 58 [.ptr none] h R W fun v h' => v = .bool false ∧ h' = h := by
  refine SF.go hm Try.func58 ir58_eq ?_
  simp -implicitDefEqProofs (disch := (first | omega | fail)) only [go_sem, Nat.reduceAdd, Nat.reduceSub, Nat.reduceLT, Nat.reduceMod, Nat.reduceDiv, ↓reduceIte, reduceCtorEq, ir58, undefV]
  simp
theorem size_nil {h : Heap} {R W : Set'} : SF Try.prog 41 [.ptr none] h R W fun v h' => v = .int .i64 0 ∧ h' = h := by
  refine SF.go hm Try.func41 ir41_eq ?_
  simp -implicitDefEqProofs (disch := (first | omega | fail)) only [go_sem, Nat.reduceAdd, Nat.reduceSub, Nat.reduceLT, Nat.reduceMod, Nat.reduceDiv, ↓reduceIte, reduceCtorEq, ir41]
  refine GCall.of (there_nil) ?_
  rintro v h' ⟨rfl, rfl⟩
  simp -implicitDefEqProofs (disch := (first | omega | fail)) only [go_sem, Nat.reduceAdd, Nat.reduceSub, Nat.reduceLT, Nat.reduceMod, Nat.reduceDiv, ↓reduceIte, reduceCtorEq]
theorem xnew_none {h : Heap} {R W : Set'} {v : V} : SF Try.prog 14 [.ptr none, v] h R W fun v h' => v = .tuple [.ptr none, .int .i64 1] ∧ h' = h := by
  refine SF.go hm Try.func14 ir14_eq ?_
  simp -implicitDefEqProofs (disch := (first | omega | fail)) only [go_sem, Nat.reduceAdd, Nat.reduceSub, Nat.reduceLT, Nat.reduceMod, Nat.reduceDiv, ↓reduceIte, reduceCtorEq, ir14]
  refine GCall.of (size_nil) ?_
  rintro v h' ⟨rfl, rfl⟩
  simp -implicitDefEqProofs (disch := (first | omega | fail)) only [go_sem, Nat.reduceAdd, Nat.reduceSub, Nat.reduceLT, Nat.reduceMod, Nat.reduceDiv, ↓reduceIte, reduceCtorEq]
theorem xnew_arg {h : Heap} {R W : Set'} {bd : Nat} {L : DL} {D : DS} (hd : DiskAt h bd L D) (hR : ∀ b, R b) {v : V} {m : Nat} {q : Nat → Int} (hq : QI h v m q) (hm1 : m = 0 ∨ 8 < m) : SF Try.prog 14 [.ptr (some (bd, 0)), v] h R W fun v h' => v = .tuple [.ptr none, .int .i64 2] ∧ h' = h := by
  have hdn := hd.pos
  have hlv := hq.lenV
  have hl := hq.len
  refine SF.go hm Try.func14 ir14_eq ?_
  simp -implicitDefEqProofs (disch := (first | omega | fail)) only [go_sem, Nat.reduceAdd, Nat.reduceSub, Nat.reduceLT, Nat.reduceMod, Nat.reduceDiv, ↓reduceIte, reduceCtorEq, ir14]
  refine GCall.of (size_ok hd (.inr (hR _))) ?_
  rintro v h' ⟨rfl, rfl⟩
  rcases hm1 with rfl | h8
  · simp -implicitDefEqProofs (disch := (first | omega | fail)) only [go_sem, Nat.reduceAdd, Nat.reduceSub, Nat.reduceLT, Nat.reduceMod, Nat.reduceDiv, ↓reduceIte, reduceCtorEq, undefV, ↓hlv]
  · simp -implicitDefEqProofs (disch := (first | omega | fail)) only [go_sem, Nat.reduceAdd, Nat.reduceSub, Nat.reduceLT, Nat.reduceMod, Nat.reduceDiv, ↓reduceIte, reduceCtorEq, ↓hlv]
set_option maxHeartbeats 2000000 in
theorem xnew_bad {h : Heap} {R W : Set'} {bd : Nat} {L : DL} {D : DS} (hd : DiskAt h bd L D) (hR : ∀ b, R b) {v : V} {m : Nat} {q : Nat → Int} {e : Int} (hq : QI h v m q) (hm1 : 1 ≤ m ∧ m ≤ 8) (he : (e = 2 ∧ ∃ i, i < m ∧ q i < 0) ∨ (e = 5 ∧ (∀ i, i < m → 0 ≤ q i) ∧ (stQ q D.n m).2 = true)) : SF Try.prog 14 [.ptr (some (bd, 0)), v] h R W fun v h' => v = .tuple [.ptr none, .int .i64 e] ∧ h.n ≤ h'.n ∧ ∀ b, b < h.n → h'.get b = h.get b := by
  have hint := hq.int
  rcases hq.at' with ⟨h0, _⟩ | ⟨b, o, cap, ex, cq, ce, rfl, hb, hsz, hcap, hget⟩
  · omega
  have hdn := hd.pos
  have hlb := Heap.lt_of_get hb
  have hRb := hR b
  refine SF.go hm Try.func14 ir14_eq ?_
  simp -implicitDefEqProofs (disch := (first | omega | (simp -implicitDefEqProofs only [szs, ne_eq] <;> omega) | fail)) only [go_sem, Nat.reduceAdd, Nat.reduceSub, Nat.reduceLT, Nat.reduceMod, Nat.reduceDiv, ↓reduceIte, reduceCtorEq, ir14]
  refine GCall.of (size_ok hd (.inr (hR _))) ?_
  rintro v h' ⟨rfl, rfl⟩
  simp -implicitDefEqProofs (disch := (first | omega | (simp -implicitDefEqProofs only [szs, ne_eq] <;> omega) | fail)) only [go_sem, Nat.reduceAdd, Nat.reduceSub, Nat.reduceLT, Nat.reduceMod, Nat.reduceDiv, ↓reduceIte, reduceCtorEq]
  refine GLoop.inv hm (fun k f g => f.mks = [] ∧ f.tm.n = 62 ∧ f.tm.get 0 = some (.ptr (some (bd, 0))) ∧ f.tm.get 6 = some (.ptr (some (h'.n, 0))) ∧ f.tm.get 27 = some (.slice (some (b, o)) m cap ex) ∧ f.tm.get 28 = some (.int .i64 m) ∧ (∀ b, b < h'.n → g.get b = h'.get b) ∧ ∃ i : Nat, i + k = m ∧ (∀ j, j < i → 0 ≤ q j) ∧ f.tm.get 8 = some (.bool (stQ q D.n i).2) ∧ f.tm.get 29 = some (.int .i64 i) ∧ f.tm.get 7 = some (.int .i64 (stQ q D.n i).1) ∧ h'.n ≤ g.n ∧ (∃ c, g.get h'.n = some (.cells c 60) ∧ c.size = 26 ∧ c.ro = false)) m ?_ ?_
  · exact ⟨rfl, rfl, by simp -implicitDefEqProofs (disch := (first | omega | (simp -implicitDefEqProofs only [szs, ne_eq] <;> omega) | fail)) only [go_sem, ↓reduceIte], by simp -implicitDefEqProofs (disch := (first | omega | (simp -implicitDefEqProofs only [szs, ne_eq] <;> omega) | fail)) only [go_sem, Nat.reduceSub, Nat.reduceMod, Nat.reduceDiv, ↓reduceIte, reduceCtorEq], by simp -implicitDefEqProofs (disch := (first | omega | (simp -implicitDefEqProofs only [szs, ne_eq] <;> omega) | fail)) only [go_sem, Nat.reduceSub, Nat.reduceMod, Nat.reduceDiv, ↓reduceIte, reduceCtorEq], by simp -implicitDefEqProofs (disch := (first | omega | (simp -implicitDefEqProofs only [szs, ne_eq] <;> omega) | fail)) only [go_sem, Nat.reduceSub, Nat.reduceMod, Nat.reduceDiv, ↓reduceIte, reduceCtorEq], fun b hb => by simp -implicitDefEqProofs (disch := (first | omega | (simp -implicitDefEqProofs only [szs, ne_eq] <;> omega) | fail)) only [go_sem], 0, by omega, fun j hj => by omega, by simp -implicitDefEqProofs (disch := (first | omega | (simp -implicitDefEqProofs only [szs, ne_eq] <;> omega) | fail)) only [go_sem, Nat.reduceSub, Nat.reduceMod, Nat.reduceDiv, ↓reduceIte, reduceCtorEq]; rfl, by simp -implicitDefEqProofs (disch := (first | omega | (simp -implicitDefEqProofs only [szs, ne_eq] <;> omega) | fail)) only [go_sem, Nat.reduceSub, Nat.reduceMod, Nat.reduceDiv, ↓reduceIte, reduceCtorEq]; rfl, by simp -implicitDefEqProofs (disch := (first | omega | (simp -implicitDefEqProofs only [szs, ne_eq] <;> omega) | fail)) only [go_sem, Nat.reduceMod, Nat.reduceDiv, ↓reduceIte, reduceCtorEq]; rfl, by simp, ⟨_, by simp -implicitDefEqProofs (disch := (first | omega | (simp -implicitDefEqProofs only [szs, ne_eq] <;> omega) | fail)) only [go_sem]; rfl, rfl, rfl⟩⟩
  rintro k ⟨⟨n', tr⟩, mks⟩ g ⟨hmk, hn', t0, t6, t27, t28, hold, i, hi, hpos, t8, t29, t7, hgn, ⟨c, c1, csz, cro⟩⟩
  simp only [Tm.get_mk] at hmk hn' t0 t6 t8 t27 t28 t29 t7
  subst hmk hn'
  have hlc := Heap.lt_of_get c1
  have hb' := (hold _ hlb).trans hb
  have hle := stQ_le (q := q) (n := D.n) hpos
  obtain ⟨a, ea⟩ : ∃ a, a = (stQ q D.n i).1 := ⟨_, rfl⟩
  obtain ⟨fl, efl⟩ : ∃ fl, fl = (stQ q D.n i).2 := ⟨_, rfl⟩
  rw [← ea] at t7 hle
  rw [← efl] at t8
  by_cases him : i < m
  · have hqi := hget i him
    have hbd := hint i him
    by_cases hneg : q i < 0
    · simp -implicitDefEqProofs (disch := (first | omega | (simp -implicitDefEqProofs only [szs, ne_eq] <;> omega) | fail)) only [go_sem, Nat.reduceAdd, Nat.reduceLT, Nat.reduceEqDiff, ↓reduceIte, ir14_l0, t27, t28, t29, hb', hqi, hRb]
      rcases he with ⟨rfl, _⟩ | ⟨rfl, h1, _⟩
      · exact ⟨rfl, hgn, hold⟩
      · have := h1 i him
        omega
    have hpos' : ∀ j, j < i + 1 → 0 ≤ q j := fun j hj => by
      by_cases ej : j = i
      · subst ej; omega
      · exact hpos j (by omega)
    by_cases hfu : q i > (D.n : Int) - a
    · have e1 : (stQ q D.n (i + 1)) = (a, true) := by simp only [stQ]; rw [← ea, if_pos hfu]
      simp -implicitDefEqProofs (disch := (first | omega | (simp -implicitDefEqProofs only [szs, ne_eq] <;> omega) | fail)) only [go_sem, Nat.reduceAdd, Nat.reduceLT, Nat.reduceEqDiff, ↓reduceIte, reduceCtorEq, ir14_l0, t0, t27, t28, t29, hb', hqi, hRb]
      refine GCall.of (size_ok (hd.old hold) (.inr (hR _))) ?_
      rintro v g' ⟨rfl, rfl⟩
      simp -implicitDefEqProofs (disch := (first | omega | (simp -implicitDefEqProofs only [szs, ne_eq] <;> omega) | fail)) only [go_sem, Nat.reduceAdd, Nat.reduceLT, Nat.reduceEqDiff, ↓reduceIte, reduceCtorEq, t0, t6, t27, t28, t29, t7]
      exact ⟨k - 1, by omega, hold, i + 1, by omega, hpos', by rw [e1], congrArg _ (by omega), by rw [e1], hgn, ⟨c, c1, csz, cro⟩⟩
    · have e1 : (stQ q D.n (i + 1)) = (a + q i, fl) := by simp only [stQ]; rw [← ea, if_neg hfu, efl]
      obtain ⟨qn, eq⟩ := Int.eq_ofNat_of_zero_le (show 0 ≤ q i by omega)
      rw [eq] at hqi hfu hneg e1
      have hsh := w_shr6 qn
      have hmk : 0 ≤ ((qn / 64 : Nat) : Int) + 1 ∧ ((qn / 64 : Nat) : Int) + 1 ≤ ((qn / 64 : Nat) : Int) + 1 ∧ 8 * (((qn / 64 : Nat) : Int) + 1).toNat ≤ 281474976710656 ∧ ((qn / 64 : Nat) : Int) + 1 ≤ 9223372036854775807 := by omega
      have hmk2 : 8 * (qn / 64 + 1) ≤ 281474976710656 := by omega
      have htn : (((qn / 64 : Nat) : Int) + 1).toNat = qn / 64 + 1 := by omega
      simp -implicitDefEqProofs (disch := (first | omega | (simp -implicitDefEqProofs only [szs, ne_eq] <;> omega) | fail)) only [go_sem, Nat.reduceAdd, Nat.reduceLT, Nat.reduceEqDiff, ↓reduceIte, reduceCtorEq, ir14_l0, t0, t27, t28, t29, hb', hqi, hRb]
      refine GCall.of (size_ok (hd.old hold) (.inr (hR _))) ?_
      rintro v g' ⟨rfl, rfl⟩
      simp -implicitDefEqProofs (disch := (first | omega | (simp -implicitDefEqProofs only [szs, ne_eq] <;> omega) | fail)) only [go_sem, Nat.reduceAdd, Nat.reduceLT, Nat.reduceEqDiff, Nat.reduceLeDiff, ↓reduceIte, reduceCtorEq, t0, t6, t8, t27, t28, t29, t7, ↓hsh, hmk, hmk2, htn, c1, csz, cro]
      simp only [List.not_mem_nil, or_false, false_or, and_false, implies_true, not_false_eq_true, and_true, true_and]
      exact ⟨k - 1, by omega, fun b hb => by simp -implicitDefEqProofs (disch := (first | omega | (simp -implicitDefEqProofs only [szs, ne_eq] <;> omega) | fail)) only [go_sem]; exact hold b hb, i + 1, by omega, hpos', by rw [e1], congrArg _ (by omega), by rw [e1], by omega, ⟨_, rfl, by rw [Blk.size_set, Blk.size_set, Blk.size_set]; exact csz, by rw [Blk.ro_set, Blk.ro_set, Blk.ro_set]; exact cro⟩⟩
  · have : i = m := by omega
    subst this
    rcases he with ⟨rfl, j, hj, hjn⟩ | ⟨rfl, h1, h2⟩
    · have := hpos j hj
      omega
    rw [h2] at efl
    subst efl
    simp -implicitDefEqProofs (disch := (first | omega | (simp -implicitDefEqProofs only [szs, ne_eq] <;> omega) | fail)) only [go_sem, Nat.reduceAdd, Nat.reduceLT, Nat.reduceEqDiff, ↓reduceIte, ir14_l0, t8, t28, t29]
    exact ⟨hgn, hold⟩
end Go.Proofs.Ythdkhbhicimpdaa
