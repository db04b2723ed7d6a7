/- The document's pool: where it lies; Account, Owned, Used, Quota, Free, Of, Byte. -/
import Derived.Test.YtfgdpgagcnelpaaJ
import Derived.Test.YtfgdpgagcnelpaaV4
set_option linter.unusedVariables false
set_option linter.unusedSimpArgs false
set_option linter.unusedSimpArgs false
set_option maxRecDepth 100000
set_option linter.unusedVariables false
set_option linter.unusedSimpArgs false
namespace Go.Proofs.Ytfgdpgagcnelpaa
open Go Go.Vm
instance (S : PS) (k : Int) : Decidable (Owned S k) := by unfold Owned; infer_instance
structure RL where
  fb : Nat
  qb : Nat
  fcap : Nat
  qcap : Nat
  fex : Bool
  qex : Bool
/-- A frame's bytes: 256 in a block of their own. -/
def BV (h : Heap) (n0 : Nat) (v : V) (g : Nat → Int) : Prop := ∃ b x c, v = .slice (some (b, 0)) 256 256 x ∧ n0 ≤ b ∧ h.get b = some (.cells c 5) ∧ c.size = 256 ∧ c.ro = false ∧ ∀ j, j < 256 → c.get j = .int .u8 (g j)
def nilV : V := .slice none 0 0 true
structure IsRF (S : PS) (bv : Nat → V) (c : Blk) : Prop where
  size : c.size = S.n * 3
  ro : c.ro = false
  ow : ∀ i, i < S.n → c.get (i * 3) = .int .i64 (S.ow i)
  ho : ∀ i, i < S.n → c.get (i * 3 + 1) = .int .i64 (S.ho i)
  bv : ∀ i, i < S.n → c.get (i * 3 + 2) = bv i
structure RPool (h : Heap) (n0 rd : Nat) (L : RL) (S : PS) (bv : Nat → V) : Prop where
  lt : n0 ≤ h.n ∧ n0 ≤ rd ∧ n0 ≤ L.fb ∧ n0 ≤ L.qb
  pos : 0 < S.n
  p : ∃ c, h.get rd = some (.cells c 78) ∧ c.size = 2 ∧ c.get 0 = .slice (some (L.fb, 0)) S.n L.fcap L.fex ∧ c.get 1 = .slice (some (L.qb, 0)) S.na L.qcap L.qex
  f : ∃ c, h.get L.fb = some (.cells c 83) ∧ IsRF S bv c
  q : ∃ c, h.get L.qb = some (.cells c 3) ∧ IsInts S.na S.qu c
  b : ∀ i, i < S.n → (bv i = nilV ∧ S.ho i = 0) ∨ ∃ g, BV h n0 (bv i) g ∧ (S.ho i ≠ 0 → ∀ j, j < 256 → g j = S.byt i j)
  dis : ∀ i j, i < S.n → j < S.n → i ≠ j → bv i = nilV ∨ bv j = nilV ∨ sblk (bv i) ≠ sblk (bv j)
theorem BV.keep {h h' : Heap} {n0 : Nat} {v : V} {g : Nat → Int} (hv : BV h n0 v g) (hk : ∀ b, n0 ≤ b → b < h.n → h'.get b = h.get b) : BV h' n0 v g := by
  obtain ⟨b, x, c, e, hb, h1, h2⟩ := hv
  exact ⟨b, x, c, e, hb, by rw [hk b hb (Heap.lt_of_get h1)]; exact h1, h2⟩
theorem RPool.same {h h' : Heap} {n0 rd : Nat} {L : RL} {S : PS} {bv : Nat → V} (hr : RPool h n0 rd L S bv) (hn : h.n ≤ h'.n) (hk : ∀ b, n0 ≤ b → b < h.n → h'.get b = h.get b) : RPool h' n0 rd L S bv := by
  obtain ⟨lt, pos, ⟨c, p1, p2⟩, ⟨f, f1, f2⟩, ⟨q, q1, q2⟩, hb, dis⟩ := hr
  refine ⟨⟨by omega, lt.2⟩, pos, ⟨c, by rw [hk _ lt.2.1 (Heap.lt_of_get p1)]; exact p1, p2⟩, ⟨f, by rw [hk _ lt.2.2.1 (Heap.lt_of_get f1)]; exact f1, f2⟩, ⟨q, by rw [hk _ lt.2.2.2 (Heap.lt_of_get q1)]; exact q1, q2⟩, fun i hi => ?_, dis⟩
  rcases hb i hi with h | ⟨g, h1, h2⟩
  · exact .inl h
  · exact .inr ⟨g, h1.keep hk, h2⟩
theorem RPool.old {h h' : Heap} {n0 rd : Nat} {L : RL} {S : PS} {bv : Nat → V} (hr : RPool h n0 rd L S bv) (hn : h.n ≤ h'.n) (hk : ∀ b, b < h.n → h'.get b = h.get b) : RPool h' n0 rd L S bv := hr.same hn fun b _ hb => hk b hb
theorem racc_ok {h : Heap} {R W : Set'} {n0 rd : Nat} {L : RL} {S : PS} {bv : Nat → V} (hr : RPool h n0 rd L S bv) (hR : ∀ b, R b) (k : Int) :
    SF Try.prog 55 [.ptr (some (rd, 0)), .int .i64 k] h R W fun v h' => v = .bool (decide (0 ≤ k ∧ k < S.na)) ∧ h' = h := by
  obtain ⟨c, p1, p2, p3, p4⟩ := hr.p
  have hR1 := hR rd
  refine SF.go hm Try.func55 ir55_eq ?_
  by_cases h0 : 0 ≤ k
  · by_cases h1 : k < S.na
    · have e : decide (0 ≤ k ∧ k < (S.na : Int)) = true := decide_eq_true ⟨h0, h1⟩
      rw [e]
      simp -implicitDefEqProofs (disch := (first | omega | (simp -implicitDefEqProofs only [szs, ne_eq] <;> omega) | fail)) only [go_sem, Nat.reduceAdd, Nat.reduceSub, Nat.reduceMul, Nat.reduceLT, Nat.reduceMod, Nat.reduceDiv, Nat.reduceEqDiff, Nat.reduceBEq, Nat.reduceLeDiff, ↓reduceIte, reduceCtorEq, Int.reduceAdd, Int.reduceSub, Int.reduceLT, Int.reduceLE, Int.reduceBEq, Int.reduceEq, Int.reduceToNat, ir55, p1, p2, p4, hR1, undefV, h0, h1]
    · have e : decide (0 ≤ k ∧ k < (S.na : Int)) = false := decide_eq_false fun h => h1 h.2
      rw [e]
      simp -implicitDefEqProofs (disch := (first | omega | (simp -implicitDefEqProofs only [szs, ne_eq] <;> omega) | fail)) only [go_sem, Nat.reduceAdd, Nat.reduceSub, Nat.reduceMul, Nat.reduceLT, Nat.reduceMod, Nat.reduceDiv, Nat.reduceEqDiff, Nat.reduceBEq, Nat.reduceLeDiff, ↓reduceIte, reduceCtorEq, Int.reduceAdd, Int.reduceSub, Int.reduceLT, Int.reduceLE, Int.reduceBEq, Int.reduceEq, Int.reduceToNat, ir55, p1, p2, p4, hR1, undefV, h0, h1]
  · have e : decide (0 ≤ k ∧ k < (S.na : Int)) = false := decide_eq_false fun h => h0 h.1
    rw [e]
    simp -implicitDefEqProofs (disch := (first | omega | (simp -implicitDefEqProofs only [szs, ne_eq] <;> omega) | fail)) only [go_sem, Nat.reduceAdd, Nat.reduceSub, Nat.reduceMul, Nat.reduceLT, Nat.reduceMod, Nat.reduceDiv, Nat.reduceEqDiff, Nat.reduceBEq, Nat.reduceLeDiff, ↓reduceIte, reduceCtorEq, Int.reduceAdd, Int.reduceSub, Int.reduceLT, Int.reduceLE, Int.reduceBEq, Int.reduceEq, Int.reduceToNat, ir55, p1, p2, p4, hR1, undefV, h0]
theorem rowned_ok {h : Heap} {R W : Set'} {n0 rd : Nat} {L : RL} {S : PS} {bv : Nat → V} (hr : RPool h n0 rd L S bv) (w : WF S) (hR : ∀ b, R b) (k : Int) :
    SF Try.prog 40 [.ptr (some (rd, 0)), .int .i64 k] h R W fun v h' => v = .bool (decide (Owned S k)) ∧ h' = h := by
  obtain ⟨c, p1, p2, p3, p4⟩ := hr.p
  obtain ⟨f, f1, ⟨fs, fr, fo, fh, fv⟩⟩ := hr.f
  have hR1 := hR rd
  have hR2 := hR L.fb
  refine SF.go hm Try.func40 ir40_eq ?_
  by_cases h0 : 0 ≤ k
  · by_cases h1 : k < S.n
    · obtain ⟨i, rfl⟩ := Int.eq_ofNat_of_zero_le h0
      have hi : i < S.n := by omega
      have hh := fh i hi
      have hw := w.ho i hi
      have hs : i * 3 + 1 < f.size := by omega
      by_cases h2 : 0 < S.ho i
      · have e : decide (Owned S (i : Int)) = true := decide_eq_true ⟨h0, h1, by simp; omega⟩
        rw [e]
        simp -implicitDefEqProofs (disch := (first | omega | (simp -implicitDefEqProofs only [szs, ne_eq] <;> omega) | fail)) only [go_sem, Nat.reduceAdd, Nat.reduceSub, Nat.reduceMul, Nat.reduceLT, Nat.reduceMod, Nat.reduceDiv, Nat.reduceEqDiff, Nat.reduceBEq, Nat.reduceLeDiff, ↓reduceIte, reduceCtorEq, Int.reduceAdd, Int.reduceSub, Int.reduceLT, Int.reduceLE, Int.reduceBEq, Int.reduceEq, Int.reduceToNat, ir40, p1, p2, p3, hR1, hR2, undefV, h0, h1, f1, hh, hs, h2]
      · have e : decide (Owned S (i : Int)) = false := decide_eq_false fun h => by have := h.2.2; simp at this; omega
        rw [e]
        simp -implicitDefEqProofs (disch := (first | omega | (simp -implicitDefEqProofs only [szs, ne_eq] <;> omega) | fail)) only [go_sem, Nat.reduceAdd, Nat.reduceSub, Nat.reduceMul, Nat.reduceLT, Nat.reduceMod, Nat.reduceDiv, Nat.reduceEqDiff, Nat.reduceBEq, Nat.reduceLeDiff, ↓reduceIte, reduceCtorEq, Int.reduceAdd, Int.reduceSub, Int.reduceLT, Int.reduceLE, Int.reduceBEq, Int.reduceEq, Int.reduceToNat, ir40, p1, p2, p3, hR1, hR2, undefV, h0, h1, f1, hh, hs, h2]
    · have e : decide (Owned S k) = false := decide_eq_false fun h => h1 h.2.1
      rw [e]
      simp -implicitDefEqProofs (disch := (first | omega | (simp -implicitDefEqProofs only [szs, ne_eq] <;> omega) | fail)) only [go_sem, Nat.reduceAdd, Nat.reduceSub, Nat.reduceMul, Nat.reduceLT, Nat.reduceMod, Nat.reduceDiv, Nat.reduceEqDiff, Nat.reduceBEq, Nat.reduceLeDiff, ↓reduceIte, reduceCtorEq, Int.reduceAdd, Int.reduceSub, Int.reduceLT, Int.reduceLE, Int.reduceBEq, Int.reduceEq, Int.reduceToNat, ir40, p1, p2, p3, hR1, undefV, h0, h1]
  · have e : decide (Owned S k) = false := decide_eq_false fun h => h0 h.1
    rw [e]
    simp -implicitDefEqProofs (disch := (first | omega | (simp -implicitDefEqProofs only [szs, ne_eq] <;> omega) | fail)) only [go_sem, Nat.reduceAdd, Nat.reduceSub, Nat.reduceMul, Nat.reduceLT, Nat.reduceMod, Nat.reduceDiv, Nat.reduceEqDiff, Nat.reduceBEq, Nat.reduceLeDiff, ↓reduceIte, reduceCtorEq, Int.reduceAdd, Int.reduceSub, Int.reduceLT, Int.reduceLE, Int.reduceBEq, Int.reduceEq, Int.reduceToNat, ir40, p1, p2, p3, hR1, undefV, h0]
theorem rquota_ok {h : Heap} {R W : Set'} {n0 rd : Nat} {L : RL} {S : PS} {bv : Nat → V} (hr : RPool h n0 rd L S bv) (hR : ∀ b, R b) (k : Int) :
    SF Try.prog 38 [.ptr (some (rd, 0)), .int .i64 k] h R W fun v h' => v = .int .i64 (if 0 ≤ k ∧ k < S.na then S.qu k.toNat else 0) ∧ h' = h := by
  obtain ⟨c, p1, p2, p3, p4⟩ := hr.p
  obtain ⟨q, q1, ⟨qs, qr, qg⟩⟩ := hr.q
  have hR1 := hR rd
  have hR2 := hR L.qb
  refine SF.go hm Try.func38 ir38_eq ?_
  simp -implicitDefEqProofs (disch := (first | omega | (simp -implicitDefEqProofs only [szs, ne_eq] <;> omega) | fail)) only [go_sem, Nat.reduceAdd, Nat.reduceSub, Nat.reduceMul, Nat.reduceLT, Nat.reduceMod, Nat.reduceDiv, Nat.reduceEqDiff, Nat.reduceBEq, Nat.reduceLeDiff, ↓reduceIte, reduceCtorEq, Int.reduceAdd, Int.reduceSub, Int.reduceLT, Int.reduceLE, Int.reduceBEq, Int.reduceEq, Int.reduceToNat, ir38]
  refine GCall.of (racc_ok hr (fun b => .inr (hR b)) k) ?_
  rintro v h1 ⟨rfl, rfl⟩
  by_cases hk : 0 ≤ k ∧ k < S.na
  · rw [decide_eq_true hk, if_pos hk]
    obtain ⟨h0, h1'⟩ := hk
    obtain ⟨i, rfl⟩ := Int.eq_ofNat_of_zero_le h0
    have hi : i < S.na := by omega
    have hq := qg i hi
    simp -implicitDefEqProofs (disch := (first | omega | (simp -implicitDefEqProofs only [szs, ne_eq] <;> omega) | fail)) only [go_sem, Nat.reduceAdd, Nat.reduceSub, Nat.reduceMul, Nat.reduceLT, Nat.reduceMod, Nat.reduceDiv, Nat.reduceEqDiff, Nat.reduceBEq, Nat.reduceLeDiff, ↓reduceIte, reduceCtorEq, Int.reduceAdd, Int.reduceSub, Int.reduceLT, Int.reduceLE, Int.reduceBEq, Int.reduceEq, Int.reduceToNat, p1, p2, p4, hR1, hR2, q1, hq, h0, h1']
  · rw [decide_eq_false hk, if_neg hk]
    simp -implicitDefEqProofs (disch := (first | omega | (simp -implicitDefEqProofs only [szs, ne_eq] <;> omega) | fail)) only [go_sem, Nat.reduceAdd, Nat.reduceSub, Nat.reduceMul, Nat.reduceLT, Nat.reduceMod, Nat.reduceDiv, Nat.reduceEqDiff, Nat.reduceBEq, Nat.reduceLeDiff, ↓reduceIte, reduceCtorEq, Int.reduceAdd, Int.reduceSub, Int.reduceLT, Int.reduceLE, Int.reduceBEq, Int.reduceEq, Int.reduceToNat]
set_option maxHeartbeats 1000000 in
theorem rfree_ok {h : Heap} {R W : Set'} {n0 rd : Nat} {L : RL} {S : PS} {bv : Nat → V} (hr : RPool h n0 rd L S bv) (w : WF S) (hR : ∀ b, R b) :
    SF Try.prog 39 [.ptr (some (rd, 0))] h R W fun v h' => v = .int .i64 (cnt (fun i => decide (S.ho i = 0)) S.n) ∧ h' = h := by
  obtain ⟨c, p1, p2, p3, p4⟩ := hr.p
  obtain ⟨f, f1, ⟨fs, fr, fo, fh, fv⟩⟩ := hr.f
  have hR1 := hR rd
  have hR2 := hR L.fb
  have hn := w.n
  refine SF.go hm Try.func39 ir39_eq ?_
  simp -implicitDefEqProofs (disch := (first | omega | (simp -implicitDefEqProofs only [szs, ne_eq] <;> omega) | fail)) only [go_sem, Nat.reduceAdd, Nat.reduceSub, Nat.reduceMul, Nat.reduceLT, Nat.reduceMod, Nat.reduceDiv, Nat.reduceEqDiff, Nat.reduceBEq, Nat.reduceLeDiff, ↓reduceIte, reduceCtorEq, Int.reduceAdd, Int.reduceSub, Int.reduceLT, Int.reduceLE, Int.reduceBEq, Int.reduceEq, Int.reduceToNat, ir39]
  refine GLoop.inv hm (fun k f g => f.mks = [] ∧ f.tm.n = 28 ∧ f.tm.get 0 = some (.ptr (some (rd, 0))) ∧ g = h ∧ ∃ p : Nat, p + k = S.n ∧ f.tm.get 4 = some (.int .i64 p) ∧ f.tm.get 3 = some (.int .i64 (cnt (fun i => decide (S.ho i = 0)) p))) S.n ?_ ?_
  · exact ⟨rfl, rfl, by simp -implicitDefEqProofs (disch := (first | omega | (simp -implicitDefEqProofs only [szs, ne_eq] <;> omega) | fail)) only [go_sem, Nat.reduceAdd, Nat.reduceSub, Nat.reduceMul, Nat.reduceLT, Nat.reduceMod, Nat.reduceDiv, Nat.reduceEqDiff, Nat.reduceBEq, Nat.reduceLeDiff, ↓reduceIte, reduceCtorEq, Int.reduceAdd, Int.reduceSub, Int.reduceLT, Int.reduceLE, Int.reduceBEq, Int.reduceEq, Int.reduceToNat], rfl, 0, by omega, by simp -implicitDefEqProofs (disch := (first | omega | (simp -implicitDefEqProofs only [szs, ne_eq] <;> omega) | fail)) only [go_sem, Nat.reduceAdd, Nat.reduceSub, Nat.reduceMul, Nat.reduceLT, Nat.reduceMod, Nat.reduceDiv, Nat.reduceEqDiff, Nat.reduceBEq, Nat.reduceLeDiff, ↓reduceIte, reduceCtorEq, Int.reduceAdd, Int.reduceSub, Int.reduceLT, Int.reduceLE, Int.reduceBEq, Int.reduceEq, Int.reduceToNat]; rfl, by simp -implicitDefEqProofs (disch := (first | omega | (simp -implicitDefEqProofs only [szs, ne_eq] <;> omega) | fail)) only [go_sem, Nat.reduceAdd, Nat.reduceSub, Nat.reduceMul, Nat.reduceLT, Nat.reduceMod, Nat.reduceDiv, Nat.reduceEqDiff, Nat.reduceBEq, Nat.reduceLeDiff, ↓reduceIte, reduceCtorEq, Int.reduceAdd, Int.reduceSub, Int.reduceLT, Int.reduceLE, Int.reduceBEq, Int.reduceEq, Int.reduceToNat]; rfl⟩
  rintro k ⟨⟨n', tr⟩, mks⟩ g ⟨hmk, hn', t0, rfl, p, hpk, t4, t3⟩
  simp only [Tm.get_mk] at hmk hn' t0 t3 t4
  subst hmk hn'
  have hc := cnt_in (fun i => decide (S.ho i = 0)) p
  by_cases hp : p < S.n
  · have hh := fh p hp
    have hs : p * 3 + 1 < f.size := by omega
    have hp0 : (0 : Int) ≤ (p : Int) := by omega
    have hp1 : (p : Int) < (S.n : Nat) := by omega
    by_cases h2 : S.ho p = 0
    · have hb : (S.ho p == 0) = true := by simp [h2]
      simp -implicitDefEqProofs (disch := (first | omega | (simp -implicitDefEqProofs only [szs, ne_eq] <;> omega) | fail)) only [go_sem, Nat.reduceAdd, Nat.reduceSub, Nat.reduceMul, Nat.reduceLT, Nat.reduceMod, Nat.reduceDiv, Nat.reduceEqDiff, Nat.reduceBEq, Nat.reduceLeDiff, ↓reduceIte, reduceCtorEq, Int.reduceAdd, Int.reduceSub, Int.reduceLT, Int.reduceLE, Int.reduceBEq, Int.reduceEq, Int.reduceToNat, ir39_l0, t0, t3, t4, p1, p2, p3, hR1, hR2, f1, hh, hs, hp0, hp1, hb]
      refine ⟨k - 1, by omega, p + 1, by omega, by simp, ?_⟩
      simp only [cnt, h2]; simp
    · have hb : (S.ho p == 0) = false := by simpa using h2
      simp -implicitDefEqProofs (disch := (first | omega | (simp -implicitDefEqProofs only [szs, ne_eq] <;> omega) | fail)) only [go_sem, Nat.reduceAdd, Nat.reduceSub, Nat.reduceMul, Nat.reduceLT, Nat.reduceMod, Nat.reduceDiv, Nat.reduceEqDiff, Nat.reduceBEq, Nat.reduceLeDiff, ↓reduceIte, reduceCtorEq, Int.reduceAdd, Int.reduceSub, Int.reduceLT, Int.reduceLE, Int.reduceBEq, Int.reduceEq, Int.reduceToNat, ir39_l0, t0, t3, t4, p1, p2, p3, hR1, hR2, f1, hh, hs, hp0, hp1, hb]
      refine ⟨k - 1, by omega, p + 1, by omega, by simp, ?_⟩
      simp only [cnt, h2]; simp
  · obtain rfl : p = S.n := by omega
    simp -implicitDefEqProofs (disch := (first | omega | (simp -implicitDefEqProofs only [szs, ne_eq] <;> omega) | fail)) only [go_sem, Nat.reduceAdd, Nat.reduceSub, Nat.reduceMul, Nat.reduceLT, Nat.reduceMod, Nat.reduceDiv, Nat.reduceEqDiff, Nat.reduceBEq, Nat.reduceLeDiff, ↓reduceIte, reduceCtorEq, Int.reduceAdd, Int.reduceSub, Int.reduceLT, Int.reduceLE, Int.reduceBEq, Int.reduceEq, Int.reduceToNat, ir39_l0, t0, t3, t4, p1, p2, p3, hR1]
set_option maxHeartbeats 1000000 in
theorem rused_ok {h : Heap} {R W : Set'} {n0 rd : Nat} {L : RL} {S : PS} {bv : Nat → V} (hr : RPool h n0 rd L S bv) (w : WF S) (hR : ∀ b, R b) (a : Int) :
    SF Try.prog 37 [.ptr (some (rd, 0)), .int .i64 a] h R W fun v h' => v = .int .i64 (if 0 ≤ a ∧ a < S.na then S.us a.toNat else 0) ∧ h' = h := by
  obtain ⟨c, p1, p2, p3, p4⟩ := hr.p
  obtain ⟨f, f1, ⟨fs, fr, fo, fh, fv⟩⟩ := hr.f
  have hR1 := hR rd
  have hR2 := hR L.fb
  have hn := w.n
  refine SF.go hm Try.func37 ir37_eq ?_
  simp -implicitDefEqProofs (disch := (first | omega | (simp -implicitDefEqProofs only [szs, ne_eq] <;> omega) | fail)) only [go_sem, Nat.reduceAdd, Nat.reduceSub, Nat.reduceMul, Nat.reduceLT, Nat.reduceMod, Nat.reduceDiv, Nat.reduceEqDiff, Nat.reduceBEq, Nat.reduceLeDiff, ↓reduceIte, reduceCtorEq, Int.reduceAdd, Int.reduceSub, Int.reduceLT, Int.reduceLE, Int.reduceBEq, Int.reduceEq, Int.reduceToNat, ir37]
  refine GLoop.inv hm (fun k f g => f.mks = [] ∧ f.tm.n = 45 ∧ f.tm.get 0 = some (.ptr (some (rd, 0))) ∧ f.tm.get 1 = some (.int .i64 a) ∧ g = h ∧ ∃ p : Nat, p + k = S.n ∧ (p = 0 ∨ 0 ≤ a ∧ a < S.na) ∧ f.tm.get 6 = some (.int .i64 p) ∧ f.tm.get 5 = some (.int .i64 (cnt (fun i => decide (S.ho i ≠ 0 ∧ S.ow i = a)) p))) S.n ?_ ?_
  · exact ⟨rfl, rfl, by simp -implicitDefEqProofs (disch := (first | omega | (simp -implicitDefEqProofs only [szs, ne_eq] <;> omega) | fail)) only [go_sem, Nat.reduceAdd, Nat.reduceSub, Nat.reduceMul, Nat.reduceLT, Nat.reduceMod, Nat.reduceDiv, Nat.reduceEqDiff, Nat.reduceBEq, Nat.reduceLeDiff, ↓reduceIte, reduceCtorEq, Int.reduceAdd, Int.reduceSub, Int.reduceLT, Int.reduceLE, Int.reduceBEq, Int.reduceEq, Int.reduceToNat], by simp -implicitDefEqProofs (disch := (first | omega | (simp -implicitDefEqProofs only [szs, ne_eq] <;> omega) | fail)) only [go_sem, Nat.reduceAdd, Nat.reduceSub, Nat.reduceMul, Nat.reduceLT, Nat.reduceMod, Nat.reduceDiv, Nat.reduceEqDiff, Nat.reduceBEq, Nat.reduceLeDiff, ↓reduceIte, reduceCtorEq, Int.reduceAdd, Int.reduceSub, Int.reduceLT, Int.reduceLE, Int.reduceBEq, Int.reduceEq, Int.reduceToNat], rfl, 0, by omega, .inl rfl, by simp -implicitDefEqProofs (disch := (first | omega | (simp -implicitDefEqProofs only [szs, ne_eq] <;> omega) | fail)) only [go_sem, Nat.reduceAdd, Nat.reduceSub, Nat.reduceMul, Nat.reduceLT, Nat.reduceMod, Nat.reduceDiv, Nat.reduceEqDiff, Nat.reduceBEq, Nat.reduceLeDiff, ↓reduceIte, reduceCtorEq, Int.reduceAdd, Int.reduceSub, Int.reduceLT, Int.reduceLE, Int.reduceBEq, Int.reduceEq, Int.reduceToNat]; rfl, by simp -implicitDefEqProofs (disch := (first | omega | (simp -implicitDefEqProofs only [szs, ne_eq] <;> omega) | fail)) only [go_sem, Nat.reduceAdd, Nat.reduceSub, Nat.reduceMul, Nat.reduceLT, Nat.reduceMod, Nat.reduceDiv, Nat.reduceEqDiff, Nat.reduceBEq, Nat.reduceLeDiff, ↓reduceIte, reduceCtorEq, Int.reduceAdd, Int.reduceSub, Int.reduceLT, Int.reduceLE, Int.reduceBEq, Int.reduceEq, Int.reduceToNat]; rfl⟩
  rintro k ⟨⟨n', tr⟩, mks⟩ g ⟨hmk, hn', t0, t1, rfl, p, hpk, hpa, t6, t5⟩
  simp only [Tm.get_mk] at hmk hn' t0 t1 t5 t6
  subst hmk hn'
  have hc := cnt_in (fun i => decide (S.ho i ≠ 0 ∧ S.ow i = a)) p
  simp -implicitDefEqProofs (disch := (first | omega | (simp -implicitDefEqProofs only [szs, ne_eq] <;> omega) | fail)) only [go_sem, Nat.reduceAdd, Nat.reduceSub, Nat.reduceMul, Nat.reduceLT, Nat.reduceMod, Nat.reduceDiv, Nat.reduceEqDiff, Nat.reduceBEq, Nat.reduceLeDiff, ↓reduceIte, reduceCtorEq, Int.reduceAdd, Int.reduceSub, Int.reduceLT, Int.reduceLE, Int.reduceBEq, Int.reduceEq, Int.reduceToNat, ir37_l0, t0, t1, t5, t6]
  refine GCall.of (racc_ok hr (fun b => .inr (hR b)) a) ?_
  rintro v h1 ⟨rfl, rfl⟩
  by_cases ha : 0 ≤ a ∧ a < S.na
  · rw [decide_eq_true ha]
    by_cases hp : p < S.n
    · have hh := fh p hp
      have ho := fo p hp
      have hw := w.ho p hp
      have hs : p * 3 + 1 < f.size := by omega
      have hs0 : p * 3 < f.size := by omega
      have hp0 : (0 : Int) ≤ (p : Int) := by omega
      have hp1 : (p : Int) < (S.n : Nat) := by omega
      by_cases h2 : 0 < S.ho p
      · have hne : S.ho p ≠ 0 := by omega
        by_cases h3 : S.ow p = a
        · have hb : (S.ow p == a) = true := by simp [h3]
          simp -implicitDefEqProofs (disch := (first | omega | (simp -implicitDefEqProofs only [szs, ne_eq] <;> omega) | fail)) only [go_sem, Nat.reduceAdd, Nat.reduceSub, Nat.reduceMul, Nat.reduceLT, Nat.reduceMod, Nat.reduceDiv, Nat.reduceEqDiff, Nat.reduceBEq, Nat.reduceLeDiff, ↓reduceIte, reduceCtorEq, Int.reduceAdd, Int.reduceSub, Int.reduceLT, Int.reduceLE, Int.reduceBEq, Int.reduceEq, Int.reduceToNat, t0, t1, t5, t6, p1, p2, p3, hR1, hR2, f1, hh, ho, hs, hs0, hp0, hp1, h2, hb, undefV]
          refine ⟨k - 1, by omega, p + 1, by omega, .inr ha, by simp, ?_⟩
          simp only [cnt, h3]; simp [hne]
        · have hb : (S.ow p == a) = false := by simpa using h3
          simp -implicitDefEqProofs (disch := (first | omega | (simp -implicitDefEqProofs only [szs, ne_eq] <;> omega) | fail)) only [go_sem, Nat.reduceAdd, Nat.reduceSub, Nat.reduceMul, Nat.reduceLT, Nat.reduceMod, Nat.reduceDiv, Nat.reduceEqDiff, Nat.reduceBEq, Nat.reduceLeDiff, ↓reduceIte, reduceCtorEq, Int.reduceAdd, Int.reduceSub, Int.reduceLT, Int.reduceLE, Int.reduceBEq, Int.reduceEq, Int.reduceToNat, t0, t1, t5, t6, p1, p2, p3, hR1, hR2, f1, hh, ho, hs, hs0, hp0, hp1, h2, hb, undefV]
          refine ⟨k - 1, by omega, p + 1, by omega, .inr ha, by simp, ?_⟩
          simp only [cnt, h3]; simp
      · have hz : S.ho p = 0 := by omega
        simp -implicitDefEqProofs (disch := (first | omega | (simp -implicitDefEqProofs only [szs, ne_eq] <;> omega) | fail)) only [go_sem, Nat.reduceAdd, Nat.reduceSub, Nat.reduceMul, Nat.reduceLT, Nat.reduceMod, Nat.reduceDiv, Nat.reduceEqDiff, Nat.reduceBEq, Nat.reduceLeDiff, ↓reduceIte, reduceCtorEq, Int.reduceAdd, Int.reduceSub, Int.reduceLT, Int.reduceLE, Int.reduceBEq, Int.reduceEq, Int.reduceToNat, t0, t1, t5, t6, p1, p2, p3, hR1, hR2, f1, hh, ho, hs, hs0, hp0, hp1, h2, undefV]
        refine ⟨k - 1, by omega, p + 1, by omega, .inr ha, by simp, ?_⟩
        simp only [cnt, hz]; simp
    · obtain rfl : p = S.n := by omega
      rw [if_pos ha]
      obtain ⟨a', rfl⟩ := Int.eq_ofNat_of_zero_le ha.1
      have hu := w.us a' (by omega)
      simp only [Int.toNat_natCast]
      simp -implicitDefEqProofs (disch := (first | omega | (simp -implicitDefEqProofs only [szs, ne_eq] <;> omega) | fail)) only [go_sem, Nat.reduceAdd, Nat.reduceSub, Nat.reduceMul, Nat.reduceLT, Nat.reduceMod, Nat.reduceDiv, Nat.reduceEqDiff, Nat.reduceBEq, Nat.reduceLeDiff, ↓reduceIte, reduceCtorEq, Int.reduceAdd, Int.reduceSub, Int.reduceLT, Int.reduceLE, Int.reduceBEq, Int.reduceEq, Int.reduceToNat, t0, t1, t5, t6, p1, p2, p3, hR1, undefV]
      rw [hu]
  · rw [decide_eq_false ha]
    obtain rfl : p = 0 := hpa.resolve_right ha
    rw [if_neg ha]
    simp -implicitDefEqProofs (disch := (first | omega | (simp -implicitDefEqProofs only [szs, ne_eq] <;> omega) | fail)) only [go_sem, Nat.reduceAdd, Nat.reduceSub, Nat.reduceMul, Nat.reduceLT, Nat.reduceMod, Nat.reduceDiv, Nat.reduceEqDiff, Nat.reduceBEq, Nat.reduceLeDiff, ↓reduceIte, reduceCtorEq, Int.reduceAdd, Int.reduceSub, Int.reduceLT, Int.reduceLE, Int.reduceBEq, Int.reduceEq, Int.reduceToNat, t0, t1, t5, t6, undefV]
    rfl
end Go.Proofs.Ytfgdpgagcnelpaa
