/- The document's pool: Of, Byte, Hold, Drop. -/
import Derived.Test.YtfgdpgagcnelpaaR1
set_option linter.unusedVariables false
set_option linter.unusedSimpArgs false
set_option linter.unusedSimpArgs false
set_option maxRecDepth 100000
set_option linter.unusedVariables false
set_option linter.unusedSimpArgs false
namespace Go.Proofs.Ytfgdpgagcnelpaa
open Go Go.Vm
theorem RPool.blocks {h : Heap} {n0 rd : Nat} {L : RL} {S : PS} {bv : Nat → V} (hr : RPool h n0 rd L S bv) : rd < h.n ∧ L.fb < h.n ∧ L.qb < h.n ∧ rd ≠ L.fb ∧ L.qb ≠ L.fb := by
  obtain ⟨c, p1, _⟩ := hr.p
  obtain ⟨f, f1, _⟩ := hr.f
  obtain ⟨q, q1, _⟩ := hr.q
  exact ⟨Heap.lt_of_get p1, Heap.lt_of_get f1, Heap.lt_of_get q1, fun e => (by rw [e, f1] at p1; cases p1), fun e => (by rw [e, f1] at q1; cases q1)⟩
theorem BV.ne {h : Heap} {n0 : Nat} {v : V} {g : Nat → Int} (hv : BV h n0 v g) {b : Nat} {c : Blk} {e : TypeId} (hb : h.get b = some (.cells c e)) (he : e ≠ 5) : ∀ b', sblk v = b' → b' ≠ b := by
  obtain ⟨x, ex, cx, rfl, h1, h2, h3⟩ := hv
  rintro b' rfl rfl
  have : h.get x = some (.cells c e) := hb
  rw [h2] at this
  cases this
  exact he rfl
theorem RPool.set_ho {h : Heap} {n0 rd : Nat} {L : RL} {S : PS} {bv : Nat → V} (hr : RPool h n0 rd L S bv) {f : Blk} (hf : h.get L.fb = some (.cells f 83)) {i : Nat} (hi : i < S.n) (k : Int) (hk : S.ho i = 0 → k = 0) :
    RPool (h.set L.fb (.cells (f.set (i * 3 + 1) (.int .i64 k)) 83)) n0 rd L (S.setHo i k) bv := by
  obtain ⟨b1, b2, b3, b4, b5⟩ := hr.blocks
  obtain ⟨c, p1, p2⟩ := hr.p
  obtain ⟨f', f1, ⟨fs, fr, fo, fh, fv⟩⟩ := hr.f
  obtain ⟨q, q1, q2⟩ := hr.q
  rw [hf] at f1
  cases f1
  have hs : ∀ j, j ≠ i * 3 + 1 → (f.set (i * 3 + 1) (.int .i64 k)).get j = f.get j := fun j hj => w_bset_ne hj _
  refine ⟨⟨by rw [Heap.n_set]; exact hr.lt.1, hr.lt.2⟩, hr.pos, ⟨c, by rw [w_set_ne b2 b4]; exact p1, p2⟩, ⟨_, w_set_eq b2 rfl _, by rw [Blk.size_set]; exact fs, by rw [Blk.ro_set]; exact fr, fun j hj => by rw [hs _ (by omega)]; exact fo j hj, fun j hj => ?_, fun j hj => by rw [hs _ (by omega)]; exact fv j hj⟩, ⟨q, by rw [w_set_ne b2 b5]; exact q1, q2⟩, fun j hj => ?_, hr.dis⟩
  · by_cases e : j = i
    · subst e
      rw [w_bset_eq rfl]
      simp [PS.setHo]
    · rw [hs _ (by omega), fh j hj]
      simp [PS.setHo, e]
  · rcases hr.b j hj with ⟨h1, h2⟩ | ⟨g, h1, h2⟩
    · refine .inl ⟨h1, ?_⟩
      by_cases e : j = i
      · subst e; simp [PS.setHo, hk h2]
      · simp [PS.setHo, e, h2]
    · refine .inr ⟨g, ?_, fun hne => ?_⟩
      · obtain ⟨b, x, c', e, hb, hg, hs'⟩ := h1
        refine ⟨b, x, c', e, hb, ?_, hs'⟩
        rw [w_set_ne b2 (fun e' => by rw [e', hf] at hg; cases hg)]
        exact hg
      · refine h2 fun h0 => hne ?_
        by_cases e : j = i
        · subst e; simp [PS.setHo, hk h0]
        · simp [PS.setHo, e, h0]
theorem rof_ok {h : Heap} {R W : Set'} {n0 rd : Nat} {L : RL} {S : PS} {bv : Nat → V} (hr : RPool h n0 rd L S bv) (hR : ∀ b, R b) {i : Nat} (hi : i < S.n) :
    SF Try.prog 41 [.ptr (some (rd, 0)), .int .i64 i] h R W fun v h' => v = .agg [.int .i64 i, .int .i64 (S.ow i), .int .i64 (S.ho i)] ∧ h.n ≤ h'.n ∧ ∀ b, b < h.n → h'.get b = h.get b := by
  obtain ⟨b1, b2, b3, b4, b5⟩ := hr.blocks
  obtain ⟨c, p1, p2, p3, p4⟩ := hr.p
  obtain ⟨f, f1, ⟨fs, fr, fo, fh, fv⟩⟩ := hr.f
  have hR1 := hR rd
  have hR2 := hR L.fb
  have ho := fo i hi
  have hh := fh i hi
  have hs0 : i * 3 < f.size := by omega
  have hs : i * 3 + 1 < f.size := by omega
  have hi0 : (0 : Int) ≤ (i : Int) := by omega
  have hi1 : (i : Int) < (S.n : Nat) := by omega
  obtain ⟨h1, e1, n1, g1, k1⟩ : ∃ h1, h.push (O.cells (Blk.of [V.int IntKind.i64 0, V.int IntKind.i64 0, V.int IntKind.i64 0]) 46) = h1 ∧ h1.n = h.n + 1 ∧ h1.get h.n = some (O.cells (Blk.of [V.int IntKind.i64 0, V.int IntKind.i64 0, V.int IntKind.i64 0]) 46) ∧ ∀ b, b < h.n → h1.get b = h.get b := ⟨_, rfl, by simp, w_push_eq rfl _, fun b hb => w_push_ne (by omega) _⟩
  have p1' := (k1 rd b1).trans p1
  have f1' := (k1 L.fb b2).trans f1
  refine SF.go hm Try.func41 ir41_eq ?_
  simp -implicitDefEqProofs (disch := (first | omega | (simp -implicitDefEqProofs only [szs, ne_eq] <;> omega) | fail)) only [go_sem, Nat.reduceAdd, Nat.reduceSub, Nat.reduceMul, Nat.reduceLT, Nat.reduceMod, Nat.reduceDiv, Nat.reduceEqDiff, Nat.reduceBEq, Nat.reduceLeDiff, ↓reduceIte, reduceCtorEq, Int.reduceAdd, Int.reduceSub, Int.reduceLT, Int.reduceLE, Int.reduceBEq, Int.reduceEq, Int.reduceToNat, ir41, e1, p1', p2, p3, hR1, hR2, f1', ho, hh, hs, hs0, hi0, hi1, undefV, g1]
  exact ⟨by omega, fun b hb => by rw [w_set_ne (by omega) (by omega)]; exact k1 b hb⟩
theorem rbyte_ok {h : Heap} {R W : Set'} {n0 rd : Nat} {L : RL} {S : PS} {bv : Nat → V} (hr : RPool h n0 rd L S bv) (w : WF S) (hR : ∀ b, R b) (k at' : Int) :
    SF Try.prog 51 [.ptr (some (rd, 0)), .int .i64 k, .int .i64 at'] h R W fun v h' => v = .tuple (if ¬ (0 ≤ at' ∧ at' < 256) then [.int .u8 0, .int .i64 2] else if ¬ Owned S k then [.int .u8 0, .int .i64 6] else [.int .u8 (S.byt k.toNat at'.toNat), .int .i64 0]) ∧ h' = h := by
  obtain ⟨b1, b2, b3, b4, b5⟩ := hr.blocks
  obtain ⟨c, p1, p2, p3, p4⟩ := hr.p
  obtain ⟨f, f1, ⟨fs, fr, fo, fh, fv⟩⟩ := hr.f
  have hR1 := hR rd
  have hR2 := hR L.fb
  refine SF.go hm Try.func51 ir51_eq ?_
  by_cases ha : 0 ≤ at' ∧ at' < 256
  · rw [if_neg (fun h => h ha)]
    obtain ⟨ha0, ha1⟩ := ha
    simp -implicitDefEqProofs (disch := (first | omega | (simp -implicitDefEqProofs only [szs, ne_eq] <;> omega) | fail)) only [go_sem, Nat.reduceAdd, Nat.reduceSub, Nat.reduceMul, Nat.reduceLT, Nat.reduceMod, Nat.reduceDiv, Nat.reduceEqDiff, Nat.reduceBEq, Nat.reduceLeDiff, ↓reduceIte, reduceCtorEq, Int.reduceAdd, Int.reduceSub, Int.reduceLT, Int.reduceLE, Int.reduceBEq, Int.reduceEq, Int.reduceToNat, ir51, undefV, ha0, ha1]
    refine GCall.of (rowned_ok hr w (fun b => .inr (hR b)) k) ?_
    rintro v h1 ⟨rfl, rfl⟩
    by_cases ho : Owned S k
    · rw [decide_eq_true ho, if_neg (fun h => h ho)]
      obtain ⟨h0, h2, h3⟩ := ho
      obtain ⟨i, rfl⟩ := Int.eq_ofNat_of_zero_le h0
      obtain ⟨j, rfl⟩ := Int.eq_ofNat_of_zero_le ha0
      have hi : i < S.n := by omega
      have h3 : S.ho i ≠ 0 := h3
      rcases hr.b i hi with ⟨_, h4⟩ | ⟨g, ⟨b, x, cb, hbv, hb0, hb, hbs, hbr, hbg⟩, hg⟩
      · exact absurd h4 h3
      have hv := fv i hi
      rw [hbv] at hv
      have hs : i * 3 + 2 < f.size := by omega
      have hj : j < 256 := by omega
      have hgj := hbg j hj
      rw [hg h3 j hj] at hgj
      have hRb := hR b
      have hjs : j < cb.size := by omega
      have hj2 : (j : Int) < ((256 : Nat) : Int) := by omega
      simp -implicitDefEqProofs (disch := (first | omega | (simp -implicitDefEqProofs only [szs, ne_eq] <;> omega) | fail)) only [go_sem, Nat.reduceAdd, Nat.reduceSub, Nat.reduceMul, Nat.reduceLT, Nat.reduceMod, Nat.reduceDiv, Nat.reduceEqDiff, Nat.reduceBEq, Nat.reduceLeDiff, ↓reduceIte, reduceCtorEq, Int.reduceAdd, Int.reduceSub, Int.reduceLT, Int.reduceLE, Int.reduceBEq, Int.reduceEq, Int.reduceToNat, p1, p2, p3, hR1, hR2, f1, hv, hs, h0, h2, ha0, ha1, hb, hgj, hRb, hjs, hj2]
    · rw [decide_eq_false ho, if_pos ho]
      simp -implicitDefEqProofs (disch := (first | omega | (simp -implicitDefEqProofs only [szs, ne_eq] <;> omega) | fail)) only [go_sem, Nat.reduceAdd, Nat.reduceSub, Nat.reduceMul, Nat.reduceLT, Nat.reduceMod, Nat.reduceDiv, Nat.reduceEqDiff, Nat.reduceBEq, Nat.reduceLeDiff, ↓reduceIte, reduceCtorEq, Int.reduceAdd, Int.reduceSub, Int.reduceLT, Int.reduceLE, Int.reduceBEq, Int.reduceEq, Int.reduceToNat]
  · rw [if_pos ha]
    by_cases h0 : at' < 0
    · simp -implicitDefEqProofs (disch := (first | omega | (simp -implicitDefEqProofs only [szs, ne_eq] <;> omega) | fail)) only [go_sem, Nat.reduceAdd, Nat.reduceSub, Nat.reduceMul, Nat.reduceLT, Nat.reduceMod, Nat.reduceDiv, Nat.reduceEqDiff, Nat.reduceBEq, Nat.reduceLeDiff, ↓reduceIte, reduceCtorEq, Int.reduceAdd, Int.reduceSub, Int.reduceLT, Int.reduceLE, Int.reduceBEq, Int.reduceEq, Int.reduceToNat, ir51, undefV, h0]
    · have h1 : at' ≥ 256 := by omega
      simp -implicitDefEqProofs (disch := (first | omega | (simp -implicitDefEqProofs only [szs, ne_eq] <;> omega) | fail)) only [go_sem, Nat.reduceAdd, Nat.reduceSub, Nat.reduceMul, Nat.reduceLT, Nat.reduceMod, Nat.reduceDiv, Nat.reduceEqDiff, Nat.reduceBEq, Nat.reduceLeDiff, ↓reduceIte, reduceCtorEq, Int.reduceAdd, Int.reduceSub, Int.reduceLT, Int.reduceLE, Int.reduceBEq, Int.reduceEq, Int.reduceToNat, ir51, undefV, h0, h1]
theorem rhold_ok {h : Heap} {R W : Set'} {n0 rd : Nat} {L : RL} {S : PS} {bv : Nat → V} (hr : RPool h n0 rd L S bv) (w : WF S) (hR : ∀ b, R b) (hW : W L.fb) (k : Int) :
    SF Try.prog 46 [.ptr (some (rd, 0)), .int .i64 k] h R W fun v h' => v = .int .i64 (if ¬ Owned S k then 6 else if S.ho k.toNat = 65535 then 5 else 0) ∧ RPool h' n0 rd L (if Owned S k ∧ S.ho k.toNat ≠ 65535 then S.setHo k.toNat (S.ho k.toNat + 1) else S) bv := by
  obtain ⟨b1, b2, b3, b4, b5⟩ := hr.blocks
  obtain ⟨c, p1, p2, p3, p4⟩ := hr.p
  obtain ⟨f, f1, ⟨fs, fr, fo, fh, fv⟩⟩ := hr.f
  have hR1 := hR rd
  have hR2 := hR L.fb
  refine SF.go hm Try.func46 ir46_eq ?_
  simp -implicitDefEqProofs (disch := (first | omega | (simp -implicitDefEqProofs only [szs, ne_eq] <;> omega) | fail)) only [go_sem, Nat.reduceAdd, Nat.reduceSub, Nat.reduceMul, Nat.reduceLT, Nat.reduceMod, Nat.reduceDiv, Nat.reduceEqDiff, Nat.reduceBEq, Nat.reduceLeDiff, ↓reduceIte, reduceCtorEq, Int.reduceAdd, Int.reduceSub, Int.reduceLT, Int.reduceLE, Int.reduceBEq, Int.reduceEq, Int.reduceToNat, ir46]
  refine GCall.of (rowned_ok hr w (fun b => .inr (hR b)) k) ?_
  rintro v h1 ⟨rfl, rfl⟩
  by_cases ho : Owned S k
  · rw [decide_eq_true ho, if_neg (fun h => h ho)]
    obtain ⟨h0, h2, h3⟩ := id ho
    obtain ⟨i, rfl⟩ := Int.eq_ofNat_of_zero_le h0
    have hi : i < S.n := by omega
    have h3 : S.ho i ≠ 0 := h3
    have hh := fh i hi
    have hw := w.ho i hi
    have hs : i * 3 + 1 < f.size := by omega
    simp only [Int.toNat_natCast]
    by_cases hl : S.ho i = 65535
    · rw [if_pos hl, if_neg (fun h => h.2 hl)]
      simp -implicitDefEqProofs (disch := (first | omega | (simp -implicitDefEqProofs only [szs, ne_eq] <;> omega) | fail)) only [go_sem, Nat.reduceAdd, Nat.reduceSub, Nat.reduceMul, Nat.reduceLT, Nat.reduceMod, Nat.reduceDiv, Nat.reduceEqDiff, Nat.reduceBEq, Nat.reduceLeDiff, ↓reduceIte, reduceCtorEq, Int.reduceAdd, Int.reduceSub, Int.reduceLT, Int.reduceLE, Int.reduceBEq, Int.reduceEq, Int.reduceToNat, p1, p2, p3, hR1, hR2, f1, hh, hs, h0, h2, hl]
      exact hr
    · have hb : (S.ho i == 65535) = false := by simpa using hl
      rw [if_neg hl, if_pos ⟨ho, hl⟩]
      simp -implicitDefEqProofs (disch := (first | omega | (simp -implicitDefEqProofs only [szs, ne_eq] <;> omega) | fail)) only [go_sem, Nat.reduceAdd, Nat.reduceSub, Nat.reduceMul, Nat.reduceLT, Nat.reduceMod, Nat.reduceDiv, Nat.reduceEqDiff, Nat.reduceBEq, Nat.reduceLeDiff, ↓reduceIte, reduceCtorEq, Int.reduceAdd, Int.reduceSub, Int.reduceLT, Int.reduceLE, Int.reduceBEq, Int.reduceEq, Int.reduceToNat, p1, p2, p3, hR1, hR2, f1, fr, hh, hs, h0, h2, hb, hW]
      exact hr.set_ho f1 hi _ (fun h => absurd h h3)
  · rw [decide_eq_false ho, if_pos ho, if_neg (fun h => ho h.1)]
    simp -implicitDefEqProofs (disch := (first | omega | (simp -implicitDefEqProofs only [szs, ne_eq] <;> omega) | fail)) only [go_sem, Nat.reduceAdd, Nat.reduceSub, Nat.reduceMul, Nat.reduceLT, Nat.reduceMod, Nat.reduceDiv, Nat.reduceEqDiff, Nat.reduceBEq, Nat.reduceLeDiff, ↓reduceIte, reduceCtorEq, Int.reduceAdd, Int.reduceSub, Int.reduceLT, Int.reduceLE, Int.reduceBEq, Int.reduceEq, Int.reduceToNat]
    exact hr
theorem rdrop_ok {h : Heap} {R W : Set'} {n0 rd : Nat} {L : RL} {S : PS} {bv : Nat → V} (hr : RPool h n0 rd L S bv) (w : WF S) (hR : ∀ b, R b) (hW : W L.fb) (k : Int) :
    SF Try.prog 47 [.ptr (some (rd, 0)), .int .i64 k] h R W fun v h' => v = .tuple (if ¬ Owned S k then [.bool false, .int .i64 6] else [.bool (decide (S.ho k.toNat = 1)), .int .i64 0]) ∧ RPool h' n0 rd L (if Owned S k then S.setHo k.toNat (S.ho k.toNat - 1) else S) bv := by
  obtain ⟨b1, b2, b3, b4, b5⟩ := hr.blocks
  obtain ⟨c, p1, p2, p3, p4⟩ := hr.p
  obtain ⟨f, f1, ⟨fs, fr, fo, fh, fv⟩⟩ := hr.f
  have hR1 := hR rd
  have hR2 := hR L.fb
  refine SF.go hm Try.func47 ir47_eq ?_
  simp -implicitDefEqProofs (disch := (first | omega | (simp -implicitDefEqProofs only [szs, ne_eq] <;> omega) | fail)) only [go_sem, Nat.reduceAdd, Nat.reduceSub, Nat.reduceMul, Nat.reduceLT, Nat.reduceMod, Nat.reduceDiv, Nat.reduceEqDiff, Nat.reduceBEq, Nat.reduceLeDiff, ↓reduceIte, reduceCtorEq, Int.reduceAdd, Int.reduceSub, Int.reduceLT, Int.reduceLE, Int.reduceBEq, Int.reduceEq, Int.reduceToNat, ir47]
  refine GCall.of (rowned_ok hr w (fun b => .inr (hR b)) k) ?_
  rintro v h1 ⟨rfl, rfl⟩
  by_cases ho : Owned S k
  · rw [decide_eq_true ho, if_neg (fun h => h ho), if_pos ho]
    obtain ⟨h0, h2, h3⟩ := id ho
    obtain ⟨i, rfl⟩ := Int.eq_ofNat_of_zero_le h0
    have hi : i < S.n := by omega
    have h3 : S.ho i ≠ 0 := h3
    have hh := fh i hi
    have hw := w.ho i hi
    have hs : i * 3 + 1 < f.size := by omega
    simp only [Int.toNat_natCast]
    have key := hr.set_ho f1 hi (S.ho i - 1) (fun h => absurd h h3)
    have e1 : (S.ho i - 1 == 0) = decide (S.ho i = 1) := by
      by_cases h : S.ho i = 1
      · simp [h]
      · rw [decide_eq_false h]; simp; omega
    have p1' : (h1.set L.fb (.cells (f.set (i * 3 + 1) (.int .i64 (S.ho i - 1))) 83)).get rd = some (.cells c 78) := by rw [w_set_ne b2 b4]; exact p1
    simp -implicitDefEqProofs (disch := (first | omega | (simp -implicitDefEqProofs only [szs, ne_eq] <;> omega) | fail)) only [go_sem, Nat.reduceAdd, Nat.reduceSub, Nat.reduceMul, Nat.reduceLT, Nat.reduceMod, Nat.reduceDiv, Nat.reduceEqDiff, Nat.reduceBEq, Nat.reduceLeDiff, ↓reduceIte, reduceCtorEq, Int.reduceAdd, Int.reduceSub, Int.reduceLT, Int.reduceLE, Int.reduceBEq, Int.reduceEq, Int.reduceToNat, p1, p2, p3, hR1, hR2, f1, fr, hh, hs, h0, h2, hW, p1', e1]
    exact key
  · rw [decide_eq_false ho, if_pos ho, if_neg ho]
    simp -implicitDefEqProofs (disch := (first | omega | (simp -implicitDefEqProofs only [szs, ne_eq] <;> omega) | fail)) only [go_sem, Nat.reduceAdd, Nat.reduceSub, Nat.reduceMul, Nat.reduceLT, Nat.reduceMod, Nat.reduceDiv, Nat.reduceEqDiff, Nat.reduceBEq, Nat.reduceLeDiff, ↓reduceIte, reduceCtorEq, Int.reduceAdd, Int.reduceSub, Int.reduceLT, Int.reduceLE, Int.reduceBEq, Int.reduceEq, Int.reduceToNat]
    exact hr
end Go.Proofs.Ytfgdpgagcnelpaa
