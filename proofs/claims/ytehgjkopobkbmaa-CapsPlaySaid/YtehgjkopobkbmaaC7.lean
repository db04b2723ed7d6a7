/- A step, May, granted. -/
import Derived.Test.YtehgjkopobkbmaaC6
set_option linter.unusedVariables false
set_option linter.unusedSimpArgs false
set_option linter.unusedSimpArgs false
set_option maxRecDepth 100000
set_option linter.unusedVariables false
set_option linter.unusedSimpArgs false
namespace Go.Proofs.Ytehgjkopobkbmaa
open Go Go.Vm
open Classical
/-- A step. -/
structure St where
  k : Int
  a : Int
  t : Int
  th : Int
  ob : Int
  rt : Int
  id : Int
def St.l (s : St) : List V := [.int .i64 s.k, .int .i64 s.a, .int .i64 s.t, .int .i64 s.th, .int .i64 s.ob, .int .i64 s.rt, .int .i64 s.id]
def St.v (s : St) : V := .agg s.l
noncomputable def oneT (T : CS) (s : St) : CS := if s.k = 1 then rootT T s.a s.th s.ob s.rt else if s.k = 2 then underT T s.a s.id s.a s.rt 0 else if s.k = 3 then underT T s.a s.id s.t s.rt 8 else if s.k = 4 then revT T s.a s.id else if s.k = 5 then dropT T s.a s.id else T
theorem mine_zero {T : CS} {a id : Int} (h : mineE T a id = 0) : ∃ c, findC T.L id = some c ∧ mineC T a id = c ∧ c.ac = a ∧ okA a := by
  unfold mineE at h
  split at h
  · cases h
  · rename_i h1
    have h1 : okA a := Decidable.not_not.1 h1
    cases hf : findC T.L id with
    | none => rw [hf] at h; cases h
    | some c =>
      rw [hf] at h
      simp only [] at h
      split at h
      · rename_i h2
        exact ⟨c, rfl, by rw [mineC, if_neg (fun hn => hn h1), hf]; exact if_pos h2, h2, h1⟩
      · cases h
theorem WF.under {T : CS} (w : WF T) (hl : T.last < 1000000) (a id to rt need : Int) : WF (underT T a id to rt need) := by
  unfold underT
  split
  · exact w
  split
  · exact w
  rename_i h1 h2
  split
  · exact w
  refine w.add ?_ hl
  obtain ⟨c, hc, _⟩ := mine_zero (Decidable.not_not.1 h2)
  obtain ⟨hm, hi⟩ := findC_some hc
  have := w.ids c hm
  show 0 ≤ id ∧ id ≤ T.last
  omega
theorem addT_last (T : CS) (c : Cp) : T.last ≤ (addT T c).last ∧ (addT T c).last ≤ T.last + 1 := by
  unfold addT
  split
  · omega
  · show T.last ≤ T.last + 1 ∧ T.last + 1 ≤ T.last + 1; omega
theorem underT_last (T : CS) (a id to rt need : Int) : T.last ≤ (underT T a id to rt need).last ∧ (underT T a id to rt need).last ≤ T.last + 1 := by
  unfold underT
  split
  · omega
  split
  · omega
  split
  · omega
  exact addT_last _ _
theorem rootT_last (T : CS) (a kd ob rt : Int) : T.last ≤ (rootT T a kd ob rt).last ∧ (rootT T a kd ob rt).last ≤ T.last + 1 := by
  unfold rootT
  split
  · exact addT_last _ _
  · omega
theorem WF.root {T : CS} (w : WF T) (hl : T.last < 1000000) (a kd ob rt : Int) : WF (rootT T a kd ob rt) := by
  unfold rootT
  split
  · have := w.last
    exact w.add (show 0 ≤ (0 : Int) ∧ (0 : Int) ≤ T.last by omega) hl
  · exact w
theorem WF.rev {T : CS} (w : WF T) (a id : Int) : WF (revT T a id) := by
  unfold revT
  split
  · exact w.gone id
  · exact w
theorem WF.drop {T : CS} (w : WF T) (a id : Int) : WF (dropT T a id) := by
  unfold dropT
  split
  · exact (w.gone id).filter _
  · exact w
theorem oneT_last (T : CS) (s : St) : T.last ≤ (oneT T s).last ∧ (oneT T s).last ≤ T.last + 1 := by
  unfold oneT
  split
  · exact rootT_last _ _ _ _ _
  split
  · exact underT_last _ _ _ _ _ _
  split
  · exact underT_last _ _ _ _ _ _
  split
  · unfold revT; split <;> (show T.last ≤ T.last ∧ T.last ≤ T.last + 1; omega)
  split
  · unfold dropT; split <;> (show T.last ≤ T.last ∧ T.last ≤ T.last + 1; omega)
  · omega
theorem WF.one {T : CS} (w : WF T) (hl : T.last < 1000000) (s : St) : WF (oneT T s) := by
  unfold oneT
  split
  · exact w.root hl _ _ _ _
  split
  · exact w.under hl _ _ _ _ _
  split
  · exact w.under hl _ _ _ _ _
  split
  · exact w.rev _ _
  split
  · exact w.drop _ _
  · exact w
set_option maxHeartbeats 1000000 in
theorem one_ok {h : Heap} {R W : Set'} {tb r : Nat} {T : CS} (ht : CapAt h tb r T) (w : WF T) (hR : ∀ b, R b) (hW : ∀ b, b = tb ∨ b = r → W b) (s : St) :
    SF Try.prog 14 [.ptr (some (tb, 0)), s.v] h R W fun _ h' => CapAt h' tb r (oneT T s) := by
  obtain ⟨k, a, t, th, ob, rt, id⟩ := s
  refine SF.go hm Try.func14 ir14_eq ?_
  obtain ⟨h2, e2, n2, g2, k2⟩ : ∃ h2, h.push (O.cells (Blk.of [V.int IntKind.i64 k, V.int IntKind.i64 a, V.int IntKind.i64 t, V.int IntKind.i64 th, V.int IntKind.i64 ob, V.int IntKind.i64 rt, V.int IntKind.i64 id]) 32) = h2 ∧ h2.n = h.n + 1 ∧ h2.get h.n = some (O.cells (Blk.of [V.int IntKind.i64 k, V.int IntKind.i64 a, V.int IntKind.i64 t, V.int IntKind.i64 th, V.int IntKind.i64 ob, V.int IntKind.i64 rt, V.int IntKind.i64 id]) 32) ∧ ∀ b, b < h.n → h2.get b = h.get b := ⟨_, rfl, by simp, w_push_eq rfl _, fun b hb => w_push_ne (by omega) _⟩
  have ht2 := ht.old k2
  have hR' : ∀ b, h.n ≤ b ∨ R b := fun b => .inr (hR b)
  have hW' : ∀ b, b = tb ∨ b = r → h.n ≤ b ∨ W b := fun b hb => .inr (hW b hb)
  by_cases h1 : k = 1
  · subst h1
    simp -implicitDefEqProofs (disch := (first | omega | (simp -implicitDefEqProofs only [szs, ne_eq] <;> omega) | fail)) only [go_sem, Nat.reduceAdd, Nat.reduceSub, Nat.reduceMul, Nat.reduceLT, Nat.reduceMod, Nat.reduceDiv, Nat.reduceEqDiff, Nat.reduceBEq, Nat.reduceLeDiff, ↓reduceIte, reduceCtorEq, Int.reduceAdd, Int.reduceSub, Int.reduceLT, Int.reduceLE, Int.reduceBEq, Int.reduceEq, Int.reduceToNat, ir14, St.v, St.l, e2, g2]
    refine GCall.of (root_ok ht2 w (fun b _ => hR' b) hW' a th ob rt) ?_
    rintro v h4 ⟨rfl, ht4⟩
    simp -implicitDefEqProofs (disch := (first | omega | (simp -implicitDefEqProofs only [szs, ne_eq] <;> omega) | fail)) only [go_sem, Nat.reduceAdd, Nat.reduceSub, Nat.reduceMul, Nat.reduceLT, Nat.reduceMod, Nat.reduceDiv, Nat.reduceEqDiff, Nat.reduceBEq, Nat.reduceLeDiff, ↓reduceIte, reduceCtorEq, Int.reduceAdd, Int.reduceSub, Int.reduceLT, Int.reduceLE, Int.reduceBEq, Int.reduceEq, Int.reduceToNat]
    exact ht4
  by_cases h2 : k = 2
  · subst h2
    simp -implicitDefEqProofs (disch := (first | omega | (simp -implicitDefEqProofs only [szs, ne_eq] <;> omega) | fail)) only [go_sem, Nat.reduceAdd, Nat.reduceSub, Nat.reduceMul, Nat.reduceLT, Nat.reduceMod, Nat.reduceDiv, Nat.reduceEqDiff, Nat.reduceBEq, Nat.reduceLeDiff, ↓reduceIte, reduceCtorEq, Int.reduceAdd, Int.reduceSub, Int.reduceLT, Int.reduceLE, Int.reduceBEq, Int.reduceEq, Int.reduceToNat, ir14, St.v, St.l, e2, g2]
    refine GCall.of (derive_ok ht2 w (fun b _ => hR' b) hW' a id rt) ?_
    rintro v h4 ⟨rfl, ht4⟩
    simp -implicitDefEqProofs (disch := (first | omega | (simp -implicitDefEqProofs only [szs, ne_eq] <;> omega) | fail)) only [go_sem, Nat.reduceAdd, Nat.reduceSub, Nat.reduceMul, Nat.reduceLT, Nat.reduceMod, Nat.reduceDiv, Nat.reduceEqDiff, Nat.reduceBEq, Nat.reduceLeDiff, ↓reduceIte, reduceCtorEq, Int.reduceAdd, Int.reduceSub, Int.reduceLT, Int.reduceLE, Int.reduceBEq, Int.reduceEq, Int.reduceToNat]
    exact ht4
  by_cases h3 : k = 3
  · subst h3
    simp -implicitDefEqProofs (disch := (first | omega | (simp -implicitDefEqProofs only [szs, ne_eq] <;> omega) | fail)) only [go_sem, Nat.reduceAdd, Nat.reduceSub, Nat.reduceMul, Nat.reduceLT, Nat.reduceMod, Nat.reduceDiv, Nat.reduceEqDiff, Nat.reduceBEq, Nat.reduceLeDiff, ↓reduceIte, reduceCtorEq, Int.reduceAdd, Int.reduceSub, Int.reduceLT, Int.reduceLE, Int.reduceBEq, Int.reduceEq, Int.reduceToNat, ir14, St.v, St.l, e2, g2]
    refine GCall.of (grant_ok ht2 w (fun b _ => hR' b) hW' a id t rt) ?_
    rintro v h4 ⟨rfl, ht4⟩
    simp -implicitDefEqProofs (disch := (first | omega | (simp -implicitDefEqProofs only [szs, ne_eq] <;> omega) | fail)) only [go_sem, Nat.reduceAdd, Nat.reduceSub, Nat.reduceMul, Nat.reduceLT, Nat.reduceMod, Nat.reduceDiv, Nat.reduceEqDiff, Nat.reduceBEq, Nat.reduceLeDiff, ↓reduceIte, reduceCtorEq, Int.reduceAdd, Int.reduceSub, Int.reduceLT, Int.reduceLE, Int.reduceBEq, Int.reduceEq, Int.reduceToNat]
    exact ht4
  by_cases h4 : k = 4
  · subst h4
    simp -implicitDefEqProofs (disch := (first | omega | (simp -implicitDefEqProofs only [szs, ne_eq] <;> omega) | fail)) only [go_sem, Nat.reduceAdd, Nat.reduceSub, Nat.reduceMul, Nat.reduceLT, Nat.reduceMod, Nat.reduceDiv, Nat.reduceEqDiff, Nat.reduceBEq, Nat.reduceLeDiff, ↓reduceIte, reduceCtorEq, Int.reduceAdd, Int.reduceSub, Int.reduceLT, Int.reduceLE, Int.reduceBEq, Int.reduceEq, Int.reduceToNat, ir14, St.v, St.l, e2, g2]
    refine GCall.of (revoke_ok ht2 w hR' (hW' r (.inr rfl)) a id) ?_
    rintro v h4 ⟨rfl, ht4⟩
    simp -implicitDefEqProofs (disch := (first | omega | (simp -implicitDefEqProofs only [szs, ne_eq] <;> omega) | fail)) only [go_sem, Nat.reduceAdd, Nat.reduceSub, Nat.reduceMul, Nat.reduceLT, Nat.reduceMod, Nat.reduceDiv, Nat.reduceEqDiff, Nat.reduceBEq, Nat.reduceLeDiff, ↓reduceIte, reduceCtorEq, Int.reduceAdd, Int.reduceSub, Int.reduceLT, Int.reduceLE, Int.reduceBEq, Int.reduceEq, Int.reduceToNat]
    exact ht4
  by_cases h5 : k = 5
  · subst h5
    simp -implicitDefEqProofs (disch := (first | omega | (simp -implicitDefEqProofs only [szs, ne_eq] <;> omega) | fail)) only [go_sem, Nat.reduceAdd, Nat.reduceSub, Nat.reduceMul, Nat.reduceLT, Nat.reduceMod, Nat.reduceDiv, Nat.reduceEqDiff, Nat.reduceBEq, Nat.reduceLeDiff, ↓reduceIte, reduceCtorEq, Int.reduceAdd, Int.reduceSub, Int.reduceLT, Int.reduceLE, Int.reduceBEq, Int.reduceEq, Int.reduceToNat, ir14, St.v, St.l, e2, g2]
    refine GCall.of (drop_ok ht2 w hR' (hW' r (.inr rfl)) a id) ?_
    rintro v h4 ⟨rfl, ht4⟩
    simp -implicitDefEqProofs (disch := (first | omega | (simp -implicitDefEqProofs only [szs, ne_eq] <;> omega) | fail)) only [go_sem, Nat.reduceAdd, Nat.reduceSub, Nat.reduceMul, Nat.reduceLT, Nat.reduceMod, Nat.reduceDiv, Nat.reduceEqDiff, Nat.reduceBEq, Nat.reduceLeDiff, ↓reduceIte, reduceCtorEq, Int.reduceAdd, Int.reduceSub, Int.reduceLT, Int.reduceLE, Int.reduceBEq, Int.reduceEq, Int.reduceToNat]
    exact ht4
  · have e : oneT T ⟨k, a, t, th, ob, rt, id⟩ = T := by simp [oneT, h1, h2, h3, h4, h5]
    rw [e]
    simp -implicitDefEqProofs (disch := (first | omega | (simp -implicitDefEqProofs only [szs, ne_eq] <;> omega) | fail)) only [go_sem, Nat.reduceAdd, Nat.reduceSub, Nat.reduceMul, Nat.reduceLT, Nat.reduceMod, Nat.reduceDiv, Nat.reduceEqDiff, Nat.reduceBEq, Nat.reduceLeDiff, ↓reduceIte, reduceCtorEq, Int.reduceAdd, Int.reduceSub, Int.reduceLT, Int.reduceLE, Int.reduceBEq, Int.reduceEq, Int.reduceToNat, ir14, St.v, St.l, e2, g2, h1, h2, h3, h4, h5]
    exact ht2
def mayC (kd ob rt : Int) (c : Cp) : Bool := decide (c.kd = kd) && (decide (c.ob = ob) && decide (anot rt c.rt = 0))
def mayB (T : CS) (a kd ob rt : Int) : Bool := decide (okA a) && decide (okR rt) && (allL T.L a).any (mayC kd ob rt)
set_option maxHeartbeats 2000000 in
theorem may_ok {h : Heap} {R W : Set'} {tb r : Nat} {T : CS} (ht : CapAt h tb r T) (w : WF T) (hR : ∀ b, b = tb ∨ b = r → R b) (a kd ob rt : Int) :
    SF ⟨Try.prog, true⟩ 12 [.ptr (some (tb, 0)), .int .i64 a, .int .i64 kd, .int .i64 ob, .int .i64 rt] h R W fun v h' => v = .bool (mayB T a kd ob rt) ∧ h.n ≤ h'.n ∧ ∀ b, b < h.n → h'.get b = h.get b := by
  refine SF.go hm Try.func12 ir12_eq ?_
  simp -implicitDefEqProofs (disch := (first | omega | (simp -implicitDefEqProofs only [szs, ne_eq] <;> omega) | fail)) only [go_sem, Nat.reduceAdd, Nat.reduceSub, Nat.reduceMul, Nat.reduceLT, Nat.reduceMod, Nat.reduceDiv, Nat.reduceEqDiff, Nat.reduceBEq, Nat.reduceLeDiff, ↓reduceIte, reduceCtorEq, Int.reduceAdd, Int.reduceSub, Int.reduceLT, Int.reduceLE, Int.reduceBEq, Int.reduceEq, Int.reduceToNat, ir12]
  obtain ⟨g, eg, gn, hold, b1, b2, b3, b4⟩ : ∃ g, ((((h.push (O.cells (Blk.of [V.int IntKind.i64 kd]) 3)).push (O.cells (Blk.of [V.int IntKind.i64 ob]) 3)).push
          (O.cells (Blk.of [V.int IntKind.i64 rt]) 3)).push
      (O.cells (Blk.of [V.bool false]) 4)) = g ∧ g.n = h.n + 4 ∧ (∀ b, b < h.n → g.get b = h.get b) ∧ g.get h.n = some (O.cells (Blk.of [V.int IntKind.i64 kd]) 3) ∧ g.get (h.n + 1) = some (O.cells (Blk.of [V.int IntKind.i64 ob]) 3) ∧ g.get (h.n + 1 + 1) = some (O.cells (Blk.of [V.int IntKind.i64 rt]) 3) ∧ g.get (h.n + 1 + 1 + 1) = some (O.cells (Blk.of [V.bool false]) 4) := ⟨_, rfl, by simp, fun b hb => by simp -implicitDefEqProofs (disch := (first | omega | (simp -implicitDefEqProofs only [szs, ne_eq] <;> omega) | fail)) only [go_sem, Nat.reduceAdd, Nat.reduceSub, Nat.reduceMul, Nat.reduceLT, Nat.reduceMod, Nat.reduceDiv, Nat.reduceEqDiff, Nat.reduceBEq, Nat.reduceLeDiff, ↓reduceIte, reduceCtorEq, Int.reduceAdd, Int.reduceSub, Int.reduceLT, Int.reduceLE, Int.reduceBEq, Int.reduceEq, Int.reduceToNat], by simp -implicitDefEqProofs (disch := (first | omega | (simp -implicitDefEqProofs only [szs, ne_eq] <;> omega) | fail)) only [go_sem, Nat.reduceAdd, Nat.reduceSub, Nat.reduceMul, Nat.reduceLT, Nat.reduceMod, Nat.reduceDiv, Nat.reduceEqDiff, Nat.reduceBEq, Nat.reduceLeDiff, ↓reduceIte, reduceCtorEq, Int.reduceAdd, Int.reduceSub, Int.reduceLT, Int.reduceLE, Int.reduceBEq, Int.reduceEq, Int.reduceToNat], by simp -implicitDefEqProofs (disch := (first | omega | (simp -implicitDefEqProofs only [szs, ne_eq] <;> omega) | fail)) only [go_sem, Nat.reduceAdd, Nat.reduceSub, Nat.reduceMul, Nat.reduceLT, Nat.reduceMod, Nat.reduceDiv, Nat.reduceEqDiff, Nat.reduceBEq, Nat.reduceLeDiff, ↓reduceIte, reduceCtorEq, Int.reduceAdd, Int.reduceSub, Int.reduceLT, Int.reduceLE, Int.reduceBEq, Int.reduceEq, Int.reduceToNat], by simp -implicitDefEqProofs (disch := (first | omega | (simp -implicitDefEqProofs only [szs, ne_eq] <;> omega) | fail)) only [go_sem, Nat.reduceAdd, Nat.reduceSub, Nat.reduceMul, Nat.reduceLT, Nat.reduceMod, Nat.reduceDiv, Nat.reduceEqDiff, Nat.reduceBEq, Nat.reduceLeDiff, ↓reduceIte, reduceCtorEq, Int.reduceAdd, Int.reduceSub, Int.reduceLT, Int.reduceLE, Int.reduceBEq, Int.reduceEq, Int.reduceToNat], by simp -implicitDefEqProofs (disch := (first | omega | (simp -implicitDefEqProofs only [szs, ne_eq] <;> omega) | fail)) only [go_sem, Nat.reduceAdd, Nat.reduceSub, Nat.reduceMul, Nat.reduceLT, Nat.reduceMod, Nat.reduceDiv, Nat.reduceEqDiff, Nat.reduceBEq, Nat.reduceLeDiff, ↓reduceIte, reduceCtorEq, Int.reduceAdd, Int.reduceSub, Int.reduceLT, Int.reduceLE, Int.reduceBEq, Int.reduceEq, Int.reduceToNat]⟩
  rw [eg]
  clear eg
  have htg := ht.old hold
  have hRt := hR tb (.inl rfl)
  refine GCall.of (there_ok htg (.inr hRt)).any ?_
  rintro v g ⟨rfl, rfl⟩
  simp -implicitDefEqProofs (disch := (first | omega | (simp -implicitDefEqProofs only [szs, ne_eq] <;> omega) | fail)) only [go_sem, Nat.reduceAdd, Nat.reduceSub, Nat.reduceMul, Nat.reduceLT, Nat.reduceMod, Nat.reduceDiv, Nat.reduceEqDiff, Nat.reduceBEq, Nat.reduceLeDiff, ↓reduceIte, reduceCtorEq, Int.reduceAdd, Int.reduceSub, Int.reduceLT, Int.reduceLE, Int.reduceBEq, Int.reduceEq, Int.reduceToNat, undefV]
  refine GCall.of (account_ok a).any ?_
  rintro v g ⟨rfl, rfl⟩
  by_cases ha : okA a
  · have ha' : (0 ≤ a ∧ a < 8) := ha
    rw [decide_eq_true ha']
    simp -implicitDefEqProofs (disch := (first | omega | (simp -implicitDefEqProofs only [szs, ne_eq] <;> omega) | fail)) only [go_sem, Nat.reduceAdd, Nat.reduceSub, Nat.reduceMul, Nat.reduceLT, Nat.reduceMod, Nat.reduceDiv, Nat.reduceEqDiff, Nat.reduceBEq, Nat.reduceLeDiff, ↓reduceIte, reduceCtorEq, Int.reduceAdd, Int.reduceSub, Int.reduceLT, Int.reduceLE, Int.reduceBEq, Int.reduceEq, Int.reduceToNat, undefV, b3]
    refine ⟨.inl (by omega), GCall.of (rights_ok rt).any ?_⟩
    rintro v g ⟨rfl, rfl⟩
    by_cases hrt : okR rt
    · have hrt' : (1 ≤ rt ∧ rt ≤ 15) := hrt
      rw [decide_eq_true hrt']
      simp -implicitDefEqProofs (disch := (first | omega | (simp -implicitDefEqProofs only [szs, ne_eq] <;> omega) | fail)) only [go_sem, Nat.reduceAdd, Nat.reduceSub, Nat.reduceMul, Nat.reduceLT, Nat.reduceMod, Nat.reduceDiv, Nat.reduceEqDiff, Nat.reduceBEq, Nat.reduceLeDiff, ↓reduceIte, reduceCtorEq, Int.reduceAdd, Int.reduceSub, Int.reduceLT, Int.reduceLE, Int.reduceBEq, Int.reduceEq, Int.reduceToNat, undefV]
      refine GCall.of (all_ok htg w (fun b hb => .inr (hR b hb)) a).any ?_
      rintro v ga ⟨rfl, na, ⟨ca, lv, a1, a2, a3, a4⟩, ka⟩
      simp -implicitDefEqProofs (disch := (first | omega | (simp -implicitDefEqProofs only [szs, ne_eq] <;> omega) | fail)) only [go_sem, Nat.reduceAdd, Nat.reduceSub, Nat.reduceMul, Nat.reduceLT, Nat.reduceMod, Nat.reduceDiv, Nat.reduceEqDiff, Nat.reduceBEq, Nat.reduceLeDiff, ↓reduceIte, reduceCtorEq, Int.reduceAdd, Int.reduceSub, Int.reduceLT, Int.reduceLE, Int.reduceBEq, Int.reduceEq, Int.reduceToNat]
      have hwl := w.last
      have hwn := w.len
      have hll : (allL T.L a).length ≤ T.L.length := List.length_filter_le _ _
      have hmb : mayB T a kd ob rt = (allL T.L a).any (mayC kd ob rt) := by rw [mayB, decide_eq_true ha, decide_eq_true hrt]; rfl
      rw [hmb]
      refine range40 (P := 28) (X := 11) (cb := ir12_b0) (S := fun b => h.n ≤ b ∧ b < ga.n) (L := allL T.L a) (fun b => b = h.n + 1 + 1 + 1)
        (fun p g' => ga.n ≤ g'.n ∧ (∀ b, b < ga.n → g'.get b = ga.get b) ∧ ((allL T.L a).take p).any (mayC kd ob rt) = false)
        (fun e g' => e = .ret ∧ ga.n ≤ g'.n ∧ (∀ b, b < ga.n → b ≠ h.n + 1 + 1 + 1 → g'.get b = ga.get b) ∧ (∃ c, g'.get (h.n + 1 + 1 + 1) = some (.cells c 4) ∧ c.size = 1 ∧ c.get 0 = .bool true) ∧ (allL T.L a).any (mayC kd ob rt) = true)
        (by simp -implicitDefEqProofs (disch := (first | omega | (simp -implicitDefEqProofs only [szs, ne_eq] <;> omega) | fail)) only [go_sem, Nat.reduceAdd, Nat.reduceSub, Nat.reduceMul, Nat.reduceLT, Nat.reduceMod, Nat.reduceDiv, Nat.reduceEqDiff, Nat.reduceBEq, Nat.reduceLeDiff, ↓reduceIte, reduceCtorEq, Int.reduceAdd, Int.reduceSub, Int.reduceLT, Int.reduceLE, Int.reduceBEq, Int.reduceEq, Int.reduceToNat]) ⟨ca, a1, a2, a3⟩ (LRs.mono a4 (fun b hb h => ⟨by omega, hb⟩)) (fun _ h => h.2) (by omega) (fun b hb => .inl (by rcases hb with h | h | h <;> omega)) (fun b hb => .inl (by rcases hb with hb | rfl <;> omega)) ⟨Nat.le_refl _, fun _ _ => rfl, rfl⟩
        (fun p g1 g2 ⟨i1, i2, i3⟩ j1 j2 => ⟨by omega, fun b hb => by rw [j2 b (by omega) (by omega) (by omega)]; exact i2 b hb, i3⟩)
        (fun e g1 g2 ⟨i1, i2, i3, ⟨c, i4, i5⟩, i6⟩ j1 j2 => ⟨i1, by omega, fun b hb hne => by rw [j2 b (by omega) (by omega) (by omega)]; exact i3 b hb hne, ⟨c, by rw [j2 _ (by omega) (by omega) (by omega)]; exact i4, i5⟩, i6⟩)
        (fun p g1 ⟨i1, i2, i3⟩ => ⟨i1, fun b hb => i2 b hb.2⟩) ir12_a0_eq ir12_b0_eq (by simp) (by show 28 < 46; omega) (by show 11 < 46; omega) ?_ ?_ ?_
      · rintro R' W' Q' p c g2 sb x rr w1 w2 hcp ⟨j1, j2, j3⟩ n2 hx hd ho s0 s1 s2 y0 y1 y2 y3 y4 y5 y6 hn hex
        have q1 := (j2 _ (by omega)).trans ((ka _ (by omega)).trans b1)
        have q2 := (j2 _ (by omega)).trans ((ka _ (by omega)).trans b2)
        have q3 := (j2 _ (by omega)).trans ((ka _ (by omega)).trans b3)
        have q4 := (j2 _ (by omega)).trans ((ka _ (by omega)).trans b4)
        have hw4 := w2 _ rfl
        have rr1 := rr h.n (.inl (by omega))
        have rr2 := rr (h.n + 1) (.inl (by omega))
        have rr3 := rr (h.n + 1 + 1) (.inl (by omega))
        have rrx := rr x (.inl (by omega))
        have hl4 := Heap.lt_of_get q4
        have htk : ((allL T.L a).take (p + 1)).any (mayC kd ob rt) = mayC kd ob rt c := by rw [take_snoc' hcp, List.any_append, j3, List.any_cons, List.any_nil, Bool.or_false, Bool.false_or]
        have keepn : mayC kd ob rt c = false → ga.n ≤ g2.n ∧ (∀ b, b < ga.n → g2.get b = ga.get b) ∧ ((allL T.L a).take (p + 1)).any (mayC kd ob rt) = false := fun h => ⟨j1, j2, by rw [htk, h]⟩
        by_cases e1 : c.kd = kd
        · by_cases e2 : c.ob = ob
          · by_cases e3 : anot rt c.rt = 0
            · simp -implicitDefEqProofs (disch := (first | omega | (simp -implicitDefEqProofs only [szs, ne_eq] <;> omega) | fail)) only [go_sem, Nat.reduceAdd, Nat.reduceSub, Nat.reduceMul, Nat.reduceLT, Nat.reduceMod, Nat.reduceDiv, Nat.reduceEqDiff, Nat.reduceBEq, Nat.reduceLeDiff, ↓reduceIte, reduceCtorEq, Int.reduceAdd, Int.reduceSub, Int.reduceLT, Int.reduceLE, Int.reduceBEq, Int.reduceEq, Int.reduceToNat, ir12_b0, rr1, rr2, rr3, rrx, q1, q2, q3, q4, s0, s1, y4, y5, y6, e1, e2, ↓anot_op, e3, hw4, undefV]
              refine hex .ret _ _ (by simp) (by simp) (w_set_ne hl4 (by omega) _) (w_set_ne hl4 (by omega) _) ⟨rfl, by rw [Heap.n_set]; exact j1, fun b hb hne => by rw [w_set_ne hl4 hne]; exact j2 b hb, ⟨_, w_set_eq hl4 rfl _, rfl, w_bset_eq rfl _⟩, ?_⟩
              rw [List.any_eq_true]
              exact ⟨c, List.mem_of_getElem? hcp, by simp [mayC, e1, e2, e3]⟩
            · simp -implicitDefEqProofs (disch := (first | omega | (simp -implicitDefEqProofs only [szs, ne_eq] <;> omega) | fail)) only [go_sem, Nat.reduceAdd, Nat.reduceSub, Nat.reduceMul, Nat.reduceLT, Nat.reduceMod, Nat.reduceDiv, Nat.reduceEqDiff, Nat.reduceBEq, Nat.reduceLeDiff, ↓reduceIte, reduceCtorEq, Int.reduceAdd, Int.reduceSub, Int.reduceLT, Int.reduceLE, Int.reduceBEq, Int.reduceEq, Int.reduceToNat, ir12_b0, rr1, rr2, rr3, rrx, q1, q2, q3, q4, s0, s1, y4, y5, y6, e1, e2, ↓anot_op, e3, hw4, undefV]
              exact hn _ _ (Nat.le_refl _) rfl rfl (keepn (by simp [mayC, e3]))
          · simp -implicitDefEqProofs (disch := (first | omega | (simp -implicitDefEqProofs only [szs, ne_eq] <;> omega) | fail)) only [go_sem, Nat.reduceAdd, Nat.reduceSub, Nat.reduceMul, Nat.reduceLT, Nat.reduceMod, Nat.reduceDiv, Nat.reduceEqDiff, Nat.reduceBEq, Nat.reduceLeDiff, ↓reduceIte, reduceCtorEq, Int.reduceAdd, Int.reduceSub, Int.reduceLT, Int.reduceLE, Int.reduceBEq, Int.reduceEq, Int.reduceToNat, ir12_b0, rr1, rr2, rr3, rrx, q1, q2, q3, q4, s0, s1, y4, y5, y6, e1, e2, hw4, undefV]
            exact hn _ _ (Nat.le_refl _) rfl rfl (keepn (by simp [mayC, e2]))
        · simp -implicitDefEqProofs (disch := (first | omega | (simp -implicitDefEqProofs only [szs, ne_eq] <;> omega) | fail)) only [go_sem, Nat.reduceAdd, Nat.reduceSub, Nat.reduceMul, Nat.reduceLT, Nat.reduceMod, Nat.reduceDiv, Nat.reduceEqDiff, Nat.reduceBEq, Nat.reduceLeDiff, ↓reduceIte, reduceCtorEq, Int.reduceAdd, Int.reduceSub, Int.reduceLT, Int.reduceLE, Int.reduceBEq, Int.reduceEq, Int.reduceToNat, ir12_b0, rr1, rr2, rr3, rrx, q1, q2, q3, q4, s0, s1, y4, y5, y6, e1, hw4, undefV]
          exact hn _ _ (Nat.le_refl _) rfl rfl (keepn (by simp [mayC, e1]))
      · rintro g3 ⟨j1, j2, j3⟩ n3 d3
        have q4 := (j2 _ (by omega)).trans ((ka _ (by omega)).trans b4)
        rw [List.take_length] at j3
        rw [j3]
        simp -implicitDefEqProofs (disch := (first | omega | (simp -implicitDefEqProofs only [szs, ne_eq] <;> omega) | fail)) only [go_sem, Nat.reduceAdd, Nat.reduceSub, Nat.reduceMul, Nat.reduceLT, Nat.reduceMod, Nat.reduceDiv, Nat.reduceEqDiff, Nat.reduceBEq, Nat.reduceLeDiff, ↓reduceIte, reduceCtorEq, Int.reduceAdd, Int.reduceSub, Int.reduceLT, Int.reduceLE, Int.reduceBEq, Int.reduceEq, Int.reduceToNat, q4, d3]
        refine ⟨.inl (by omega), .inl (by omega), .inl (by omega), by omega, fun b hb => ?_⟩
        rw [w_set_ne (by rw [Heap.n_set]; omega) (by omega), w_set_ne (by omega) (by omega), j2 b (by omega), ka b (by omega), hold b hb]
      · rintro e g3 ⟨rfl, j1, j2, ⟨c, q4, q5, q6⟩, j3⟩ _ n3 d3
        rw [j3]
        simp -implicitDefEqProofs (disch := (first | omega | (simp -implicitDefEqProofs only [szs, ne_eq] <;> omega) | fail)) only [go_sem, Nat.reduceAdd, Nat.reduceSub, Nat.reduceMul, Nat.reduceLT, Nat.reduceMod, Nat.reduceDiv, Nat.reduceEqDiff, Nat.reduceBEq, Nat.reduceLeDiff, ↓reduceIte, reduceCtorEq, Int.reduceAdd, Int.reduceSub, Int.reduceLT, Int.reduceLE, Int.reduceBEq, Int.reduceEq, Int.reduceToNat, q4, q5, q6, d3]
        refine ⟨.inl (by omega), .inl (by omega), by omega, fun b hb => ?_⟩
        rw [w_set_ne (by omega) (by omega), j2 b (by omega) (by omega), ka b (by omega), hold b hb]
    · have hrt' : ¬ (1 ≤ rt ∧ rt ≤ 15) := hrt
      rw [decide_eq_false hrt']
      have hmb : mayB T a kd ob rt = false := by rw [mayB, decide_eq_false hrt]; simp
      rw [hmb]
      simp -implicitDefEqProofs (disch := (first | omega | (simp -implicitDefEqProofs only [szs, ne_eq] <;> omega) | fail)) only [go_sem, Nat.reduceAdd, Nat.reduceSub, Nat.reduceMul, Nat.reduceLT, Nat.reduceMod, Nat.reduceDiv, Nat.reduceEqDiff, Nat.reduceBEq, Nat.reduceLeDiff, ↓reduceIte, reduceCtorEq, Int.reduceAdd, Int.reduceSub, Int.reduceLT, Int.reduceLE, Int.reduceBEq, Int.reduceEq, Int.reduceToNat, undefV, b4]
      exact ⟨.inl (by omega), .inl (by omega), by omega, fun b hb => by rw [w_set_ne (by omega) (by omega), hold b hb]⟩
  · have ha' : ¬ (0 ≤ a ∧ a < 8) := ha
    rw [decide_eq_false ha']
    have hmb : mayB T a kd ob rt = false := by rw [mayB, decide_eq_false ha]; simp
    rw [hmb]
    simp -implicitDefEqProofs (disch := (first | omega | (simp -implicitDefEqProofs only [szs, ne_eq] <;> omega) | fail)) only [go_sem, Nat.reduceAdd, Nat.reduceSub, Nat.reduceMul, Nat.reduceLT, Nat.reduceMod, Nat.reduceDiv, Nat.reduceEqDiff, Nat.reduceBEq, Nat.reduceLeDiff, ↓reduceIte, reduceCtorEq, Int.reduceAdd, Int.reduceSub, Int.reduceLT, Int.reduceLE, Int.reduceBEq, Int.reduceEq, Int.reduceToNat, undefV, b4]
    exact ⟨.inl (by omega), .inl (by omega), by omega, fun b hb => by rw [w_set_ne (by omega) (by omega), hold b hb]⟩
def grantB (T : CS) : Bool := (allL T.L 1).any fun c => decide (c.mr ≠ 1)
set_option maxHeartbeats 2000000 in
theorem granted_ok {h : Heap} {R W : Set'} {tb r : Nat} {T : CS} (ht : CapAt h tb r T) (w : WF T) (hR : ∀ b, b = tb ∨ b = r → R b) :
    SF ⟨Try.prog, true⟩ 22 [.ptr (some (tb, 0))] h R W fun v h' => v = .bool (grantB T) ∧ h.n ≤ h'.n ∧ ∀ b, b < h.n → h'.get b = h.get b := by
  refine SF.go hm Try.func22 ir22_eq ?_
  simp -implicitDefEqProofs (disch := (first | omega | (simp -implicitDefEqProofs only [szs, ne_eq] <;> omega) | fail)) only [go_sem, Nat.reduceAdd, Nat.reduceSub, Nat.reduceMul, Nat.reduceLT, Nat.reduceMod, Nat.reduceDiv, Nat.reduceEqDiff, Nat.reduceBEq, Nat.reduceLeDiff, ↓reduceIte, reduceCtorEq, Int.reduceAdd, Int.reduceSub, Int.reduceLT, Int.reduceLE, Int.reduceBEq, Int.reduceEq, Int.reduceToNat, ir22]
  obtain ⟨g, eg, gn, hold, b4⟩ : ∃ g, h.push (O.cells (Blk.of [V.bool false]) 4) = g ∧ g.n = h.n + 1 ∧ (∀ b, b < h.n → g.get b = h.get b) ∧ g.get h.n = some (O.cells (Blk.of [V.bool false]) 4) := ⟨_, rfl, by simp, fun b hb => by simp -implicitDefEqProofs (disch := (first | omega | (simp -implicitDefEqProofs only [szs, ne_eq] <;> omega) | fail)) only [go_sem, Nat.reduceAdd, Nat.reduceSub, Nat.reduceMul, Nat.reduceLT, Nat.reduceMod, Nat.reduceDiv, Nat.reduceEqDiff, Nat.reduceBEq, Nat.reduceLeDiff, ↓reduceIte, reduceCtorEq, Int.reduceAdd, Int.reduceSub, Int.reduceLT, Int.reduceLE, Int.reduceBEq, Int.reduceEq, Int.reduceToNat], by simp -implicitDefEqProofs (disch := (first | omega | (simp -implicitDefEqProofs only [szs, ne_eq] <;> omega) | fail)) only [go_sem, Nat.reduceAdd, Nat.reduceSub, Nat.reduceMul, Nat.reduceLT, Nat.reduceMod, Nat.reduceDiv, Nat.reduceEqDiff, Nat.reduceBEq, Nat.reduceLeDiff, ↓reduceIte, reduceCtorEq, Int.reduceAdd, Int.reduceSub, Int.reduceLT, Int.reduceLE, Int.reduceBEq, Int.reduceEq, Int.reduceToNat]⟩
  rw [eg]
  clear eg
  have htg := ht.old hold
  refine GCall.of (all_ok htg w (fun b hb => .inr (hR b hb)) 1).any ?_
  rintro v ga ⟨rfl, na, ⟨ca, lv, a1, a2, a3, a4⟩, ka⟩
  simp -implicitDefEqProofs (disch := (first | omega | (simp -implicitDefEqProofs only [szs, ne_eq] <;> omega) | fail)) only [go_sem, Nat.reduceAdd, Nat.reduceSub, Nat.reduceMul, Nat.reduceLT, Nat.reduceMod, Nat.reduceDiv, Nat.reduceEqDiff, Nat.reduceBEq, Nat.reduceLeDiff, ↓reduceIte, reduceCtorEq, Int.reduceAdd, Int.reduceSub, Int.reduceLT, Int.reduceLE, Int.reduceBEq, Int.reduceEq, Int.reduceToNat]
  have hwl := w.last
  have hwn := w.len
  have hll : (allL T.L 1).length ≤ T.L.length := List.length_filter_le _ _
  refine range40 (P := 10) (X := 4) (cb := ir22_b0) (S := fun b => h.n ≤ b ∧ b < ga.n) (L := allL T.L 1) (fun b => b = h.n)
    (fun p g' => ga.n ≤ g'.n ∧ (∀ b, b < ga.n → g'.get b = ga.get b) ∧ ((allL T.L 1).take p).any (fun c => decide (c.mr ≠ 1)) = false)
    (fun e g' => e = .ret ∧ ga.n ≤ g'.n ∧ (∀ b, b < ga.n → b ≠ h.n → g'.get b = ga.get b) ∧ (∃ c, g'.get h.n = some (.cells c 4) ∧ c.size = 1 ∧ c.get 0 = .bool true) ∧ grantB T = true)
    (by simp -implicitDefEqProofs (disch := (first | omega | (simp -implicitDefEqProofs only [szs, ne_eq] <;> omega) | fail)) only [go_sem, Nat.reduceAdd, Nat.reduceSub, Nat.reduceMul, Nat.reduceLT, Nat.reduceMod, Nat.reduceDiv, Nat.reduceEqDiff, Nat.reduceBEq, Nat.reduceLeDiff, ↓reduceIte, reduceCtorEq, Int.reduceAdd, Int.reduceSub, Int.reduceLT, Int.reduceLE, Int.reduceBEq, Int.reduceEq, Int.reduceToNat]) ⟨ca, a1, a2, a3⟩ (LRs.mono a4 (fun b hb h => ⟨by omega, hb⟩)) (fun _ h => h.2) (by omega) (fun b hb => .inl (by rcases hb with h | h | h <;> omega)) (fun b hb => .inl (by rcases hb with hb | rfl <;> omega)) ⟨Nat.le_refl _, fun _ _ => rfl, rfl⟩
    (fun p g1 g2 ⟨i1, i2, i3⟩ j1 j2 => ⟨by omega, fun b hb => by rw [j2 b (by omega) (by omega) (by omega)]; exact i2 b hb, i3⟩)
    (fun e g1 g2 ⟨i1, i2, i3, ⟨c, i4, i5⟩, i6⟩ j1 j2 => ⟨i1, by omega, fun b hb hne => by rw [j2 b (by omega) (by omega) (by omega)]; exact i3 b hb hne, ⟨c, by rw [j2 _ (by omega) (by omega) (by omega)]; exact i4, i5⟩, i6⟩)
    (fun p g1 ⟨i1, i2, i3⟩ => ⟨i1, fun b hb => i2 b hb.2⟩) ir22_a0_eq ir22_b0_eq (by simp) (by show 10 < 14; omega) (by show 4 < 14; omega) ?_ ?_ ?_
  · rintro R' W' Q' p c g2 sb x rr w1 w2 hcp ⟨j1, j2, j3⟩ n2 hx hd ho s0 s1 s2 y0 y1 y2 y3 y4 y5 y6 hn hex
    have q4 := (j2 _ (by omega)).trans ((ka _ (by omega)).trans b4)
    have hw4 := w2 _ rfl
    have rrx := rr x (.inl (by omega))
    have hl4 := Heap.lt_of_get q4
    have htk : ((allL T.L 1).take (p + 1)).any (fun c => decide (c.mr ≠ 1)) = decide (c.mr ≠ 1) := by rw [take_snoc' hcp, List.any_append, j3, List.any_cons, List.any_nil, Bool.or_false, Bool.false_or]
    by_cases e1 : c.mr = 1
    · simp -implicitDefEqProofs (disch := (first | omega | (simp -implicitDefEqProofs only [szs, ne_eq] <;> omega) | fail)) only [go_sem, Nat.reduceAdd, Nat.reduceSub, Nat.reduceMul, Nat.reduceLT, Nat.reduceMod, Nat.reduceDiv, Nat.reduceEqDiff, Nat.reduceBEq, Nat.reduceLeDiff, ↓reduceIte, reduceCtorEq, Int.reduceAdd, Int.reduceSub, Int.reduceLT, Int.reduceLE, Int.reduceBEq, Int.reduceEq, Int.reduceToNat, ir22_b0, rrx, q4, s0, s1, y3, e1, undefV]
      exact hn _ _ (Nat.le_refl _) rfl rfl ⟨j1, j2, by rw [htk]; simpa using e1⟩
    · have e2 : (c.mr != 1) = true := by simpa using e1
      simp -implicitDefEqProofs (disch := (first | omega | (simp -implicitDefEqProofs only [szs, ne_eq] <;> omega) | fail)) only [go_sem, Nat.reduceAdd, Nat.reduceSub, Nat.reduceMul, Nat.reduceLT, Nat.reduceMod, Nat.reduceDiv, Nat.reduceEqDiff, Nat.reduceBEq, Nat.reduceLeDiff, ↓reduceIte, reduceCtorEq, Int.reduceAdd, Int.reduceSub, Int.reduceLT, Int.reduceLE, Int.reduceBEq, Int.reduceEq, Int.reduceToNat, ir22_b0, rrx, q4, s0, s1, y3, e2, hw4, undefV]
      refine hex .ret _ _ (by simp) (by simp) (w_set_ne hl4 (by omega) _) (w_set_ne hl4 (by omega) _) ⟨rfl, by rw [Heap.n_set]; exact j1, fun b hb hne => by rw [w_set_ne hl4 hne]; exact j2 b hb, ⟨_, w_set_eq hl4 rfl _, rfl, w_bset_eq rfl _⟩, ?_⟩
      unfold grantB
      rw [List.any_eq_true]
      exact ⟨c, List.mem_of_getElem? hcp, decide_eq_true e1⟩
  · rintro g3 ⟨j1, j2, j3⟩ n3 d3
    have q4 := (j2 _ (by omega)).trans ((ka _ (by omega)).trans b4)
    rw [List.take_length] at j3
    have hgb : grantB T = false := j3
    rw [hgb]
    simp -implicitDefEqProofs (disch := (first | omega | (simp -implicitDefEqProofs only [szs, ne_eq] <;> omega) | fail)) only [go_sem, Nat.reduceAdd, Nat.reduceSub, Nat.reduceMul, Nat.reduceLT, Nat.reduceMod, Nat.reduceDiv, Nat.reduceEqDiff, Nat.reduceBEq, Nat.reduceLeDiff, ↓reduceIte, reduceCtorEq, Int.reduceAdd, Int.reduceSub, Int.reduceLT, Int.reduceLE, Int.reduceBEq, Int.reduceEq, Int.reduceToNat, q4, d3]
    refine ⟨.inl (by omega), by omega, fun b hb => ?_⟩
    rw [w_set_ne (by rw [Heap.n_set]; omega) (by omega), w_set_ne (by omega) (by omega), j2 b (by omega), ka b (by omega), hold b hb]
  · rintro e g3 ⟨rfl, j1, j2, ⟨c, q4, q5, q6⟩, j3⟩ _ n3 d3
    rw [j3]
    simp -implicitDefEqProofs (disch := (first | omega | (simp -implicitDefEqProofs only [szs, ne_eq] <;> omega) | fail)) only [go_sem, Nat.reduceAdd, Nat.reduceSub, Nat.reduceMul, Nat.reduceLT, Nat.reduceMod, Nat.reduceDiv, Nat.reduceEqDiff, Nat.reduceBEq, Nat.reduceLeDiff, ↓reduceIte, reduceCtorEq, Int.reduceAdd, Int.reduceSub, Int.reduceLT, Int.reduceLE, Int.reduceBEq, Int.reduceEq, Int.reduceToNat, q4, q5, q6, d3]
    refine ⟨.inl (by omega), by omega, fun b hb => ?_⟩
    rw [w_set_ne (by omega) (by omega), j2 b (by omega) (by omega), ka b (by omega), hold b hb]
end Go.Proofs.Ytehgjkopobkbmaa
