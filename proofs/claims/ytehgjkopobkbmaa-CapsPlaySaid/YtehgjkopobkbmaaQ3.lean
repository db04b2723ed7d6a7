/- CapsMay: a step in both tables; the law. -/
import Derived.Test.YtehgjkopobkbmaaQ2
import Derived.Test.YtehgjkopobkbmaaKn
set_option linter.unusedVariables false
set_option linter.unusedSimpArgs false
set_option linter.unusedSimpArgs false
set_option maxRecDepth 100000
set_option linter.unusedVariables false
set_option linter.unusedSimpArgs false
namespace Go.Proofs.Ytehgjkopobkbmaa
open Go Go.Vm
open Classical
theorem not_un_self {T : CS} (w : WF T) (id : Int) : ¬ Un T.L id id := fun h => by have := h.gt (fun c hc => (w.par c hc).2); omega
theorem keep_rev {T : CS} (w : WF T) (id : Int) : T.L.filter (keepQ T.L id false) = gone T.L id := by
  unfold gone
  refine List.filter_congr fun c hc => ?_
  unfold keepQ
  by_cases h1 : c.id = id
  · rw [h1]
    simp [not_un_self w id]
  · by_cases h2 : Un T.L id c.id <;> simp [h1, h2]
theorem keep_drop {T : CS} (w : WF T) (id : Int) : T.L.filter (keepQ T.L id true) = (gone T.L id).filter fun c => decide (c.id ≠ id) := by
  unfold gone
  rw [List.filter_filter]
  refine List.filter_congr fun c hc => ?_
  unfold keepQ
  by_cases h1 : c.id = id
  · simp [h1]
  · by_cases h2 : Un T.L id c.id <;> simp [h1, h2]
theorem goneT_rev {T : CS} (w : WF T) (a id : Int) : goneT T a id false = revT T a id := by unfold goneT revT; rw [keep_rev w]
theorem goneN_rev {T : CS} (w : WF T) (a id : Int) : goneN T a id false = revN T a id := by unfold goneN revN; rw [keep_rev w]
theorem goneT_drop {T : CS} (w : WF T) (a id : Int) : goneT T a id true = dropT T a id := by unfold goneT dropT; rw [keep_drop w]
theorem goneN_drop {T : CS} (w : WF T) (a id : Int) : goneN T a id true = dropN T a id := by
  unfold goneN dropN
  rw [keep_drop w]
  by_cases hm : mineE T a id = 0
  · rw [if_pos hm, if_pos hm]
    obtain ⟨c, hf, _⟩ := mine_zero hm
    obtain ⟨hc, hci⟩ := findC_some hf
    have hg : c ∈ gone T.L id := by
      unfold gone
      rw [List.mem_filter]
      exact ⟨hc, decide_eq_true (by rw [hci]; exact not_un_self w id)⟩
    have hd := del_count (L := gone T.L id) (w.asc.filter _) hg
    rw [hci] at hd
    omega
  · rw [if_neg hm, if_neg hm]
/-- Accounts are accounts. -/
structure GJ (T : CS) : Prop where
  w : WF T
  ok : ∀ c ∈ T.L, okA c.ac
theorem GJ.add {T : CS} (z : GJ T) {c : Cp} (hl : T.last < 1000000) (hp : 0 ≤ c.par ∧ c.par ≤ T.last) (ha : okA c.ac) : GJ (addT T c) := by
  have w1 := z.w.add (c := c) hp hl
  revert w1
  unfold addT
  split
  · intro _; exact z
  intro w1
  refine ⟨w1, fun d hd => ?_⟩
  rcases List.mem_append.1 hd with hd | hd
  · exact z.ok d hd
  · simp at hd; subst hd; exact ha
theorem GJ.sub {T : CS} (z : GJ T) (f : Cp → Bool) : GJ ⟨T.L.filter f, T.last⟩ := ⟨z.w.filter f, fun c hc => z.ok c (List.mem_filter.1 hc).1⟩
theorem GJ.under {T : CS} (z : GJ T) (hl : T.last < 1000000) (a id to rt need : Int) : GJ (underT T a id to rt need) := by
  unfold underT
  split
  · exact z
  rename_i h0
  split
  · exact z
  rename_i h1
  split
  · exact z
  obtain ⟨c, hc, _⟩ := mine_zero (Decidable.not_not.1 h1)
  obtain ⟨hcm, hci⟩ := findC_some hc
  have := z.w.ids c hcm
  exact z.add hl (show 0 ≤ id ∧ id ≤ T.last by omega) (show okA to from Decidable.byContradiction fun h => h0 fun h' => h h'.1)
theorem GJ.one {T : CS} (z : GJ T) (hl : T.last < 1000000) (s : St) : GJ (oneT T s) := by
  unfold oneT
  split
  · unfold rootT
    split
    · rename_i h
      have := z.w.last
      exact z.add hl (show 0 ≤ (0 : Int) ∧ (0 : Int) ≤ T.last by omega) h.1
    · exact z
  split
  · exact z.under hl _ _ _ _ _
  split
  · exact z.under hl _ _ _ _ _
  split
  · unfold revT; split
    · exact z.sub _
    · exact z
  split
  · unfold dropT; split
    · exact (z.sub _).sub _
    · exact z
  · exact z
theorem any_ext {L : List Cp} {f g : Cp → Bool} (h : ∀ c ∈ L, f c = g c) : L.any f = L.any g := by
  induction L with
  | nil => rfl
  | cons x L ih => rw [List.any_cons, List.any_cons, h x (by simp), ih fun c hc => h c (by simp [hc])]
theorem may_same {T : CS} (z : GJ T) (a kd ob rt : Int) : mayB T a kd ob rt = mayQ T a kd ob rt := by
  unfold mayB mayQ allL
  rw [List.any_filter]
  by_cases ha : okA a
  · rw [decide_eq_true ha]
    by_cases hr : okR rt
    · rw [decide_eq_true hr]
      simp only [Bool.true_and]
      refine any_ext fun c hc => ?_
      have : ¬ a < 0 := by have h := ha; unfold okA at h; omega
      simp [this]
    · rw [decide_eq_false hr]
      simp
  · rw [decide_eq_false ha]
    simp only [Bool.false_and]
    symm
    rw [List.any_eq_false]
    intro c hc hx
    simp only [Bool.and_eq_true, decide_eq_true_eq] at hx
    exact ha (hx.2.1 ▸ z.ok c hc)
set_option maxHeartbeats 4000000 in
theorem does_ok {h : Heap} {R W : Set'} {tb r n0 rd : Nat} {T : CS} (ht : CapAt h tb r T) (hr : RefC h n0 rd T) (w : WF T) (hlt : tb < n0 ∧ r < n0 ∧ tb ≠ rd ∧ r ≠ rd) (hR : ∀ b, R b) (hW : ∀ b, b = tb ∨ b = r ∨ b = rd ∨ n0 ≤ b → W b) (s : St) :
    SF Try.prog 11 [.ptr (some (tb, 0)), .ptr (some (rd, 0)), s.v] h R W fun v h' => v = .bool true ∧ CapAt h' tb r (oneT T s) ∧ RefC h' n0 rd (oneT T s) := by
  obtain ⟨k, a, t, th, ob, rt, id⟩ := s
  have hl0 := hr.lt
  refine SF.go hm Try.func11 ir11_eq ?_
  obtain ⟨h2, e2, n2, g2, k2⟩ : ∃ h2, h.push (O.cells (Blk.of [V.int IntKind.i64 k, V.int IntKind.i64 a, V.int IntKind.i64 t, V.int IntKind.i64 th, V.int IntKind.i64 ob, V.int IntKind.i64 rt, V.int IntKind.i64 id]) 32) = h2 ∧ h2.n = h.n + 1 ∧ h2.get h.n = some (O.cells (Blk.of [V.int IntKind.i64 k, V.int IntKind.i64 a, V.int IntKind.i64 t, V.int IntKind.i64 th, V.int IntKind.i64 ob, V.int IntKind.i64 rt, V.int IntKind.i64 id]) 32) ∧ ∀ b, b < h.n → h2.get b = h.get b := ⟨_, rfl, by simp, w_push_eq rfl _, fun b hb => w_push_ne (by omega) _⟩
  have ht2 := ht.old k2
  have hr2 := hr.old (by omega) k2
  have hR' : ∀ b, h.n ≤ b ∨ R b := fun b => .inr (hR b)
  have hWa : ∀ b, b = tb ∨ b = r → h.n ≤ b ∨ W b := fun b hb => .inr (hW b (by omega))
  have hWb : ∀ b, b = rd ∨ n0 ≤ b → h.n ≤ b ∨ W b := fun b hb => .inr (hW b (by omega))
  have l2 := Heap.lt_of_get g2
  have keep1 : ∀ g : Heap, VF h2 g (fun b => b = tb ∨ b = r) → g.get h.n = some (O.cells (Blk.of [V.int IntKind.i64 k, V.int IntKind.i64 a, V.int IntKind.i64 t, V.int IntKind.i64 th, V.int IntKind.i64 ob, V.int IntKind.i64 rt, V.int IntKind.i64 id]) 32) ∧ RefC g n0 rd T := fun g v =>
    ⟨(v.get h.n l2 (by rintro (h | h) <;> omega)).trans g2, hr2.same v.n fun b hb hl => v.get b hl (by rintro (h | h) <;> omega)⟩
  have keep2 : ∀ (g g' : Heap) (T' : CS), VF g g' (fun b => b = rd ∨ n0 ≤ b) → CapAt g tb r T' → CapAt g' tb r T' := fun g g' T' v hc => hc.same fun b hb => v.get b (by have := hc.lt; rcases hb with rfl | rfl <;> omega) (by rintro (h | h) <;> omega)
  have eqI : ∀ x : Int, (x == x) = true := fun x => by simp
  by_cases h1 : k = 1
  · subst h1
    simp -implicitDefEqProofs (disch := (first | omega | (simp -implicitDefEqProofs only [szs, ne_eq] <;> omega) | fail)) only [go_sem, Nat.reduceAdd, Nat.reduceSub, Nat.reduceMul, Nat.reduceLT, Nat.reduceMod, Nat.reduceDiv, Nat.reduceEqDiff, Nat.reduceBEq, Nat.reduceLeDiff, ↓reduceIte, reduceCtorEq, Int.reduceAdd, Int.reduceSub, Int.reduceLT, Int.reduceLE, Int.reduceBEq, Int.reduceEq, Int.reduceToNat, ir11, St.v, St.l, e2, g2]
    refine GCall.of (((root_ok (R := fun _ => True) (W := fun b => b = tb ∨ b = r) ht2 w (fun _ _ => trivial) (fun _ h => h) a th ob rt).kept).foot (fun b _ => hR' b) hWa) ?_
    rintro v h4 ⟨⟨rfl, ht4⟩, vf4⟩
    obtain ⟨g4, hr4⟩ := keep1 h4 vf4
    simp -implicitDefEqProofs (disch := (first | omega | (simp -implicitDefEqProofs only [szs, ne_eq] <;> omega) | fail)) only [go_sem, Nat.reduceAdd, Nat.reduceSub, Nat.reduceMul, Nat.reduceLT, Nat.reduceMod, Nat.reduceDiv, Nat.reduceEqDiff, Nat.reduceBEq, Nat.reduceLeDiff, ↓reduceIte, reduceCtorEq, Int.reduceAdd, Int.reduceSub, Int.reduceLT, Int.reduceLE, Int.reduceBEq, Int.reduceEq, Int.reduceToNat, g4]
    refine GCall.of (((rroot_ok (R := fun _ => True) (W := fun b => b = rd ∨ n0 ≤ b) hr4 w (fun _ => trivial) (fun _ h => h) a th ob rt).kept).foot (fun b _ => hR' b) hWb) ?_
    rintro v h5 ⟨⟨rfl, hr5⟩, vf5⟩
    simp -implicitDefEqProofs (disch := (first | omega | (simp -implicitDefEqProofs only [szs, ne_eq] <;> omega) | fail)) only [go_sem, Nat.reduceAdd, Nat.reduceSub, Nat.reduceMul, Nat.reduceLT, Nat.reduceMod, Nat.reduceDiv, Nat.reduceEqDiff, Nat.reduceBEq, Nat.reduceLeDiff, ↓reduceIte, reduceCtorEq, Int.reduceAdd, Int.reduceSub, Int.reduceLT, Int.reduceLE, Int.reduceBEq, Int.reduceEq, Int.reduceToNat, eqI, undefV]
    exact ⟨keep2 _ _ _ vf5 ht4, hr5⟩
  by_cases h2 : k = 2
  · subst h2
    simp -implicitDefEqProofs (disch := (first | omega | (simp -implicitDefEqProofs only [szs, ne_eq] <;> omega) | fail)) only [go_sem, Nat.reduceAdd, Nat.reduceSub, Nat.reduceMul, Nat.reduceLT, Nat.reduceMod, Nat.reduceDiv, Nat.reduceEqDiff, Nat.reduceBEq, Nat.reduceLeDiff, ↓reduceIte, reduceCtorEq, Int.reduceAdd, Int.reduceSub, Int.reduceLT, Int.reduceLE, Int.reduceBEq, Int.reduceEq, Int.reduceToNat, ir11, St.v, St.l, e2, g2]
    refine GCall.of (((derive_ok (R := fun _ => True) (W := fun b => b = tb ∨ b = r) ht2 w (fun _ _ => trivial) (fun _ h => h) a id rt).kept).foot (fun b _ => hR' b) hWa) ?_
    rintro v h4 ⟨⟨rfl, ht4⟩, vf4⟩
    obtain ⟨g4, hr4⟩ := keep1 h4 vf4
    simp -implicitDefEqProofs (disch := (first | omega | (simp -implicitDefEqProofs only [szs, ne_eq] <;> omega) | fail)) only [go_sem, Nat.reduceAdd, Nat.reduceSub, Nat.reduceMul, Nat.reduceLT, Nat.reduceMod, Nat.reduceDiv, Nat.reduceEqDiff, Nat.reduceBEq, Nat.reduceLeDiff, ↓reduceIte, reduceCtorEq, Int.reduceAdd, Int.reduceSub, Int.reduceLT, Int.reduceLE, Int.reduceBEq, Int.reduceEq, Int.reduceToNat, g4]
    refine GCall.of (((runder_ok (R := fun _ => True) (W := fun b => b = rd ∨ n0 ≤ b) hr4 w (fun _ => trivial) (fun _ h => h) a id a rt 0 (by omega)).kept).foot (fun b _ => hR' b) hWb) ?_
    rintro v h5 ⟨⟨rfl, hr5⟩, vf5⟩
    simp -implicitDefEqProofs (disch := (first | omega | (simp -implicitDefEqProofs only [szs, ne_eq] <;> omega) | fail)) only [go_sem, Nat.reduceAdd, Nat.reduceSub, Nat.reduceMul, Nat.reduceLT, Nat.reduceMod, Nat.reduceDiv, Nat.reduceEqDiff, Nat.reduceBEq, Nat.reduceLeDiff, ↓reduceIte, reduceCtorEq, Int.reduceAdd, Int.reduceSub, Int.reduceLT, Int.reduceLE, Int.reduceBEq, Int.reduceEq, Int.reduceToNat, eqI, undefV]
    exact ⟨keep2 _ _ _ vf5 ht4, hr5⟩
  by_cases h3 : k = 3
  · subst h3
    simp -implicitDefEqProofs (disch := (first | omega | (simp -implicitDefEqProofs only [szs, ne_eq] <;> omega) | fail)) only [go_sem, Nat.reduceAdd, Nat.reduceSub, Nat.reduceMul, Nat.reduceLT, Nat.reduceMod, Nat.reduceDiv, Nat.reduceEqDiff, Nat.reduceBEq, Nat.reduceLeDiff, ↓reduceIte, reduceCtorEq, Int.reduceAdd, Int.reduceSub, Int.reduceLT, Int.reduceLE, Int.reduceBEq, Int.reduceEq, Int.reduceToNat, ir11, St.v, St.l, e2, g2]
    refine GCall.of (((grant_ok (R := fun _ => True) (W := fun b => b = tb ∨ b = r) ht2 w (fun _ _ => trivial) (fun _ h => h) a id t rt).kept).foot (fun b _ => hR' b) hWa) ?_
    rintro v h4 ⟨⟨rfl, ht4⟩, vf4⟩
    obtain ⟨g4, hr4⟩ := keep1 h4 vf4
    simp -implicitDefEqProofs (disch := (first | omega | (simp -implicitDefEqProofs only [szs, ne_eq] <;> omega) | fail)) only [go_sem, Nat.reduceAdd, Nat.reduceSub, Nat.reduceMul, Nat.reduceLT, Nat.reduceMod, Nat.reduceDiv, Nat.reduceEqDiff, Nat.reduceBEq, Nat.reduceLeDiff, ↓reduceIte, reduceCtorEq, Int.reduceAdd, Int.reduceSub, Int.reduceLT, Int.reduceLE, Int.reduceBEq, Int.reduceEq, Int.reduceToNat, g4]
    refine GCall.of (((runder_ok (R := fun _ => True) (W := fun b => b = rd ∨ n0 ≤ b) hr4 w (fun _ => trivial) (fun _ h => h) a id t rt 8 (by omega)).kept).foot (fun b _ => hR' b) hWb) ?_
    rintro v h5 ⟨⟨rfl, hr5⟩, vf5⟩
    simp -implicitDefEqProofs (disch := (first | omega | (simp -implicitDefEqProofs only [szs, ne_eq] <;> omega) | fail)) only [go_sem, Nat.reduceAdd, Nat.reduceSub, Nat.reduceMul, Nat.reduceLT, Nat.reduceMod, Nat.reduceDiv, Nat.reduceEqDiff, Nat.reduceBEq, Nat.reduceLeDiff, ↓reduceIte, reduceCtorEq, Int.reduceAdd, Int.reduceSub, Int.reduceLT, Int.reduceLE, Int.reduceBEq, Int.reduceEq, Int.reduceToNat, eqI, undefV]
    exact ⟨keep2 _ _ _ vf5 ht4, hr5⟩
  by_cases h4 : k = 4
  · subst h4
    simp -implicitDefEqProofs (disch := (first | omega | (simp -implicitDefEqProofs only [szs, ne_eq] <;> omega) | fail)) only [go_sem, Nat.reduceAdd, Nat.reduceSub, Nat.reduceMul, Nat.reduceLT, Nat.reduceMod, Nat.reduceDiv, Nat.reduceEqDiff, Nat.reduceBEq, Nat.reduceLeDiff, ↓reduceIte, reduceCtorEq, Int.reduceAdd, Int.reduceSub, Int.reduceLT, Int.reduceLE, Int.reduceBEq, Int.reduceEq, Int.reduceToNat, ir11, St.v, St.l, e2, g2]
    refine GCall.of (((revoke_ok (R := fun _ => True) (W := fun b => b = tb ∨ b = r) ht2 w (fun _ => trivial) (.inr rfl) a id).kept).foot (fun b _ => hR' b) hWa) ?_
    rintro v h4 ⟨⟨rfl, ht4⟩, vf4⟩
    obtain ⟨g4, hr4⟩ := keep1 h4 vf4
    simp -implicitDefEqProofs (disch := (first | omega | (simp -implicitDefEqProofs only [szs, ne_eq] <;> omega) | fail)) only [go_sem, Nat.reduceAdd, Nat.reduceSub, Nat.reduceMul, Nat.reduceLT, Nat.reduceMod, Nat.reduceDiv, Nat.reduceEqDiff, Nat.reduceBEq, Nat.reduceLeDiff, ↓reduceIte, reduceCtorEq, Int.reduceAdd, Int.reduceSub, Int.reduceLT, Int.reduceLE, Int.reduceBEq, Int.reduceEq, Int.reduceToNat, g4]
    refine GCall.of (((rgone_ok (R := fun _ => True) (W := fun b => b = rd ∨ n0 ≤ b) hr4 w (fun _ => trivial) (fun _ h => h) a id false).kept).foot (fun b _ => hR' b) hWb) ?_
    rintro v h5 ⟨⟨rfl, hr5⟩, vf5⟩
    rw [goneT_rev w] at hr5
    rw [goneN_rev w]
    simp -implicitDefEqProofs (disch := (first | omega | (simp -implicitDefEqProofs only [szs, ne_eq] <;> omega) | fail)) only [go_sem, Nat.reduceAdd, Nat.reduceSub, Nat.reduceMul, Nat.reduceLT, Nat.reduceMod, Nat.reduceDiv, Nat.reduceEqDiff, Nat.reduceBEq, Nat.reduceLeDiff, ↓reduceIte, reduceCtorEq, Int.reduceAdd, Int.reduceSub, Int.reduceLT, Int.reduceLE, Int.reduceBEq, Int.reduceEq, Int.reduceToNat, eqI, undefV]
    exact ⟨keep2 _ _ _ vf5 ht4, hr5⟩
  by_cases h5 : k = 5
  · subst h5
    simp -implicitDefEqProofs (disch := (first | omega | (simp -implicitDefEqProofs only [szs, ne_eq] <;> omega) | fail)) only [go_sem, Nat.reduceAdd, Nat.reduceSub, Nat.reduceMul, Nat.reduceLT, Nat.reduceMod, Nat.reduceDiv, Nat.reduceEqDiff, Nat.reduceBEq, Nat.reduceLeDiff, ↓reduceIte, reduceCtorEq, Int.reduceAdd, Int.reduceSub, Int.reduceLT, Int.reduceLE, Int.reduceBEq, Int.reduceEq, Int.reduceToNat, ir11, St.v, St.l, e2, g2]
    refine GCall.of (((drop_ok (R := fun _ => True) (W := fun b => b = tb ∨ b = r) ht2 w (fun _ => trivial) (.inr rfl) a id).kept).foot (fun b _ => hR' b) hWa) ?_
    rintro v h4 ⟨⟨rfl, ht4⟩, vf4⟩
    obtain ⟨g4, hr4⟩ := keep1 h4 vf4
    simp -implicitDefEqProofs (disch := (first | omega | (simp -implicitDefEqProofs only [szs, ne_eq] <;> omega) | fail)) only [go_sem, Nat.reduceAdd, Nat.reduceSub, Nat.reduceMul, Nat.reduceLT, Nat.reduceMod, Nat.reduceDiv, Nat.reduceEqDiff, Nat.reduceBEq, Nat.reduceLeDiff, ↓reduceIte, reduceCtorEq, Int.reduceAdd, Int.reduceSub, Int.reduceLT, Int.reduceLE, Int.reduceBEq, Int.reduceEq, Int.reduceToNat, g4]
    refine GCall.of (((rgone_ok (R := fun _ => True) (W := fun b => b = rd ∨ n0 ≤ b) hr4 w (fun _ => trivial) (fun _ h => h) a id true).kept).foot (fun b _ => hR' b) hWb) ?_
    rintro v h5 ⟨⟨rfl, hr5⟩, vf5⟩
    rw [goneT_drop w] at hr5
    rw [goneN_drop w]
    simp -implicitDefEqProofs (disch := (first | omega | (simp -implicitDefEqProofs only [szs, ne_eq] <;> omega) | fail)) only [go_sem, Nat.reduceAdd, Nat.reduceSub, Nat.reduceMul, Nat.reduceLT, Nat.reduceMod, Nat.reduceDiv, Nat.reduceEqDiff, Nat.reduceBEq, Nat.reduceLeDiff, ↓reduceIte, reduceCtorEq, Int.reduceAdd, Int.reduceSub, Int.reduceLT, Int.reduceLE, Int.reduceBEq, Int.reduceEq, Int.reduceToNat, eqI, undefV]
    exact ⟨keep2 _ _ _ vf5 ht4, hr5⟩
  · have e : oneT T ⟨k, a, t, th, ob, rt, id⟩ = T := by simp [oneT, h1, h2, h3, h4, h5]
    rw [e]
    simp -implicitDefEqProofs (disch := (first | omega | (simp -implicitDefEqProofs only [szs, ne_eq] <;> omega) | fail)) only [go_sem, Nat.reduceAdd, Nat.reduceSub, Nat.reduceMul, Nat.reduceLT, Nat.reduceMod, Nat.reduceDiv, Nat.reduceEqDiff, Nat.reduceBEq, Nat.reduceLeDiff, ↓reduceIte, reduceCtorEq, Int.reduceAdd, Int.reduceSub, Int.reduceLT, Int.reduceLE, Int.reduceBEq, Int.reduceEq, Int.reduceToNat, ir11, St.v, St.l, e2, g2, h1, h2, h3, h4, h5, undefV]
    exact ⟨ht2, hr2⟩
end Go.Proofs.Ytehgjkopobkbmaa
