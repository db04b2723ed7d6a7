/- The document's disk: Write and Flush as they should. -/
import Derived.Test.YtgkcbpagdfdpdaaR4
set_option linter.unusedVariables false
set_option linter.unusedSimpArgs false
set_option linter.unusedSimpArgs false
set_option maxRecDepth 100000
set_option linter.unusedVariables false
set_option linter.unusedSimpArgs false
namespace Go.Proofs.Ytgkcbpagdfdpdaa
open Go Go.Vm
attribute [-go_sem] sz_67
theorem ap_76 : apT Try.prog 76 76 = some (75, 1, 24) := by kernel_rfl
theorem getD_app_left {l m : List V} {i : Nat} (h : i < l.length) : (l ++ m).getD i undefV = l.getD i undefV := by
  rw [List.getD_eq_getElem?_getD, List.getD_eq_getElem?_getD, List.getElem?_append_left h]
theorem PLs.snoc {h : Heap} {R : Set'} {v v2 : V} {vs : List V} {ll : List (List V)} {l : List V} (hv : LR h R v (vs ++ [v2])) (hl : vs.length = ll.length) (h3 : ∀ i l, ll[i]? = some l → LR h R (vs.getD i undefV) l) (h2 : LR h R v2 l) : PLs h R v (ll ++ [l]) := by
  refine ⟨_, hv, by simp [hl], fun i m e => ?_⟩
  by_cases hi : i < ll.length
  · rw [List.getElem?_append_left hi] at e
    rw [getD_app_left (by omega)]
    exact h3 i m e
  · rw [List.getElem?_append_right (by omega)] at e
    have hi2 : i = ll.length := by
      have := (List.getElem?_eq_some_iff.1 e).1
      simp at this; omega
    subst hi2
    simp at e; subst e
    rw [List.getD_eq_getElem?_getD, List.getElem?_append_right (by omega), show ll.length - vs.length = 0 by omega]
    exact h2
set_option maxHeartbeats 1000000 in
theorem rwrite_ok {h : Heap} {R W S : Set'} {rd fb pb : Nat} {D : DS} (hr : RefX h S rd fb pb D) (hR : ∀ b, R b) (hW : ∀ b, S b → W b) {s : Nat} (hs : s < D.n) {v : V} {l : List V} (hv : LR h (fun _ => True) v l) (hl : IsSec l) (few : (D.pe s).length < 1000000000) :
    SF Try.prog 42 [.ptr (some (rd, 0)), .int .i64 s, v] h R W fun v h' => v = .int .i64 0 ∧ RefX h' (Rn S h.n h'.n) rd fb pb (D.write s l) := by
  obtain ⟨l1, l2, l3⟩ := hr.lt
  obtain ⟨e1, e2, e3⟩ := hr.ne
  obtain ⟨c, xf, xp, d1, d2, d3, d4, d5, d6⟩ := hr.d
  obtain ⟨cp, p1, p2, p3, p4⟩ := hr.p
  obtain ⟨vs, v1, vl, v3⟩ := p4 s hs
  have hN := secN_eq
  have hsl := hl.1
  have hlv := hv.lenV Try.underlying33
  have hWr := hW rd hr.r.1
  have hWp := hW pb hr.r.2.2
  have hRr := hR rd
  have hRp := hR pb
  obtain ⟨x1, rs1, x2, _⟩ := first_lr v1
  obtain ⟨a1, g1, r1, w1, hap1, o1, m1, k1, hw1, kk1, _⟩ := app_own (n0 := h.n) (h := h) (v := .slice none 0 0 true) (x := cp.get s) (l := []) (e := 33) (bytes := 24) (Own.nil _ _ _) (Nat.le_refl _) x1 x2 (PLs.one vl v3) (by simp only [List.length_nil]; omega) (by simp only [List.length_nil]; omega)
  rw [List.nil_append] at o1
  obtain ⟨y1, rs2, y2, _⟩ := first_lr (hv.old k1)
  obtain ⟨a2, g2, r2, w2, hap2, o2, m2, k2, hw2, kk2, _⟩ := app_own (n0 := g1.n) (h := g1) (v := .slice none 0 0 true) (x := v) (l := []) (e := 5) (bytes := 1) (Own.nil _ _ _) (Nat.le_refl _) y1 y2 hl.one (by simp only [List.length_nil]; omega) (by simp only [List.length_nil]; omega)
  rw [List.nil_append] at o2
  have one2 : allOne [a2] = true := by have := o2.lr.one; simp only [allOne, this]
  obtain ⟨a3, g3, r3, w3, hap3, o3, m3, k3, hw3, kk3, ht3⟩ := app_own (n0 := h.n) (h := g2.push (.cells (Blk.of [a2]) 33)) (v := a1) (x := .slice (some (g2.n, 0)) 1 1 true) (l := vs) (news := [a2]) (e := 33) (bytes := 24) ((o1.old k2).old fun b hb => w_push_ne (by omega) _) (by simp; omega) rfl (first_one (e := 33) (w_push_eq rfl _)) one2 (by simp only [List.length_cons, List.length_nil]; omega) (by simp only [List.length_cons, List.length_nil]; omega)
  have m3' : g2.n + 1 ≤ g3.n := by simpa using m3
  have o2' : Own g1.n g3 a2 l 5 := o2.keep fun b c' e => by
    have hb := Heap.lt_of_get e
    rw [kk3 b (by simp; omega) (fun hb' => by
      obtain ⟨c2, e2⟩ := ht3 b hb'
      rw [w_push_ne (by omega), e] at e2; cases e2), w_push_ne (by omega)]
    exact e
  have k03 : ∀ b, b < h.n → g3.get b = h.get b := fun b hb => by rw [k3 b hb, w_push_ne (by omega), k2 b (by omega), k1 b hb]
  have d1' := (k03 rd l1).trans d1
  have p1' := (k03 pb l3).trans p1
  have hcv := o3.lr.cells
  have hon := o3.lr.one
  have hcv2 := o2.lr.cells
  have hon2 := o2.lr.one
  have hr3 := (hr.old k03).mono (R' := Rn S h.n g3.n) fun b _ h => .inl h
  have lt1 := Heap.lt_of_get d1'
  have lt3 := Heap.lt_of_get p1'
  refine SF.go hm Try.func42 ir42_eq ?_
  simp -implicitDefEqProofs (disch := (first | omega | (simp -implicitDefEqProofs only [szs, ne_eq] <;> omega) | fail)) only [go_sem, Nat.reduceAdd, Nat.reduceSub, Nat.reduceMul, Nat.reduceLT, Nat.reduceMod, Nat.reduceDiv, Nat.reduceEqDiff, Nat.reduceBEq, Nat.reduceLeDiff, ↓reduceIte, reduceCtorEq, Int.reduceAdd, Int.reduceSub, Int.reduceLT, Int.reduceLE, Int.reduceBEq, Int.reduceEq, Int.reduceToNat, ir42, Option.isNone_some]
  refine GCall.of (rin_ok hr.at (fun b => .inr (hR b)) s) ?_
  rintro v' g ⟨rfl, rfl⟩
  rw [decide_eq_true (show 0 ≤ (s : Int) ∧ (s : Int) < D.n by omega)]
  simp -implicitDefEqProofs (disch := (first | omega | (simp -implicitDefEqProofs only [szs, ne_eq] <;> omega) | fail)) only [go_sem, Nat.reduceAdd, Nat.reduceSub, Nat.reduceMul, Nat.reduceLT, Nat.reduceMod, Nat.reduceDiv, Nat.reduceEqDiff, Nat.reduceBEq, Nat.reduceLeDiff, ↓reduceIte, reduceCtorEq, Int.reduceAdd, Int.reduceSub, Int.reduceLT, Int.reduceLE, Int.reduceBEq, Int.reduceEq, Int.reduceToNat, undefV, ↓hlv, d1, d2, d3, d4, d5, d6, p1, p2, p3, hRr, hRp, hWr, hWp, appendV_of ap_75, appendV_of ap_33, hap1, hap2, hap3, ↓hcv, ↓hon, ↓hcv2, ↓hon2, d1', p1']
  have hx1 : ∀ b, b < g3.n → g.n ≤ b → Rx (Rn S g.n g3.n) rd fb pb b := fun b h1 h2 => ⟨.inr ⟨h2, h1⟩, by omega, by omega, by omega⟩
  have hx2 : ∀ b, b < g3.n → Rx S rd fb pb b → Rx (Rn S g.n g3.n) rd fb pb b := fun b h1 h2 => ⟨.inl h2.1, h2.2⟩
  refine ⟨?_, ?_, hr3.setP hs (PLs.snoc (o3.lr.mono hx1) vl (fun i l e => ((v3 i l e).old k03).mono hx2) (o2'.lr.mono fun b h1 h2 => hx1 b h1 (by omega))) (fun l' hl' => ?_) (by simp; omega) ⟨c, _, d1', w_set_eq (by rw [Heap.n_set]; exact lt1) rfl _, by rw [Blk.size_set], by rw [Blk.ro_set], by simp -implicitDefEqProofs (disch := (first | omega | (simp -implicitDefEqProofs only [szs, ne_eq] <;> omega) | fail)) only [go_sem, Nat.reduceAdd, Nat.reduceSub, Nat.reduceMul, Nat.reduceLT, Nat.reduceMod, Nat.reduceDiv, Nat.reduceEqDiff, Nat.reduceBEq, Nat.reduceLeDiff, ↓reduceIte, reduceCtorEq, Int.reduceAdd, Int.reduceSub, Int.reduceLT, Int.reduceLE, Int.reduceBEq, Int.reduceEq, Int.reduceToNat], by simp -implicitDefEqProofs (disch := (first | omega | (simp -implicitDefEqProofs only [szs, ne_eq] <;> omega) | fail)) only [go_sem, Nat.reduceAdd, Nat.reduceSub, Nat.reduceMul, Nat.reduceLT, Nat.reduceMod, Nat.reduceDiv, Nat.reduceEqDiff, Nat.reduceBEq, Nat.reduceLeDiff, ↓reduceIte, reduceCtorEq, Int.reduceAdd, Int.reduceSub, Int.reduceLT, Int.reduceLE, Int.reduceBEq, Int.reduceEq, Int.reduceToNat], w_bset_eq rfl _⟩ ⟨cp, p1', ?_⟩ (fun b h1 h2 h3 => ?_)⟩
  · simp only [List.not_mem_nil, or_false, false_or, and_false, false_and, false_implies, implies_true, not_false_eq_true, List.mem_singleton, List.mem_cons, and_true, true_and, forall_const]
    and_intros
    all_goals (intro b hb; first | omega | (intro hc; first | omega | (have := hw1 _ hb.2; omega) | (have := hw2 _ hb.2; omega) | (have := hw3 _ hb.2; omega)))
  · and_intros
    all_goals (intros; first | exact .inr (hR _) | (have := hw1 _ (by assumption); exact .inl this) | (have := hw2 _ (by assumption); exact .inl (by omega)) | (have := hw3 _ (by assumption); exact .inl this))
  · rcases List.mem_append.1 hl' with h1 | h1
    · exact hr.pe s l' h1
    · simp at h1; rw [h1]; exact hl
  · rw [w_set_ne (by rw [Heap.n_set]; exact lt1) (Ne.symm e2)]; exact w_set_eq lt3 rfl _
  · rw [w_set_ne (by rw [Heap.n_set]; exact lt1) h1, w_set_ne lt3 h2]
end Go.Proofs.Ytgkcbpagdfdpdaa
