/- Tables of pages: going over a space, held against the document. -/
import Derived.Test.YtkfhdaimememiaaM
set_option linter.unusedVariables false
set_option linter.unusedSimpArgs false
set_option linter.unusedSimpArgs false
set_option maxRecDepth 100000
set_option linter.unusedVariables false
set_option linter.unusedSimpArgs false
namespace Go.Proofs.Ytkfhdaimememiaa
open Go Go.Vm
def pgG (T : Tb) (s : Int) (n : Nat) : List Nat := (List.range n).filter fun b => (getC T s (b : Int)).isSome
theorem pgG_none {T : Tb} {s : Int} {p : Nat} (h : getC T s (p : Int) = none) : pgG T s (p + 1) = pgG T s p := by
  unfold pgG
  rw [List.range_succ, List.filter_append]
  simp [List.filter_cons, h]
theorem pgG_some {T : Tb} {s : Int} {p : Nat} {e : En} (h : getC T s (p : Int) = some e) : pgG T s (p + 1) = pgG T s p ++ [p] := by
  unfold pgG
  rw [List.range_succ, List.filter_append]
  simp [List.filter_cons, h]
theorem pgG_len (T : Tb) (s : Int) (n : Nat) : (pgG T s n).length ≤ n := by
  have := List.length_filter_le (fun b : Nat => (getC T s (b : Int)).isSome) (List.range n)
  rw [List.length_range] at this
  exact this
theorem pgG_pre (T : Tb) (s : Int) (n : Nat) : ∀ k, ∃ r, pgG T s (n + k) = pgG T s n ++ r
  | 0 => ⟨[], by simp⟩
  | k + 1 => by
    obtain ⟨r, hr⟩ := pgG_pre T s n k
    cases h : getC T s ((n + k : Nat) : Int) with
    | none => exact ⟨r, by rw [← Nat.add_assoc, pgG_none h, hr]⟩
    | some e => exact ⟨r ++ [n + k], by rw [← Nat.add_assoc, pgG_some h, hr, List.append_assoc]⟩
theorem pgG_at {T : Tb} {s : Int} {p : Nat} {e : En} (hp : p < 32) (h : getC T s (p : Int) = some e) : (pgG T s p).length < (pgG T s 32).length ∧ (pgG T s 32)[(pgG T s p).length]? = some p := by
  obtain ⟨r, hr⟩ := pgG_pre T s (p + 1) (31 - p)
  rw [show p + 1 + (31 - p) = 32 by omega, pgG_some h] at hr
  rw [hr]
  simp
theorem pgs_G (T : Tb) (s : Int) : pgs T s = pgG T s 32 := by
  unfold pgs pgG
  by_cases h : okS s
  · rw [if_pos h]
    unfold pgsL
    apply List.filter_congr
    intro b hb
    have hb := List.mem_range.1 hb
    rw [getC, if_pos ⟨h, by omega, by omega⟩, Int.toNat_natCast]
  · rw [if_neg h]
    symm
    rw [List.filter_eq_nil_iff]
    intro b hb
    rw [getC, if_neg (fun h' => h h'.1)]
    simp
theorem turn_heap (g : Heap) (u : Nat) : ∃ gN, ((g.push (O.cells (Blk.of [V.int IntKind.i64 0]) 3)).set g.n (O.cells ((Blk.of [V.int IntKind.i64 0]).set 0 (V.int IntKind.i64 (u : Int))) 3)).set g.n (O.cells (((Blk.of [V.int IntKind.i64 0]).set 0 (V.int IntKind.i64 (u : Int))).set 0 (V.int IntKind.i64 ((u : Int) + 1))) 3) = gN ∧ gN.n = g.n + 1 ∧ (∃ c, gN.get g.n = some (.cells c 3) ∧ c.size = 1 ∧ c.ro = false ∧ c.get 0 = .int .i64 ((u + 1 : Nat) : Int)) ∧ ∀ b, b < g.n → gN.get b = g.get b :=
  ⟨_, rfl, by simp, ⟨_, w_set_eq (by simp) rfl _, rfl, rfl, by simp -implicitDefEqProofs (disch := (first | omega | (simp -implicitDefEqProofs only [szs, ne_eq] <;> omega) | fail)) only [go_sem, Nat.reduceAdd, Nat.reduceSub, Nat.reduceMul, Nat.reduceLT, Nat.reduceMod, Nat.reduceDiv, Nat.reduceEqDiff, Nat.reduceBEq, Nat.reduceLeDiff, ↓reduceIte, reduceCtorEq, Int.reduceAdd, Int.reduceSub, Int.reduceLT, Int.reduceLE, Int.reduceBEq, Int.reduceEq, Int.reduceToNat]; simp⟩, fun b hb => by rw [w_set_ne (by simp) (by omega), w_set_ne (by simp) (by omega), w_push_ne (by omega)]⟩
theorem eg_34 : Try.prog.eqGuardType Try.prog.depth 34 = false := by kernel_rfl
set_option maxHeartbeats 4000000 in
theorem goes_dem {h : Heap} {R W : Set'} {tb r rd : Nat} {T : Tb} (ht : TabAt h tb r T) (hr : RefP h rd T) (hR : ∀ b, R b) (s leave : Int) :
    SF ⟨Try.prog, true⟩ 44 [.ptr (some (tb, 0)), .ptr (some (rd, 0)), .int .i64 s, .int .i64 leave] h R W fun v h' => v = .bool true ∧ h.n ≤ h'.n ∧ ∀ b, b < h.n → h'.get b = h.get b := by
  have hlt := ht.lt
  have hlr := hr.lt
  refine SF.go hm Try.func44 ir44_eq ?_
  obtain ⟨h0, e0, n0, b1, b2, b3, b4, k0⟩ : ∃ h0, (((h.push (.cells (Blk.of [V.ptr (some (rd, 0))]) 24)).push (.cells (Blk.of [V.int .i64 s]) 3)).push (.cells (Blk.of [V.int .i64 leave]) 3)).push (.cells (Blk.of [V.bool false]) 4) = h0 ∧ h0.n = h.n + 4 ∧ h0.get h.n = some (.cells (Blk.of [V.ptr (some (rd, 0))]) 24) ∧ h0.get (h.n + 1) = some (.cells (Blk.of [V.int .i64 s]) 3) ∧ h0.get (h.n + 1 + 1) = some (.cells (Blk.of [V.int .i64 leave]) 3) ∧ h0.get (h.n + 1 + 1 + 1) = some (.cells (Blk.of [V.bool false]) 4) ∧ ∀ b, b < h.n → h0.get b = h.get b :=
    ⟨_, rfl, by simp, by simp -implicitDefEqProofs (disch := (first | omega | (simp -implicitDefEqProofs only [szs, ne_eq] <;> omega) | fail)) only [go_sem, Nat.reduceAdd, Nat.reduceSub, Nat.reduceMul, Nat.reduceLT, Nat.reduceMod, Nat.reduceDiv, Nat.reduceEqDiff, Nat.reduceBEq, Nat.reduceLeDiff, ↓reduceIte, reduceCtorEq, Int.reduceAdd, Int.reduceSub, Int.reduceLT, Int.reduceLE, Int.reduceBEq, Int.reduceEq, Int.reduceToNat], by simp -implicitDefEqProofs (disch := (first | omega | (simp -implicitDefEqProofs only [szs, ne_eq] <;> omega) | fail)) only [go_sem, Nat.reduceAdd, Nat.reduceSub, Nat.reduceMul, Nat.reduceLT, Nat.reduceMod, Nat.reduceDiv, Nat.reduceEqDiff, Nat.reduceBEq, Nat.reduceLeDiff, ↓reduceIte, reduceCtorEq, Int.reduceAdd, Int.reduceSub, Int.reduceLT, Int.reduceLE, Int.reduceBEq, Int.reduceEq, Int.reduceToNat], by simp -implicitDefEqProofs (disch := (first | omega | (simp -implicitDefEqProofs only [szs, ne_eq] <;> omega) | fail)) only [go_sem, Nat.reduceAdd, Nat.reduceSub, Nat.reduceMul, Nat.reduceLT, Nat.reduceMod, Nat.reduceDiv, Nat.reduceEqDiff, Nat.reduceBEq, Nat.reduceLeDiff, ↓reduceIte, reduceCtorEq, Int.reduceAdd, Int.reduceSub, Int.reduceLT, Int.reduceLE, Int.reduceBEq, Int.reduceEq, Int.reduceToNat], by simp -implicitDefEqProofs (disch := (first | omega | (simp -implicitDefEqProofs only [szs, ne_eq] <;> omega) | fail)) only [go_sem, Nat.reduceAdd, Nat.reduceSub, Nat.reduceMul, Nat.reduceLT, Nat.reduceMod, Nat.reduceDiv, Nat.reduceEqDiff, Nat.reduceBEq, Nat.reduceLeDiff, ↓reduceIte, reduceCtorEq, Int.reduceAdd, Int.reduceSub, Int.reduceLT, Int.reduceLE, Int.reduceBEq, Int.reduceEq, Int.reduceToNat], fun b hb => by simp -implicitDefEqProofs (disch := (first | omega | (simp -implicitDefEqProofs only [szs, ne_eq] <;> omega) | fail)) only [go_sem, Nat.reduceAdd, Nat.reduceSub, Nat.reduceMul, Nat.reduceLT, Nat.reduceMod, Nat.reduceDiv, Nat.reduceEqDiff, Nat.reduceBEq, Nat.reduceLeDiff, ↓reduceIte, reduceCtorEq, Int.reduceAdd, Int.reduceSub, Int.reduceLT, Int.reduceLE, Int.reduceBEq, Int.reduceEq, Int.reduceToNat]⟩
  simp -implicitDefEqProofs (disch := (first | omega | (simp -implicitDefEqProofs only [szs, ne_eq] <;> omega) | fail)) only [go_sem, Nat.reduceAdd, Nat.reduceSub, Nat.reduceMul, Nat.reduceLT, Nat.reduceMod, Nat.reduceDiv, Nat.reduceEqDiff, Nat.reduceBEq, Nat.reduceLeDiff, ↓reduceIte, reduceCtorEq, Int.reduceAdd, Int.reduceSub, Int.reduceLT, Int.reduceLE, Int.reduceBEq, Int.reduceEq, Int.reduceToNat, ir44, e0, b1, b2, b3, b4]
  clear e0
  have ht0 := ht.old k0
  have hr0 := hr.old k0
  refine GCallD.of (R' := fun _ => False) (W' := fun _ => False) space_ok ?_
  rintro v g1 ⟨rfl, n1, s1, s2, k1⟩
  have c1 := (k1 h.n (by omega)).trans b1
  have c2 := (k1 (h.n + 1) (by omega)).trans b2
  have hr1 := hr0.old k1
  simp -implicitDefEqProofs (disch := (first | omega | (simp -implicitDefEqProofs only [szs, ne_eq] <;> omega) | fail)) only [go_sem, Nat.reduceAdd, Nat.reduceSub, Nat.reduceMul, Nat.reduceLT, Nat.reduceMod, Nat.reduceDiv, Nat.reduceEqDiff, Nat.reduceBEq, Nat.reduceLeDiff, ↓reduceIte, reduceCtorEq, Int.reduceAdd, Int.reduceSub, Int.reduceLT, Int.reduceLE, Int.reduceBEq, Int.reduceEq, Int.reduceToNat, c1, c2]
  refine GCallD.of (R' := fun _ => True) (W' := fun _ => False) (rpages_ok hr1 (fun b => True.intro) s) ?_
  rintro lv g2 ⟨ho, n2, k2⟩
  rw [pgs_G] at ho
  have hcv := ho.lr.cells
  have hon := ho.lr.one
  obtain ⟨g3, e3, n3, ⟨cw, b5, b5s, b5'⟩, k3⟩ : ∃ g3, (g2.push (.cells (Blk.of [V.slice none 0 0 true]) 76)).set g2.n (.cells ((Blk.of [V.slice none 0 0 true]).set 0 lv) 76) = g3 ∧ g3.n = g2.n + 1 ∧ (∃ cw : Blk, g3.get g2.n = some (.cells cw 76) ∧ cw.size = 1 ∧ cw.get 0 = lv) ∧ ∀ b, b < g2.n → g3.get b = g2.get b := ⟨_, rfl, by simp, ⟨_, w_set_eq (by simp) rfl _, rfl, by simp -implicitDefEqProofs (disch := (first | omega | (simp -implicitDefEqProofs only [szs, ne_eq] <;> omega) | fail)) only [go_sem, Nat.reduceAdd, Nat.reduceSub, Nat.reduceMul, Nat.reduceLT, Nat.reduceMod, Nat.reduceDiv, Nat.reduceEqDiff, Nat.reduceBEq, Nat.reduceLeDiff, ↓reduceIte, reduceCtorEq, Int.reduceAdd, Int.reduceSub, Int.reduceLT, Int.reduceLE, Int.reduceBEq, Int.reduceEq, Int.reduceToNat]⟩, fun b hb => by rw [w_set_ne (by simp) (by omega), w_push_ne (by omega)]⟩
  obtain ⟨g4, e4, n4, b6, k4⟩ : ∃ g4, (g3.push (.cells (Blk.of [V.int .i64 0]) 3)).set g3.n (.cells ((Blk.of [V.int .i64 0]).set 0 (.int .i64 0)) 3) = g4 ∧ g4.n = g3.n + 1 ∧ g4.get g3.n = some (.cells ((Blk.of [V.int .i64 0]).set 0 (.int .i64 0)) 3) ∧ ∀ b, b < g3.n → g4.get b = g3.get b := ⟨_, rfl, by simp, w_set_eq (by simp) rfl _, fun b hb => by rw [w_set_ne (by simp) (by omega), w_push_ne (by omega)]⟩
  simp -implicitDefEqProofs (disch := (first | omega | (simp -implicitDefEqProofs only [szs, ne_eq] <;> omega) | fail)) only [go_sem, Nat.reduceAdd, Nat.reduceSub, Nat.reduceMul, Nat.reduceLT, Nat.reduceMod, Nat.reduceDiv, Nat.reduceEqDiff, Nat.reduceBEq, Nat.reduceLeDiff, ↓reduceIte, reduceCtorEq, Int.reduceAdd, Int.reduceSub, Int.reduceLT, Int.reduceLE, Int.reduceBEq, Int.reduceEq, Int.reduceToNat, ↓hcv, ↓hon, e3, e4]
  have p1 := (k3 h.n (by omega)).trans ((k2 h.n (by omega)).trans c1)
  have p2 := (k3 (h.n + 1) (by omega)).trans ((k2 (h.n + 1) (by omega)).trans c2)
  have p3 := (k3 (h.n + 1 + 1) (by omega)).trans ((k2 (h.n + 1 + 1) (by omega)).trans ((k1 (h.n + 1 + 1) (by omega)).trans b3))
  have p4 := (k3 (h.n + 1 + 1 + 1) (by omega)).trans ((k2 (h.n + 1 + 1 + 1) (by omega)).trans ((k1 (h.n + 1 + 1 + 1) (by omega)).trans b4))
  have hold : ∀ b, b < h.n → g3.get b = h.get b := fun b hb => by rw [k3 b (by omega), k2 b (by omega), k1 b (by omega), k0 b hb]
  have hbt : ∀ g : Heap, (∀ b, b < g3.n → g.get b = g3.get b) → TabAt g tb r T ∧ RefP g rd T ∧ (∃ c, g.get h0.n = some (.cells c 23) ∧ c.size = 1 ∧ c.get 0 = .ptr (some (tb, 0))) ∧ (∃ c, g.get (h0.n + 1) = some (.cells c 3) ∧ c.size = 1 ∧ c.get 0 = .int .i64 s) ∧ Own g1.n g lv (natV (pgG T s 32)) 3 := fun g hg => by
    obtain ⟨x1, y1, z1⟩ := s1
    obtain ⟨x2, y2, z2⟩ := s2
    refine ⟨ht.old fun b hb => by rw [hg b (by omega)]; exact hold b hb, hr.old fun b hb => by rw [hg b (by omega)]; exact hold b hb, ⟨x1, by rw [hg _ (by omega), k3 _ (by omega), k2 _ (by omega)]; exact y1, z1⟩, ⟨x2, by rw [hg _ (by omega), k3 _ (by omega), k2 _ (by omega)]; exact y2, z2⟩, (ho.old k3).old fun b hb => hg b hb⟩
  clear hcv hon
  refine ⟨?_, ⟨fun _ _ h => h.elim, fun _ _ h => h.elim, fun _ _ _ => .inr (hR _), fun _ _ h => h.elim, fun h => by omega⟩, .inl (by omega), ?_⟩
  · simp only [List.not_mem_nil, or_false, false_or, and_false, false_and, false_implies, implies_true, not_false_eq_true, List.mem_singleton, List.mem_cons, and_true, true_and]
    all_goals (try and_intros)
    all_goals (intros; omega)
  refine GLoop.inv hm (fun k f g => (f.mks.Nodup ∧ ∀ m ∈ f.mks, g3.n ≤ m ∧ g.get m = some (.deferred true)) ∧ f.tm.n = 87 ∧ f.tm.get 5 = some (.ptr (some (h.n, 0))) ∧ f.tm.get 6 = some (.ptr (some (h.n + 1, 0))) ∧ f.tm.get 7 = some (.ptr (some (h.n + 1 + 1, 0))) ∧ f.tm.get 8 = some (.ptr (some (h.n + 1 + 1 + 1, 0))) ∧ f.tm.get 9 = some (.func 57 [] [.ptr (some (h0.n, 0)), .ptr (some (h0.n + 1, 0))]) ∧ f.tm.get 10 = some (.ptr (some (g2.n, 0))) ∧ g3.n ≤ g.n ∧ (∀ b, b < g3.n → g.get b = g3.get b) ∧
    ∃ (u bt : Nat) (ct : Blk), u + k = 2 ∧ f.tm.get 11 = some (.ptr (some (bt, 0))) ∧ g3.n ≤ bt ∧ g.get bt = some (.cells ct 3) ∧ ct.size = 1 ∧ ct.ro = false ∧ ct.get 0 = .int .i64 u) 2 ?_ ?_
  · exact ⟨⟨List.nodup_nil, fun m hm => by cases hm⟩, rfl, by simp -implicitDefEqProofs (disch := (first | omega | (simp -implicitDefEqProofs only [szs, ne_eq] <;> omega) | fail)) only [go_sem, Nat.reduceAdd, Nat.reduceSub, Nat.reduceMul, Nat.reduceLT, Nat.reduceMod, Nat.reduceDiv, Nat.reduceEqDiff, Nat.reduceBEq, Nat.reduceLeDiff, ↓reduceIte, reduceCtorEq, Int.reduceAdd, Int.reduceSub, Int.reduceLT, Int.reduceLE, Int.reduceBEq, Int.reduceEq, Int.reduceToNat], by simp -implicitDefEqProofs (disch := (first | omega | (simp -implicitDefEqProofs only [szs, ne_eq] <;> omega) | fail)) only [go_sem, Nat.reduceAdd, Nat.reduceSub, Nat.reduceMul, Nat.reduceLT, Nat.reduceMod, Nat.reduceDiv, Nat.reduceEqDiff, Nat.reduceBEq, Nat.reduceLeDiff, ↓reduceIte, reduceCtorEq, Int.reduceAdd, Int.reduceSub, Int.reduceLT, Int.reduceLE, Int.reduceBEq, Int.reduceEq, Int.reduceToNat], by simp -implicitDefEqProofs (disch := (first | omega | (simp -implicitDefEqProofs only [szs, ne_eq] <;> omega) | fail)) only [go_sem, Nat.reduceAdd, Nat.reduceSub, Nat.reduceMul, Nat.reduceLT, Nat.reduceMod, Nat.reduceDiv, Nat.reduceEqDiff, Nat.reduceBEq, Nat.reduceLeDiff, ↓reduceIte, reduceCtorEq, Int.reduceAdd, Int.reduceSub, Int.reduceLT, Int.reduceLE, Int.reduceBEq, Int.reduceEq, Int.reduceToNat], by simp -implicitDefEqProofs (disch := (first | omega | (simp -implicitDefEqProofs only [szs, ne_eq] <;> omega) | fail)) only [go_sem, Nat.reduceAdd, Nat.reduceSub, Nat.reduceMul, Nat.reduceLT, Nat.reduceMod, Nat.reduceDiv, Nat.reduceEqDiff, Nat.reduceBEq, Nat.reduceLeDiff, ↓reduceIte, reduceCtorEq, Int.reduceAdd, Int.reduceSub, Int.reduceLT, Int.reduceLE, Int.reduceBEq, Int.reduceEq, Int.reduceToNat], by simp -implicitDefEqProofs (disch := (first | omega | (simp -implicitDefEqProofs only [szs, ne_eq] <;> omega) | fail)) only [go_sem, Nat.reduceAdd, Nat.reduceSub, Nat.reduceMul, Nat.reduceLT, Nat.reduceMod, Nat.reduceDiv, Nat.reduceEqDiff, Nat.reduceBEq, Nat.reduceLeDiff, ↓reduceIte, reduceCtorEq, Int.reduceAdd, Int.reduceSub, Int.reduceLT, Int.reduceLE, Int.reduceBEq, Int.reduceEq, Int.reduceToNat], by simp -implicitDefEqProofs (disch := (first | omega | (simp -implicitDefEqProofs only [szs, ne_eq] <;> omega) | fail)) only [go_sem, Nat.reduceAdd, Nat.reduceSub, Nat.reduceMul, Nat.reduceLT, Nat.reduceMod, Nat.reduceDiv, Nat.reduceEqDiff, Nat.reduceBEq, Nat.reduceLeDiff, ↓reduceIte, reduceCtorEq, Int.reduceAdd, Int.reduceSub, Int.reduceLT, Int.reduceLE, Int.reduceBEq, Int.reduceEq, Int.reduceToNat], by omega, k4, 0, g3.n, _, by omega, by simp -implicitDefEqProofs (disch := (first | omega | (simp -implicitDefEqProofs only [szs, ne_eq] <;> omega) | fail)) only [go_sem, Nat.reduceAdd, Nat.reduceSub, Nat.reduceMul, Nat.reduceLT, Nat.reduceMod, Nat.reduceDiv, Nat.reduceEqDiff, Nat.reduceBEq, Nat.reduceLeDiff, ↓reduceIte, reduceCtorEq, Int.reduceAdd, Int.reduceSub, Int.reduceLT, Int.reduceLE, Int.reduceBEq, Int.reduceEq, Int.reduceToNat], Nat.le_refl _, b6, rfl, rfl, rfl⟩
  rintro k ⟨⟨n', tr⟩, mks⟩ g ⟨⟨hmn, hmm⟩, hn', t5, t6, t7, t8, t9, t10, hgn, hgo, u, bt, ct, huk, t11, hbt1, hbt2, hbt3, hbt4, hbt5⟩
  simp only [Tm.get_mk] at hmn hmm hn' t5 t6 t7 t8 t9 t10 t11
  subst hn'
  by_cases hu : u < 2
  · obtain ⟨gA, eA, nA, bA, kA⟩ : ∃ gA, (g.push (O.cells (Blk.of [V.int IntKind.i64 0]) 3)).set g.n (O.cells ((Blk.of [V.int IntKind.i64 0]).set 0 (V.int IntKind.i64 0)) 3) = gA ∧ gA.n = g.n + 1 ∧ gA.get g.n = some (O.cells ((Blk.of [V.int IntKind.i64 0]).set 0 (V.int IntKind.i64 0)) 3) ∧ ∀ b, b < g.n → gA.get b = g.get b := ⟨_, rfl, by simp, w_set_eq (by simp) rfl _, fun b hb => by rw [w_set_ne (by simp) (by omega), w_push_ne (by omega)]⟩
    have hRt := hR bt
    have hu2 : (u : Int) < 2 := by omega
    simp -implicitDefEqProofs (disch := (first | omega | (simp -implicitDefEqProofs only [szs, ne_eq] <;> omega) | fail)) only [go_sem, Nat.reduceAdd, Nat.reduceSub, Nat.reduceMul, Nat.reduceLT, Nat.reduceMod, Nat.reduceDiv, Nat.reduceEqDiff, Nat.reduceBEq, Nat.reduceLeDiff, ↓reduceIte, reduceCtorEq, Int.reduceAdd, Int.reduceSub, Int.reduceLT, Int.reduceLE, Int.reduceBEq, Int.reduceEq, Int.reduceToNat, ir44_l0, t5, t6, t7, t8, t9, t10, t11, hbt2, hbt3, hbt5, hRt, hu2, eA]
    refine ⟨.inl (by omega), ?_⟩
    have hgA : ∀ b, b < g3.n → gA.get b = g3.get b := fun b hb => by rw [kA b (by omega)]; exact hgo b hb
    obtain ⟨htA, hrA, sA1, sA2, hoA⟩ := hbt gA hgA
    have hml : ∀ m ∈ mks, m < g.n := fun m hm => Heap.lt_of_get (hmm m hm).2
    have hpl := pgG_len T s 32
    refine range57 (tb := tb) (r := r) (bt := h0.n) (bs := h0.n + 1) (T := T) (s := s) (fun b => b = g.n)
      (fun p g' => gA.n ≤ g'.n ∧ (∀ b, b < g.n → g'.get b = g.get b) ∧ (∃ c, g'.get g.n = some (.cells c 3) ∧ c.size = 1 ∧ c.ro = false ∧ c.get 0 = .int .i64 ((pgG T s p).length : Nat)) ∧ (u = 0 → ¬ (1 ≤ leave ∧ leave ≤ (pgG T s p).length)))
      (fun e g' => e = .exit 2 ∧ gA.n ≤ g'.n ∧ (∀ b, b < g.n → g'.get b = g.get b) ∧ (∃ c, g'.get g.n = some (.cells c 3) ∧ c.size = 1 ∧ c.ro = false ∧ c.get 0 = .int .i64 leave) ∧ u = 0)
      (by simp -implicitDefEqProofs (disch := (first | omega | (simp -implicitDefEqProofs only [szs, ne_eq] <;> omega) | fail)) only [go_sem, Nat.reduceAdd, Nat.reduceSub, Nat.reduceMul, Nat.reduceLT, Nat.reduceMod, Nat.reduceDiv, Nat.reduceEqDiff, Nat.reduceBEq, Nat.reduceLeDiff, ↓reduceIte, reduceCtorEq, Int.reduceAdd, Int.reduceSub, Int.reduceLT, Int.reduceLE, Int.reduceBEq, Int.reduceEq, Int.reduceToNat, t9]) htA sA1 sA2 (fun b hb => .inr (hR b)) (fun b hb => by rcases hb with hb | rfl <;> exact .inl (by omega)) ⟨Nat.le_refl _, kA, ⟨_, bA, rfl, rfl, rfl⟩, fun _ h => by simp [pgG] at h; omega⟩
      (fun p g' hp hn ⟨i1, i2, i3, i4⟩ => by rw [pgG_none hn]; exact ⟨i1, i2, i3, i4⟩) (fun p g' g'' ⟨i1, i2, ⟨c, i3, i5⟩, i4⟩ j1 j2 => ⟨by omega, fun b hb => by rw [j2 b (by omega) (by omega) (by omega)]; exact i2 b hb, ⟨c, by rw [j2 _ (by omega) (by omega) (by omega)]; exact i3, i5⟩, i4⟩)
      (fun e g' g'' ⟨i1, i2, i3, ⟨c, i4, i5⟩, i6⟩ j1 j2 => ⟨i1, by omega, fun b hb => by rw [j2 b (by omega) (by omega) (by omega)]; exact i3 b hb, ⟨c, by rw [j2 _ (by omega) (by omega) (by omega)]; exact i4, i5⟩, i6⟩)
      ir44_a0_eq ir44_b0_eq ?_ ?_ ?_
    · intro R' W' Q1 p e gB tm htm r1 r2 w1 w2 hp hcc hK hn hd hlo hmid
      simp only [setPs, Option.some.injEq] at htm
      subst htm
      have hR' : ∀ b, R' b := fun b => r1 b (.inr (hR b))
      have hRB := hR' gB.n
      have hWB := w1 gB.n (by omega)
      obtain ⟨g6, e6, n6, b6', k6⟩ : ∃ g6, (gB.push (O.cells (Blk.of [V.int IntKind.i64 0, V.int IntKind.i64 0, V.bool false, V.bool false]) 34)).set gB.n (O.cells (((((Blk.of [V.int IntKind.i64 0, V.int IntKind.i64 0, V.bool false, V.bool false]).set 0 (V.int IntKind.i64 (Ce.f (some e)))).set 1 (V.int IntKind.i64 (Ce.r (some e)))).set 2 (V.bool (Ce.t (some e)))).set 3 (V.bool (Ce.w (some e)))) 34) = g6 ∧ g6.n = gB.n + 1 ∧
        (∃ d, g6.get gB.n = some (.cells d 34) ∧ d.size = 4 ∧ d.get 0 = .int .i64 (Ce.f (some e)) ∧ d.get 1 = .int .i64 (Ce.r (some e)) ∧ d.get 2 = .bool (Ce.t (some e)) ∧ d.get 3 = .bool (Ce.w (some e))) ∧ ∀ b, b < gB.n → g6.get b = gB.get b := ⟨_, rfl, by simp, ⟨_, w_set_eq (by simp) rfl _, rfl, by simp -implicitDefEqProofs (disch := (first | omega | (simp -implicitDefEqProofs only [szs, ne_eq] <;> omega) | fail)) only [go_sem, Nat.reduceAdd, Nat.reduceSub, Nat.reduceMul, Nat.reduceLT, Nat.reduceMod, Nat.reduceDiv, Nat.reduceEqDiff, Nat.reduceBEq, Nat.reduceLeDiff, ↓reduceIte, reduceCtorEq, Int.reduceAdd, Int.reduceSub, Int.reduceLT, Int.reduceLE, Int.reduceBEq, Int.reduceEq, Int.reduceToNat], by simp -implicitDefEqProofs (disch := (first | omega | (simp -implicitDefEqProofs only [szs, ne_eq] <;> omega) | fail)) only [go_sem, Nat.reduceAdd, Nat.reduceSub, Nat.reduceMul, Nat.reduceLT, Nat.reduceMod, Nat.reduceDiv, Nat.reduceEqDiff, Nat.reduceBEq, Nat.reduceLeDiff, ↓reduceIte, reduceCtorEq, Int.reduceAdd, Int.reduceSub, Int.reduceLT, Int.reduceLE, Int.reduceBEq, Int.reduceEq, Int.reduceToNat], by simp -implicitDefEqProofs (disch := (first | omega | (simp -implicitDefEqProofs only [szs, ne_eq] <;> omega) | fail)) only [go_sem, Nat.reduceAdd, Nat.reduceSub, Nat.reduceMul, Nat.reduceLT, Nat.reduceMod, Nat.reduceDiv, Nat.reduceEqDiff, Nat.reduceBEq, Nat.reduceLeDiff, ↓reduceIte, reduceCtorEq, Int.reduceAdd, Int.reduceSub, Int.reduceLT, Int.reduceLE, Int.reduceBEq, Int.reduceEq, Int.reduceToNat], by simp -implicitDefEqProofs (disch := (first | omega | (simp -implicitDefEqProofs only [szs, ne_eq] <;> omega) | fail)) only [go_sem, Nat.reduceAdd, Nat.reduceSub, Nat.reduceMul, Nat.reduceLT, Nat.reduceMod, Nat.reduceDiv, Nat.reduceEqDiff, Nat.reduceBEq, Nat.reduceLeDiff, ↓reduceIte, reduceCtorEq, Int.reduceAdd, Int.reduceSub, Int.reduceLT, Int.reduceLE, Int.reduceBEq, Int.reduceEq, Int.reduceToNat]⟩, fun b hb => by simp -implicitDefEqProofs (disch := (first | omega | (simp -implicitDefEqProofs only [szs, ne_eq] <;> omega) | fail)) only [go_sem, Nat.reduceAdd, Nat.reduceSub, Nat.reduceMul, Nat.reduceLT, Nat.reduceMod, Nat.reduceDiv, Nat.reduceEqDiff, Nat.reduceBEq, Nat.reduceLeDiff, ↓reduceIte, reduceCtorEq, Int.reduceAdd, Int.reduceSub, Int.reduceLT, Int.reduceLE, Int.reduceBEq, Int.reduceEq, Int.reduceToNat]⟩
      obtain ⟨d, b6', db, d0, d1, d2, d3⟩ := b6'
      simp -implicitDefEqProofs (disch := (first | omega | (simp -implicitDefEqProofs only [szs, ne_eq] <;> omega) | fail)) only [go_sem, Nat.reduceAdd, Nat.reduceSub, Nat.reduceMul, Nat.reduceLT, Nat.reduceMod, Nat.reduceDiv, Nat.reduceEqDiff, Nat.reduceBEq, Nat.reduceLeDiff, ↓reduceIte, reduceCtorEq, Int.reduceAdd, Int.reduceSub, Int.reduceLT, Int.reduceLE, Int.reduceBEq, Int.reduceEq, Int.reduceToNat, ir44_a0, Ce.v, hWB, hRB, e6]
      obtain ⟨i1, i2, ⟨cn, v1, v2, v3, v4⟩, i4⟩ := hK
      refine hmid _ _ (by omega) (k6 _ (by omega)) (k6 _ (by omega)) fun Q' g7 e1 e2 e3 e4 hnorm hex => ?_
      have h7 : ∀ b, b < g.n → g7.get b = g.get b := fun b hb => by rw [e2 b (by omega), k6 b (by omega)]; exact i2 b hb
      have h73 : ∀ b, b < g3.n → g7.get b = g3.get b := fun b hb => by rw [h7 b (by omega)]; exact hgo b hb
      have z1 := (h73 h.n (by omega)).trans p1
      have z2 := (h73 (h.n + 1) (by omega)).trans p2
      have z3 := (h73 (h.n + 1 + 1) (by omega)).trans p3
      have zw := (h73 g2.n (by omega)).trans b5
      have zb := (e2 gB.n (by omega)).trans b6'
      have zn := (e2 g.n (by omega)).trans ((k6 _ (by omega)).trans v1)
      have zt := (h7 bt (Heap.lt_of_get hbt2)).trans hbt2
      obtain ⟨ht7, hr7, _, _, ho7⟩ := hbt g7 h73
      have hat := pgG_at hp hcc
      have hllen := ho7.lr.lenV Try.underlying76
      rw [natV_len] at hllen
      obtain ⟨bl, xl, cl, rfl, hbl0, hbl, hls, hlr, hlg, _⟩ := ho7.get (i := (pgG T s p).length) (by rw [natV_len]; exact hat.1)
      have hlg' : cl.get (pgG T s p).length = .int .i64 (p : Int) := by
        rw [hlg, List.getD_eq_getElem?_getD, natV, List.getElem?_map, hat.2]; rfl
      rw [natV_len] at hls
      have q0 : (0 : Int) ≤ ((pgG T s p).length : Nat) := by omega
      have q1 : ((pgG T s p).length : Int) < ((pgG T s 32).length : Nat) := by omega
      have hr_bn := hR' g.n
      have hr_bw := hR' g2.n
      have hr_bl := hR' bl
      have hr_1 := hR' h.n
      have hr_2 := hR' (h.n + 1)
      simp -implicitDefEqProofs (disch := (first | omega | (simp -implicitDefEqProofs only [szs, ne_eq] <;> omega) | fail)) only [go_sem, Nat.reduceAdd, Nat.reduceSub, Nat.reduceMul, Nat.reduceLT, Nat.reduceMod, Nat.reduceDiv, Nat.reduceEqDiff, Nat.reduceBEq, Nat.reduceLeDiff, ↓reduceIte, reduceCtorEq, Int.reduceAdd, Int.reduceSub, Int.reduceLT, Int.reduceLE, Int.reduceBEq, Int.reduceEq, Int.reduceToNat, ir44_b0, t5, t6, t7, t8, t9, t10, t11, zn, v2, v4, zw, b5s, b5', ↓hllen, q0, q1, hr_bn, hr_bw, hr_bl, hr_1, hr_2, hbl, hls, hlg', z1, z2, undefV, natV_len]
      refine GCall.of (rget_ok hr7 (hR' rd) s (p : Int)).any ?_
      rintro v g8 ⟨rfl, n8, k8⟩
      rw [hcc]
      obtain ⟨g9, e9, n9, b9, k9⟩ : ∃ g9, (g8.push (O.cells (Blk.of [V.int IntKind.i64 0, V.int IntKind.i64 0, V.bool false, V.bool false]) 34)).set g8.n (O.cells (((((Blk.of [V.int IntKind.i64 0, V.int IntKind.i64 0, V.bool false, V.bool false]).set 0 (V.int IntKind.i64 (Ce.f (some e)))).set 1 (V.int IntKind.i64 (Ce.r (some e)))).set 2 (V.bool (Ce.t (some e)))).set 3 (V.bool (Ce.w (some e)))) 34) = g9 ∧ g9.n = g8.n + 1 ∧
        (∃ d, g9.get g8.n = some (.cells d 34) ∧ d.size = 4 ∧ d.get 0 = .int .i64 (Ce.f (some e)) ∧ d.get 1 = .int .i64 (Ce.r (some e)) ∧ d.get 2 = .bool (Ce.t (some e)) ∧ d.get 3 = .bool (Ce.w (some e))) ∧ ∀ b, b < g8.n → g9.get b = g8.get b := ⟨_, rfl, by simp, ⟨_, w_set_eq (by simp) rfl _, rfl, by simp -implicitDefEqProofs (disch := (first | omega | (simp -implicitDefEqProofs only [szs, ne_eq] <;> omega) | fail)) only [go_sem, Nat.reduceAdd, Nat.reduceSub, Nat.reduceMul, Nat.reduceLT, Nat.reduceMod, Nat.reduceDiv, Nat.reduceEqDiff, Nat.reduceBEq, Nat.reduceLeDiff, ↓reduceIte, reduceCtorEq, Int.reduceAdd, Int.reduceSub, Int.reduceLT, Int.reduceLE, Int.reduceBEq, Int.reduceEq, Int.reduceToNat], by simp -implicitDefEqProofs (disch := (first | omega | (simp -implicitDefEqProofs only [szs, ne_eq] <;> omega) | fail)) only [go_sem, Nat.reduceAdd, Nat.reduceSub, Nat.reduceMul, Nat.reduceLT, Nat.reduceMod, Nat.reduceDiv, Nat.reduceEqDiff, Nat.reduceBEq, Nat.reduceLeDiff, ↓reduceIte, reduceCtorEq, Int.reduceAdd, Int.reduceSub, Int.reduceLT, Int.reduceLE, Int.reduceBEq, Int.reduceEq, Int.reduceToNat], by simp -implicitDefEqProofs (disch := (first | omega | (simp -implicitDefEqProofs only [szs, ne_eq] <;> omega) | fail)) only [go_sem, Nat.reduceAdd, Nat.reduceSub, Nat.reduceMul, Nat.reduceLT, Nat.reduceMod, Nat.reduceDiv, Nat.reduceEqDiff, Nat.reduceBEq, Nat.reduceLeDiff, ↓reduceIte, reduceCtorEq, Int.reduceAdd, Int.reduceSub, Int.reduceLT, Int.reduceLE, Int.reduceBEq, Int.reduceEq, Int.reduceToNat], by simp -implicitDefEqProofs (disch := (first | omega | (simp -implicitDefEqProofs only [szs, ne_eq] <;> omega) | fail)) only [go_sem, Nat.reduceAdd, Nat.reduceSub, Nat.reduceMul, Nat.reduceLT, Nat.reduceMod, Nat.reduceDiv, Nat.reduceEqDiff, Nat.reduceBEq, Nat.reduceLeDiff, ↓reduceIte, reduceCtorEq, Int.reduceAdd, Int.reduceSub, Int.reduceLT, Int.reduceLE, Int.reduceBEq, Int.reduceEq, Int.reduceToNat]⟩, fun b hb => by simp -implicitDefEqProofs (disch := (first | omega | (simp -implicitDefEqProofs only [szs, ne_eq] <;> omega) | fail)) only [go_sem, Nat.reduceAdd, Nat.reduceSub, Nat.reduceMul, Nat.reduceLT, Nat.reduceMod, Nat.reduceDiv, Nat.reduceEqDiff, Nat.reduceBEq, Nat.reduceLeDiff, ↓reduceIte, reduceCtorEq, Int.reduceAdd, Int.reduceSub, Int.reduceLT, Int.reduceLE, Int.reduceBEq, Int.reduceEq, Int.reduceToNat]⟩
      obtain ⟨dd, b9', dbb, dd0, dd1, dd2, dd3⟩ := b9
      have hW8 := w1 g8.n (by omega)
      have hR8 := hR' g8.n
      have hWn := w2 g.n rfl
      have hRt' := hR' bt
      have hR3 := hR' (h.n + 1 + 1)
      have heq : eqD Try.prog 10 34 (.agg [.int .i64 (Ce.f (some e)), .int .i64 (Ce.r (some e)), .bool (Ce.t (some e)), .bool (Ce.w (some e))]) (.agg [.int .i64 (Ce.f (some e)), .int .i64 (Ce.r (some e)), .bool (Ce.t (some e)), .bool (Ce.w (some e))]) = some true := by rw [eq_34]; simp
      have y9 : ∀ b, b < g7.n → g9.get b = g7.get b := fun b hb => by rw [k9 b (by omega), k8 b (by omega)]
      have zb9 := (y9 gB.n (by omega)).trans zb
      have zn9 := (y9 g.n (by omega)).trans zn
      have zt9 := (y9 bt (by have := Heap.lt_of_get hbt2; omega)).trans zt
      have z39 := (y9 (h.n + 1 + 1) (by omega)).trans z3
      have hln := Heap.lt_of_get zn9
      have hnb : bt ≠ g.n := by have := Heap.lt_of_get hbt2; omega
      have hgs := pgG_some hcc
      have hpl2 := pgG_len T s (p + 1)
      have hu01 : u = 0 ∨ u = 1 := by omega
      have hlen1 : (((pgG T s (p + 1)).length : Nat) : Int) = (pgG T s p).length + 1 := by rw [hgs, List.length_append]; rfl
      have hKeep : ∀ x : O, ∀ b, b < g.n → (g9.set g.n x).get b = g.get b := fun x b hb => by rw [w_set_ne hln (by omega), y9 b (by omega)]; exact h7 b hb
      have hgA' : ∀ x : O, ∀ b, g.n < b → b < g7.n → (g9.set g.n x).get b = g7.get b := fun x b hb hb2 => by rw [w_set_ne hln (by omega), y9 b hb2]
      rcases hu01 with rfl | rfl
      · by_cases hle : ((pgG T s p).length : Int) + 1 = leave
        · have hb : (((pgG T s p).length : Int) + 1 == leave) = true := by simp [hle]
          simp -implicitDefEqProofs (disch := (first | omega | (simp -implicitDefEqProofs only [szs, ne_eq] <;> omega) | fail)) only [go_sem, Nat.reduceAdd, Nat.reduceSub, Nat.reduceMul, Nat.reduceLT, Nat.reduceMod, Nat.reduceDiv, Nat.reduceEqDiff, Nat.reduceBEq, Nat.reduceLeDiff, ↓reduceIte, reduceCtorEq, Int.reduceAdd, Int.reduceSub, Int.reduceLT, Int.reduceLE, Int.reduceBEq, Int.reduceEq, Int.reduceToNat, Ce.v, hW8, hR8, e9, t5, t6, t7, t8, t9, t10, t11, zb9, db, d0, d1, d2, d3, b9', dbb, dd0, dd1, dd2, dd3, hRB, ↓eg_34, heq, zn9, v2, v3, v4, hr_bn, hWn, zt9, hbt3, hbt5, hRt', z39, hR3, hb]
          exact hex (.exit 2) _ _ (by simp) (by rw [Heap.n_set]; omega) (hgA' _ _ (by omega) (by omega)) (hgA' _ _ (by omega) (by omega)) ⟨rfl, by rw [Heap.n_set]; omega, hKeep _, ⟨_, w_set_eq hln rfl _, by rw [Blk.size_set]; exact v2, by rw [Blk.ro_set]; exact v3, by rw [w_bset_eq rfl, hle]⟩, rfl⟩
        · have hb : (((pgG T s p).length : Int) + 1 == leave) = false := by simpa using hle
          simp -implicitDefEqProofs (disch := (first | omega | (simp -implicitDefEqProofs only [szs, ne_eq] <;> omega) | fail)) only [go_sem, Nat.reduceAdd, Nat.reduceSub, Nat.reduceMul, Nat.reduceLT, Nat.reduceMod, Nat.reduceDiv, Nat.reduceEqDiff, Nat.reduceBEq, Nat.reduceLeDiff, ↓reduceIte, reduceCtorEq, Int.reduceAdd, Int.reduceSub, Int.reduceLT, Int.reduceLE, Int.reduceBEq, Int.reduceEq, Int.reduceToNat, Ce.v, hW8, hR8, e9, t5, t6, t7, t8, t9, t10, t11, zb9, db, d0, d1, d2, d3, b9', dbb, dd0, dd1, dd2, dd3, hRB, ↓eg_34, heq, zn9, v2, v3, v4, hr_bn, hWn, zt9, hbt3, hbt5, hRt', z39, hR3, hb]
          exact hnorm _ _ (by rw [Heap.n_set]; omega) (hgA' _ _ (by omega) (by omega)) (hgA' _ _ (by omega) (by omega)) ⟨by rw [Heap.n_set]; omega, hKeep _, ⟨_, w_set_eq hln rfl _, by rw [Blk.size_set]; exact v2, by rw [Blk.ro_set]; exact v3, by rw [w_bset_eq rfl, hlen1]⟩, fun h0 h1 => i4 h0 (by omega)⟩
      · simp -implicitDefEqProofs (disch := (first | omega | (simp -implicitDefEqProofs only [szs, ne_eq] <;> omega) | fail)) only [go_sem, Nat.reduceAdd, Nat.reduceSub, Nat.reduceMul, Nat.reduceLT, Nat.reduceMod, Nat.reduceDiv, Nat.reduceEqDiff, Nat.reduceBEq, Nat.reduceLeDiff, ↓reduceIte, reduceCtorEq, Int.reduceAdd, Int.reduceSub, Int.reduceLT, Int.reduceLE, Int.reduceBEq, Int.reduceEq, Int.reduceToNat, Ce.v, hW8, hR8, e9, t5, t6, t7, t8, t9, t10, t11, zb9, db, d0, d1, d2, d3, b9', dbb, dd0, dd1, dd2, dd3, hRB, ↓eg_34, heq, zn9, v2, v3, v4, hr_bn, hWn, zt9, hbt3, hbt5, hRt', z39, hR3]
        exact hnorm _ _ (by rw [Heap.n_set]; omega) (hgA' _ _ (by omega) (by omega)) (hgA' _ _ (by omega) (by omega)) ⟨by rw [Heap.n_set]; omega, hKeep _, ⟨_, w_set_eq hln rfl _, by rw [Blk.size_set]; exact v2, by rw [Blk.ro_set]; exact v3, by rw [w_bset_eq rfl, hlen1]⟩, fun h0 => by cases h0⟩
    · rintro gC ⟨i1, i2, ⟨cn, v1, v2, v3, v4⟩, i4⟩ hn hd
      have h73 : ∀ b, b < g3.n → gC.get b = g3.get b := fun b hb => by rw [i2 b (by omega)]; exact hgo b hb
      have zw := (h73 g2.n (by omega)).trans b5
      have zt := (i2 bt (Heap.lt_of_get hbt2)).trans hbt2
      obtain ⟨_, _, _, _, ho7⟩ := hbt gC h73
      have hllen := ho7.lr.lenV Try.underlying76
      rw [natV_len] at hllen
      have hu01 : u = 0 ∨ u = 1 := by omega
      obtain ⟨gN, eN, nN, ⟨cN, bN, bN1, bN2, bN3⟩, kN⟩ := turn_heap gC u
      have fin2 : ((gA.n :: mks).Nodup ∧ ∀ m, m ∈ gA.n :: mks → g3.n ≤ m ∧ gN.get m = some (O.deferred true)) := ⟨List.nodup_cons.2 ⟨fun hm => by have := hml _ hm; omega, hmn⟩, fun m hm => by
        rcases List.mem_cons.1 hm with rfl | hm
        · exact ⟨by omega, by rw [kN _ (by omega)]; exact hd⟩
        · have := hml m hm
          exact ⟨(hmm m hm).1, by rw [kN m (by omega), i2 m (by omega)]; exact (hmm m hm).2⟩⟩
      have fin3 : ∀ b, b < g3.n → gN.get b = g3.get b := fun b hb => by rw [kN b (by omega)]; exact h73 b hb
      rcases hu01 with rfl | rfl
      · simp -implicitDefEqProofs (disch := (first | omega | (simp -implicitDefEqProofs only [szs, ne_eq] <;> omega) | fail)) only [go_sem, Nat.reduceAdd, Nat.reduceSub, Nat.reduceMul, Nat.reduceLT, Nat.reduceMod, Nat.reduceDiv, Nat.reduceEqDiff, Nat.reduceBEq, Nat.reduceLeDiff, ↓reduceIte, reduceCtorEq, Int.reduceAdd, Int.reduceSub, Int.reduceLT, Int.reduceLE, Int.reduceBEq, Int.reduceEq, Int.reduceToNat, t5, t6, t7, t8, t9, t10, t11, v1, v2, v4, zw, b5s, b5', ↓hllen, zt, hbt3, hbt5, undefV, hd, eN]
        repeat (refine ⟨Or.inl (by omega), ?_⟩)
        exact ⟨k - 1, by omega, fin2, by omega, fin3, 1, gC.n, cN, by omega, rfl, by omega, bN, bN1, bN2, bN3⟩
      · simp -implicitDefEqProofs (disch := (first | omega | (simp -implicitDefEqProofs only [szs, ne_eq] <;> omega) | fail)) only [go_sem, Nat.reduceAdd, Nat.reduceSub, Nat.reduceMul, Nat.reduceLT, Nat.reduceMod, Nat.reduceDiv, Nat.reduceEqDiff, Nat.reduceBEq, Nat.reduceLeDiff, ↓reduceIte, reduceCtorEq, Int.reduceAdd, Int.reduceSub, Int.reduceLT, Int.reduceLE, Int.reduceBEq, Int.reduceEq, Int.reduceToNat, t5, t6, t7, t8, t9, t10, t11, v1, v2, v4, zw, b5s, b5', ↓hllen, zt, hbt3, hbt5, undefV, hd, eN]
        repeat (refine ⟨Or.inl (by omega), ?_⟩)
        exact ⟨k - 1, by omega, fin2, by omega, fin3, 2, gC.n, cN, by omega, rfl, by omega, bN, bN1, bN2, bN3⟩
    · rintro e gC ⟨rfl, i2, i3, ⟨cn, v1, v2, v3, v4⟩, rfl⟩ _ hn hd
      have h73 : ∀ b, b < g3.n → gC.get b = g3.get b := fun b hb => by rw [i3 b (by omega)]; exact hgo b hb
      have zw := (h73 g2.n (by omega)).trans b5
      have z3 := (h73 (h.n + 1 + 1) (by omega)).trans p3
      have zt := (i3 bt (Heap.lt_of_get hbt2)).trans hbt2
      obtain ⟨_, _, _, _, ho7⟩ := hbt gC h73
      have hllen := ho7.lr.lenV Try.underlying76
      rw [natV_len] at hllen
      obtain ⟨gN, eN, nN, ⟨cN, bN, bN1, bN2, bN3⟩, kN⟩ := turn_heap gC 0
      have fin2 : ((gA.n :: mks).Nodup ∧ ∀ m, m ∈ gA.n :: mks → g3.n ≤ m ∧ gN.get m = some (O.deferred true)) := ⟨List.nodup_cons.2 ⟨fun hm => by have := hml _ hm; omega, hmn⟩, fun m hm => by
        rcases List.mem_cons.1 hm with rfl | hm
        · exact ⟨by omega, by rw [kN _ (by omega)]; exact hd⟩
        · have := hml m hm
          exact ⟨(hmm m hm).1, by rw [kN m (by omega), i3 m (by omega)]; exact (hmm m hm).2⟩⟩
      have fin3 : ∀ b, b < g3.n → gN.get b = g3.get b := fun b hb => by rw [kN b (by omega)]; exact h73 b hb
      by_cases hll : leave = ((pgG T s 32).length : Nat)
      · have hb : (leave == (((pgG T s 32).length : Nat) : Int)) = true := by simp [hll]
        simp -implicitDefEqProofs (disch := (first | omega | (simp -implicitDefEqProofs only [szs, ne_eq] <;> omega) | fail)) only [go_sem, Nat.reduceAdd, Nat.reduceSub, Nat.reduceMul, Nat.reduceLT, Nat.reduceMod, Nat.reduceDiv, Nat.reduceEqDiff, Nat.reduceBEq, Nat.reduceLeDiff, ↓reduceIte, reduceCtorEq, Int.reduceAdd, Int.reduceSub, Int.reduceLT, Int.reduceLE, Int.reduceBEq, Int.reduceEq, Int.reduceToNat, t5, t6, t7, t8, t9, t10, t11, v1, v2, v4, zw, b5s, b5', ↓hllen, zt, hbt3, hbt5, undefV, hd, eN, hb, z3]
        repeat (refine ⟨Or.inl (by omega), ?_⟩)
        exact ⟨k - 1, by omega, fin2, by omega, fin3, 1, gC.n, cN, by omega, rfl, by omega, bN, bN1, bN2, bN3⟩
      · have hb : (leave == (((pgG T s 32).length : Nat) : Int)) = false := by simpa using hll
        simp -implicitDefEqProofs (disch := (first | omega | (simp -implicitDefEqProofs only [szs, ne_eq] <;> omega) | fail)) only [go_sem, Nat.reduceAdd, Nat.reduceSub, Nat.reduceMul, Nat.reduceLT, Nat.reduceMod, Nat.reduceDiv, Nat.reduceEqDiff, Nat.reduceBEq, Nat.reduceLeDiff, ↓reduceIte, reduceCtorEq, Int.reduceAdd, Int.reduceSub, Int.reduceLT, Int.reduceLE, Int.reduceBEq, Int.reduceEq, Int.reduceToNat, t5, t6, t7, t8, t9, t10, t11, v1, v2, v4, zw, b5s, b5', ↓hllen, zt, hbt3, hbt5, undefV, hd, eN, hb, z3]
        repeat (refine ⟨Or.inl (by omega), ?_⟩)
        exact ⟨k - 1, by omega, fin2, by omega, fin3, 1, gC.n, cN, by omega, rfl, by omega, bN, bN1, bN2, bN3⟩
  · obtain rfl : u = 2 := by omega
    have p4' := (hgo (h.n + 1 + 1 + 1) (by omega)).trans p4
    have hlp := Heap.lt_of_get p4'
    simp -implicitDefEqProofs (disch := (first | omega | (simp -implicitDefEqProofs only [szs, ne_eq] <;> omega) | fail)) only [go_sem, Nat.reduceAdd, Nat.reduceSub, Nat.reduceMul, Nat.reduceLT, Nat.reduceMod, Nat.reduceDiv, Nat.reduceEqDiff, Nat.reduceBEq, Nat.reduceLeDiff, ↓reduceIte, reduceCtorEq, Int.reduceAdd, Int.reduceSub, Int.reduceLT, Int.reduceLE, Int.reduceBEq, Int.reduceEq, Int.reduceToNat, ir44_l0, t8, t11, hbt2, hbt3, hbt5, p4']
    refine ⟨.inl (by omega), .inl (by omega), fin_all hmn (fun m hm => ⟨by rw [w_set_ne hlp (by have := (hmm m hm).1; omega)]; exact (hmm m hm).2, .inl (by have := (hmm m hm).1; omega)⟩) fun h' en ek => ?_⟩
    have p5 : h'.get (h.n + 1 + 1 + 1) = _ := (ek (h.n + 1 + 1 + 1) (fun hm => by have := (hmm _ hm).1; omega)).trans (w_set_eq hlp rfl _)
    rw [fin_ret]
    simp -implicitDefEqProofs (disch := (first | omega | (simp -implicitDefEqProofs only [szs, ne_eq] <;> omega) | fail)) only [go_sem, Nat.reduceAdd, Nat.reduceSub, Nat.reduceMul, Nat.reduceLT, Nat.reduceMod, Nat.reduceDiv, Nat.reduceEqDiff, Nat.reduceBEq, Nat.reduceLeDiff, ↓reduceIte, reduceCtorEq, Int.reduceAdd, Int.reduceSub, Int.reduceLT, Int.reduceLE, Int.reduceBEq, Int.reduceEq, Int.reduceToNat, t8, p5]
    rw [Heap.n_set] at en
    refine ⟨.inl (by omega), by omega, fun b hb => ?_⟩
    rw [ek b (fun hm => by have := (hmm _ hm).1; omega), w_set_ne hlp (by omega), hgo b (by omega)]
    exact hold b hb
end Go.Proofs.Ytkfhdaimememiaa
