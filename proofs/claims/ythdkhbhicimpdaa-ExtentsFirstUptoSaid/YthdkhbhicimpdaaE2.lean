/- Extents: Part, Quota, Owner, Taken. -/
import Derived.Test.YthdkhbhicimpdaaE1
set_option linter.unusedVariables false
set_option maxRecDepth 100000
namespace Go.Proofs.Ythdkhbhicimpdaa
open Go Go.Vm
def partV (X : XS) (a : Int) : List V := if 0 ≤ a ∧ a < X.n then [.int .i64 (X.first a.toNat), .int .i64 (X.count a.toNat), .bool true] else [.int .i64 0, .int .i64 0, .bool false]
theorem range68x {R W : Set'} {Q : Ex → Fr → Heap → Prop} {og : Operand} {ka kb : Code} {t : List It} {f : Fr} {h : Heap} {b2 b3 bx bd : Nat} {tb : Nat → Nat} {X : XS} {a : Int} {P : Nat}
    (hg : evV f.tm og = some (.func 68 [] [.ptr (some (b2, 0)), .ptr (some (b3, 0))])) (ha : ¬ (0 ≤ a ∧ a < X.n)) (hx : ExtAt h bx bd tb X) (h2 : h.get b2 = some (.cells (Blk.of [.ptr (some (bx, 0))]) 25)) (h3 : h.get b3 = some (.cells (Blk.of [.int .i64 a]) 3)) (hR2 : R b2) (hR3 : R b3) (hRx : ∀ b, FootX bx tb X b → R b) (hW : ∀ b, h.n ≤ b → W b)
    (hend : ∀ g, h.n + 2 ≤ g.n → g.get h.n = some (.deferred true) → (∀ b, b < h.n → g.get b = h.get b) → GO ⟨Try.prog, true⟩ R W none Q t ⟨f.tm, h.n :: f.mks⟩ g) : GRange ⟨Try.prog, true⟩ R W none Q og #[P] ka kb t f h := by
  refine GRange.outer (k := 68) (xs := []) (ys := [.ptr (some (b2, 0)), .ptr (some (b3, 0))]) hg ca_68 ?_
  obtain ⟨h0, e0, n0, d0, l0, k0⟩ : ∃ h0, ((h.push (.deferred true)).push (.loop ⟨.ready, none, f.tm, [P], ka, kb, h.n⟩)) = h0 ∧ h0.n = h.n + 2 ∧ h0.get h.n = some (.deferred true) ∧ h0.get (h.n + 1) = some (.loop ⟨.ready, none, f.tm, [P], ka, kb, h.n⟩) ∧ ∀ b, b < h.n → h0.get b = h.get b :=
    ⟨_, rfl, by simp, by rw [w_push_ne (by simp), w_push_eq rfl], w_push_eq (by simp) _, fun b hb => by rw [w_push_ne (by simp; omega), w_push_ne (by omega)]⟩
  rw [e0]
  have l2 := Heap.lt_of_get h2
  have l3 := Heap.lt_of_get h3
  have key : SF ⟨Try.prog, true⟩ 68 [.yield (h.n + 1), .ptr (some (b2, 0)), .ptr (some (b3, 0))] h0 R (fun b => b = h.n + 1) fun _ g => g = h0 := by
    have h2' := (k0 b2 l2).trans h2
    have h3' := (k0 b3 l3).trans h3
    refine SF.go hm Try.func68 ir68_eq ?_
    simp -implicitDefEqProofs (disch := (first | omega | fail)) only [go_sem, Nat.reduceAdd, Nat.reduceSub, Nat.reduceLT, Nat.reduceMod, Nat.reduceDiv, ↓reduceIte, reduceCtorEq, ir68, h2', h3', hR2, hR3]
    refine GCall.of (SF.any (of_bad (hx.old k0) (.inr (hRx _ (.inl rfl))) ha)) ?_
    rintro v h' ⟨rfl, rfl⟩
    simp -implicitDefEqProofs (disch := (first | omega | fail)) only [go_sem, Nat.reduceAdd, Nat.reduceSub, Nat.reduceLT, Nat.reduceMod, Nat.reduceDiv, ↓reduceIte, reduceCtorEq]
  refine SF.mono (SF.foot key (fun b hb => hb) (fun b hb => hW b (by have : b = h.n + 1 := hb; omega))) ?_
  rintro v g rfl
  refine ⟨_, l0, by simp, hW _ (by omega), ?_⟩
  exact hend _ (by rw [Heap.n_set]; omega) (by rw [w_set_ne (by omega) (by omega)]; exact d0) (fun b hb => by rw [w_set_ne (by omega) (by omega)]; exact k0 b hb)
set_option maxHeartbeats 1000000 in
theorem taken_dem {h : Heap} {R W : Set'} {bx bd : Nat} {tb : Nat → Nat} {X : XS} (hx : ExtAt h bx bd tb X) (hR : ∀ b, FootX bx tb X b → R b) (a : Int) :
    SF ⟨Try.prog, true⟩ 24 [.ptr (some (bx, 0)), .int .i64 a] h R W fun v h' => v = .int .i64 (if 0 ≤ a ∧ a < X.n then cntB (X.has a.toNat) (X.count a.toNat) else 0) := by
  have hxl := hx.lt
  refine SF.go hm Try.func24 ir24_eq ?_
  simp -implicitDefEqProofs (disch := (first | omega | (simp -implicitDefEqProofs only [szs, ne_eq] <;> omega) | fail)) only [go_sem, Nat.reduceAdd, Nat.reduceSub, Nat.reduceLT, Nat.reduceMod, Nat.reduceDiv, ↓reduceIte, reduceCtorEq, ir24]
  refine GCall.of (runs_ok (bx := bx) (a := a)).any ?_
  rintro v h' ⟨rfl, hh⟩
  obtain ⟨ha0, he⟩ : ∃ x, x = h' := ⟨_, rfl⟩
  rw [← he] at hh ⊢
  have hn : ha0.n = h.n + 3 := by rw [hh]; simp
  have hold : ∀ b, b < h.n → ha0.get b = h.get b := fun b hb => by rw [hh]; simp -implicitDefEqProofs (disch := (first | omega | (simp -implicitDefEqProofs only [szs, ne_eq] <;> omega) | fail)) only [go_sem]
  have hb2 : ha0.get (h.n + 1) = some (.cells (Blk.of [.ptr (some (bx, 0))]) 25) := by rw [hh]; simp -implicitDefEqProofs (disch := (first | omega | (simp -implicitDefEqProofs only [szs, ne_eq] <;> omega) | fail)) only [go_sem]
  have hb3 : ha0.get (h.n + 1 + 1) = some (.cells (Blk.of [.int .i64 a]) 3) := by rw [hh]; simp -implicitDefEqProofs (disch := (first | omega | (simp -implicitDefEqProofs only [szs, ne_eq] <;> omega) | fail)) only [go_sem]
  have hb0 : ∃ c, ha0.get h.n = some (.cells c 3) ∧ c.size = 1 ∧ c.ro = false ∧ c.get 0 = .int .i64 0 := ⟨_, by rw [hh]; simp -implicitDefEqProofs (disch := (first | omega | (simp -implicitDefEqProofs only [szs, ne_eq] <;> omega) | fail)) only [go_sem]; rfl, rfl, rfl, by simp -implicitDefEqProofs (disch := (first | omega | (simp -implicitDefEqProofs only [szs, ne_eq] <;> omega) | fail)) only [go_sem]⟩
  clear hh he
  simp -implicitDefEqProofs (disch := (first | omega | (simp -implicitDefEqProofs only [szs, ne_eq] <;> omega) | fail)) only [go_sem, Nat.reduceAdd, Nat.reduceSub, Nat.reduceLT, Nat.reduceMod, Nat.reduceDiv, ↓reduceIte, reduceCtorEq]
  by_cases hav : 0 ≤ a ∧ a < X.n
  · rw [if_pos hav]
    obtain ⟨i, rfl⟩ := Int.eq_ofNat_of_zero_le hav.1
    have hi : i < X.n := by omega
    have hf := hx.fit i hi
    simp only [Int.toNat_natCast]
    refine range68 (P := 10) (X := 6) (cb := ir24_b0) (b2 := h.n + 1) (b3 := h.n + 1 + 1) (bx := bx) (bd := bd) (tb := tb) (Xs := X) (a := i) (fun b => b = h.n)
      (fun p g => ha0.n ≤ g.n ∧ (∀ b, b < h.n → g.get b = ha0.get b) ∧ ∃ c, g.get h.n = some (.cells c 3) ∧ c.size = 1 ∧ c.ro = false ∧ c.get 0 = .int .i64 (cntB (X.has i) (min p (X.count i))))
      (fun e g => False) (by simp -implicitDefEqProofs (disch := (first | omega | (simp -implicitDefEqProofs only [szs, ne_eq] <;> omega) | fail)) only [go_sem, Nat.reduceSub, Nat.reduceMod, Nat.reduceDiv, ↓reduceIte, reduceCtorEq]) hi (hx.old hold) hb2 hb3 (.inl (by omega)) (.inl (by omega)) (fun b hb => .inr (hR b hb)) (fun b hb => .inl (by omega)) (fun b hb => by rcases hb with hb | rfl <;> exact .inl (by omega)) ⟨Nat.le_refl _, fun _ _ => rfl, by rw [Nat.zero_min]; exact hb0⟩
      (fun p g g' ⟨i1, i2, ⟨c, c1, c2⟩⟩ j1 j2 => ⟨by omega, fun b hb => by rw [j2 b (by omega) (by omega) (by omega)]; exact i2 b hb, ⟨c, by rw [j2 _ (by omega) (by omega) (by omega)]; exact c1, c2⟩⟩)
      (fun e g g' h _ _ => h.elim) (fun p g ⟨i1, i2, _⟩ => ⟨i1, fun b hb => i2 b (hxl b hb)⟩)
      (fun p g hp h0 ⟨i1, i2, ⟨c, c1, c2, c3, c4⟩⟩ => ⟨i1, i2, ⟨c, c1, c2, c3, by rw [c4, Nat.min_eq_left (by omega), Nat.min_eq_left (by omega), cntB_skip h0]⟩⟩)
      ir24_a0_eq ir24_b0_eq (by simp) (by show 10 < 16; omega) (by show 6 < 16; omega) ?_ ?_ (fun e g h => h.elim)
    · rintro R' W' Q1 p k g2 sb x rr r1 r2 hk1 hpk hall hmax ⟨i1, i2, ⟨c, c1, c2, c3, c4⟩⟩ ng2 hxx hdm hdl s0 s1 q0 q1 hnorm hex
      have rx := rr x (.inl (by omega))
      have rn := rr h.n (.inl (Nat.le_refl _))
      have wn := r2 h.n rfl
      rw [Nat.min_eq_left (by omega)] at c4
      have hle := cntB_le (X.has i) p
      have hln := Heap.lt_of_get c1
      simp -implicitDefEqProofs (disch := (first | omega | (simp -implicitDefEqProofs only [szs, ne_eq] <;> omega) | fail)) only [go_sem, Nat.reduceAdd, Nat.reduceSub, Nat.reduceLT, Nat.reduceMod, Nat.reduceDiv, ↓reduceIte, reduceCtorEq, ir24_b0, c1, c2, c3, c4, s0, s1, q1, rx, rn, wn]
      have hsum : cntB (X.has i) (min (p + k + 1) (X.count i)) = cntB (X.has i) p + k := by
        rw [← cntB_run hall]
        rcases hmax with e | e
        · rw [Nat.min_eq_right (by omega), ← e]
        · by_cases e2 : p + k < X.count i
          · rw [Nat.min_eq_left (by omega), cntB_skip e]
          · rw [Nat.min_eq_right (by omega), show X.count i = p + k by omega]
      refine hnorm _ _ (by rw [Heap.n_set]; omega) (w_set_ne hln (by omega) _) (w_set_ne hln (by omega) _) ⟨by rw [Heap.n_set]; omega, fun b hb => by rw [w_set_ne hln (by omega)]; exact i2 b hb, ⟨_, w_set_eq hln rfl _, by rw [Blk.size_set]; exact c2, by rw [Blk.ro_set]; exact c3, by rw [w_bset_eq rfl, hsum]; simp⟩⟩
    · rintro g p hp ⟨i1, i2, ⟨c, c1, c2, c3, c4⟩⟩ gn gd
      rw [Nat.min_eq_right hp] at c4
      have rn : h.n ≤ h.n ∨ R h.n := .inl (Nat.le_refl _)
      simp -implicitDefEqProofs (disch := (first | omega | (simp -implicitDefEqProofs only [szs, ne_eq] <;> omega) | fail)) only [go_sem, Nat.reduceAdd, Nat.reduceSub, Nat.reduceLT, Nat.reduceMod, Nat.reduceDiv, ↓reduceIte, reduceCtorEq, c1, c2, c4, gd]
      exact .inl (by omega)
  · rw [if_neg hav]
    refine range68x (b2 := h.n + 1) (b3 := h.n + 1 + 1) (by simp -implicitDefEqProofs (disch := (first | omega | (simp -implicitDefEqProofs only [szs, ne_eq] <;> omega) | fail)) only [go_sem, Nat.reduceSub, Nat.reduceMod, Nat.reduceDiv, ↓reduceIte, reduceCtorEq]) hav (hx.old hold) hb2 hb3 (.inl (by omega)) (.inl (by omega)) (fun b hb => .inr (hR b hb)) (fun b hb => .inl (by omega)) ?_
    intro g gn gd gk
    obtain ⟨c, c1, c2, c3, c4⟩ := hb0
    have c1' := (gk h.n (by omega)).trans c1
    have rn : h.n ≤ h.n ∨ R h.n := .inl (Nat.le_refl _)
    simp -implicitDefEqProofs (disch := (first | omega | (simp -implicitDefEqProofs only [szs, ne_eq] <;> omega) | fail)) only [go_sem, Nat.reduceAdd, Nat.reduceSub, Nat.reduceLT, Nat.reduceMod, Nat.reduceDiv, ↓reduceIte, reduceCtorEq, c1', c2, c4, gd]
    exact .inl (by omega)
theorem taken_uni {h : Heap} {bx bd : Nat} {tb : Nat → Nat} {X : XS} (hx : ExtAt h bx bd tb X) (a : Int) :
    SF Try.prog 24 [.ptr (some (bx, 0)), .int .i64 a] h (FootX bx tb X) (fun _ => False) fun v h' => v = .int .i64 (if 0 ≤ a ∧ a < X.n then cntB (X.has a.toNat) (X.count a.toNat) else 0) ∧ h' = h :=
  SF.of_dem_val (fun b hb => hx.lt b hb) trivial fun g hg hgo => taken_dem (hx.old hgo) (fun _ h => h) a
end Go.Proofs.Ythdkhbhicimpdaa
