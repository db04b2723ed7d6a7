/- Going over a space's pages. -/
import Derived.Test.YtkfhdaimememiaaC
set_option linter.unusedVariables false
set_option linter.unusedSimpArgs false
set_option linter.unusedSimpArgs false
set_option maxRecDepth 100000
set_option linter.unusedVariables false
set_option linter.unusedSimpArgs false
namespace Go.Proofs.Ytkfhdaimememiaa
open Go Go.Vm
theorem gets_drop (c : Blk) (o n : Nat) {k : Nat} (h : k ≤ n) : (c.gets o n).drop k = c.gets (o + k) (n - k) := by
  apply List.ext_getElem?
  intro i
  rw [List.getElem?_drop]
  by_cases hi : i < n - k
  · rw [Blk.gets_get _ _ _ _ (by omega), Blk.gets_get _ _ _ _ hi, Nat.add_assoc]
  · rw [List.getElem?_eq_none (by rw [Blk.length_gets]; omega), List.getElem?_eq_none (by rw [Blk.length_gets]; omega)]
theorem gets_take (c : Blk) (o n : Nat) {k : Nat} (h : k ≤ n) : (c.gets o n).take k = c.gets o k := by
  apply List.ext_getElem?
  intro i
  by_cases hi : i < k
  · rw [List.getElem?_take_of_lt hi, Blk.gets_get _ _ _ _ (by omega), Blk.gets_get _ _ _ _ hi]
  · rw [List.getElem?_eq_none (by rw [List.length_take, Blk.length_gets]; omega), List.getElem?_eq_none (by rw [Blk.length_gets]; omega)]
set_option maxHeartbeats 2000000 in
theorem seq57 {h : Heap} {tb r bt bs l : Nat} {W Rr : Set'} {T : Tb} {s : Int} (I : Nat → Heap → Prop) (J : Heap → Prop) (ht : TabAt h tb r T) (h1 : ∃ c, h.get bt = some (.cells c 23) ∧ c.size = 1 ∧ c.get 0 = .ptr (some (tb, 0))) (h2 : ∃ c, h.get bs = some (.cells c 3) ∧ c.size = 1 ∧ c.get 0 = .int .i64 s) (hR : ∀ b, b = tb ∨ b = bt ∨ b = bs → Rr b) (hI0 : I 0 h)
    (hkeep : ∀ p g g', I p g → g.n ≤ g'.n → (∀ b, b < g.n → g'.get b = g.get b) → I p g')
    (hskip : ∀ (p : Nat) g, p < 32 → getC T s p = none → I p g → I (p + 1) g) (hn : ∀ p g, I p g → h.n ≤ g.n)
    (hround : ∀ (p : Nat) (e : En) g, p < 32 → getC T s p = some e → I p g → SY ⟨Try.prog, true⟩ l [.int .i64 p, Ce.v (some e)] g (fun b => h.n ≤ b ∨ Rr b) (fun b => h.n ≤ b ∨ W b) (fun v g' => v = .bool true ∧ I (p + 1) g' ∨ v = .bool false ∧ J g')) :
    SF ⟨Try.prog, true⟩ 57 [.yield l, .ptr (some (bt, 0)), .ptr (some (bs, 0))] h Rr W fun _ g => I 32 g ∨ J g := by
  obtain ⟨c1, x1, x2, x3⟩ := h1
  obtain ⟨c2, y1, y2, y3⟩ := h2
  have r1 := hR tb (.inl rfl)
  have r2 := hR bt (.inr (.inl rfl))
  have r3 := hR bs (.inr (.inr rfl))
  refine SF.go hm Try.func57 ir57_eq ?_
  simp -implicitDefEqProofs (disch := (first | omega | (simp -implicitDefEqProofs only [szs, ne_eq] <;> omega) | fail)) only [go_sem, Nat.reduceAdd, Nat.reduceSub, Nat.reduceMul, Nat.reduceLT, Nat.reduceMod, Nat.reduceDiv, Nat.reduceEqDiff, Nat.reduceBEq, Nat.reduceLeDiff, ↓reduceIte, reduceCtorEq, Int.reduceAdd, Int.reduceSub, Int.reduceLT, Int.reduceLE, Int.reduceBEq, Int.reduceEq, Int.reduceToNat, ir57, x1, x2, x3, r2]
  refine GCall.of (there_ok ht (.inr r1)).any ?_
  rintro v h1 ⟨rfl, rfl⟩
  simp -implicitDefEqProofs (disch := (first | omega | (simp -implicitDefEqProofs only [szs, ne_eq] <;> omega) | fail)) only [go_sem, Nat.reduceAdd, Nat.reduceSub, Nat.reduceMul, Nat.reduceLT, Nat.reduceMod, Nat.reduceDiv, Nat.reduceEqDiff, Nat.reduceBEq, Nat.reduceLeDiff, ↓reduceIte, reduceCtorEq, Int.reduceAdd, Int.reduceSub, Int.reduceLT, Int.reduceLE, Int.reduceBEq, Int.reduceEq, Int.reduceToNat, undefV, y1, y2, y3, r3]
  refine GCall.of (space1_ok s (.inl (Nat.le_refl _))).any ?_
  rintro v g1 ⟨rfl, rfl⟩
  obtain ⟨g1, e1, n1, k1⟩ : ∃ g, h1.push (O.cells (Blk.of [V.int IntKind.i64 s]) 3) = g ∧ g.n = h1.n + 1 ∧ ∀ b, b < h1.n → g.get b = h1.get b := ⟨_, rfl, by simp, fun b hb => w_push_ne (by omega) _⟩
  rw [e1]
  have ht1 := ht.old k1
  have x1' := (k1 bt (Heap.lt_of_get x1)).trans x1
  have y1' := (k1 bs (Heap.lt_of_get y1)).trans y1
  have hI1 := hkeep _ _ g1 hI0 (by omega) k1
  by_cases hs : okS s
  · rw [decide_eq_true hs]
    obtain ⟨c, t1, t2, t3, t4, t5⟩ := ht1.t
    obtain ⟨a, rfl⟩ : ∃ a : Nat, s = a := ⟨s.toNat, by unfold okS at hs; omega⟩
    have l1 : (a : Int) < ((16 : Nat) : Int) := by unfold okS at hs; omega
    have l3 : (0 : Int) ≤ (a : Int) := by omega
    have hb : a * 160 + 160 ≤ 2561 := by unfold okS at hs; omega
    obtain ⟨L, hL⟩ : ∃ L, c.gets (a * 160) 160 = L := ⟨_, rfl⟩
    simp -implicitDefEqProofs (disch := (first | omega | (simp -implicitDefEqProofs only [szs, ne_eq] <;> omega) | fail)) only [go_sem, Nat.reduceAdd, Nat.reduceSub, Nat.reduceMul, Nat.reduceLT, Nat.reduceMod, Nat.reduceDiv, Nat.reduceEqDiff, Nat.reduceBEq, Nat.reduceLeDiff, ↓reduceIte, reduceCtorEq, Int.reduceAdd, Int.reduceSub, Int.reduceLT, Int.reduceLE, Int.reduceBEq, Int.reduceEq, Int.reduceToNat, undefV, x1', x2, x3, r2, y1', y2, y3, r3, l1, l3, t1, t2, r1, ↓hL]
    refine GLoop.inv hm (fun k f g => f.mks = [] ∧ f.tm.n = 36 ∧ f.tm.get 0 = some (.yield l) ∧ f.tm.get 20 = some (.agg L) ∧ ∃ p : Nat, p + k = 32 ∧ f.tm.get 21 = some (.int .i64 p) ∧ I p g) 32 ?_ ?_
    · exact ⟨rfl, rfl, by simp -implicitDefEqProofs (disch := (first | omega | (simp -implicitDefEqProofs only [szs, ne_eq] <;> omega) | fail)) only [go_sem, Nat.reduceAdd, Nat.reduceSub, Nat.reduceMul, Nat.reduceLT, Nat.reduceMod, Nat.reduceDiv, Nat.reduceEqDiff, Nat.reduceBEq, Nat.reduceLeDiff, ↓reduceIte, reduceCtorEq, Int.reduceAdd, Int.reduceSub, Int.reduceLT, Int.reduceLE, Int.reduceBEq, Int.reduceEq, Int.reduceToNat], by simp -implicitDefEqProofs (disch := (first | omega | (simp -implicitDefEqProofs only [szs, ne_eq] <;> omega) | fail)) only [go_sem, Nat.reduceAdd, Nat.reduceSub, Nat.reduceMul, Nat.reduceLT, Nat.reduceMod, Nat.reduceDiv, Nat.reduceEqDiff, Nat.reduceBEq, Nat.reduceLeDiff, ↓reduceIte, reduceCtorEq, Int.reduceAdd, Int.reduceSub, Int.reduceLT, Int.reduceLE, Int.reduceBEq, Int.reduceEq, Int.reduceToNat], 0, by omega, by simp -implicitDefEqProofs (disch := (first | omega | (simp -implicitDefEqProofs only [szs, ne_eq] <;> omega) | fail)) only [go_sem, Nat.reduceAdd, Nat.reduceSub, Nat.reduceMul, Nat.reduceLT, Nat.reduceMod, Nat.reduceDiv, Nat.reduceEqDiff, Nat.reduceBEq, Nat.reduceLeDiff, ↓reduceIte, reduceCtorEq, Int.reduceAdd, Int.reduceSub, Int.reduceLT, Int.reduceLE, Int.reduceBEq, Int.reduceEq, Int.reduceToNat]; rfl, hI1⟩
    rintro k ⟨⟨n', tr⟩, mks⟩ g ⟨hmk, hn', t0, t20, p, hpk, t21, hI⟩
    simp only [Tm.get_mk] at hmk hn' t0 t20 t21
    subst hmk hn'
    by_cases hp : p < 32
    · have l2 : (p : Int) < ((32 : Nat) : Int) := by omega
      have l4 : (0 : Int) ≤ (p : Int) := by omega
      have hcell := t4 a p (by unfold okS at hs; omega) hp
      have hidx : indexV Try.prog 60 (.agg L) (p : Int) = some (.agg [.bool (T a p).isSome, .int .i64 (T a p).f, .int .i64 (T a p).r, .bool (T a p).t, .bool (T a p).w]) := by
        have hpart : partV Try.prog 59 L (p * 5) = some (.agg ((L.drop (p * 5)).take 5)) := by
          simp only [partV, ag_59, sz_59]
        have e : (L.drop (p * 5)).take 5 = [.bool (T a p).isSome, .int .i64 (T a p).f, .int .i64 (T a p).r, .bool (T a p).t, .bool (T a p).w] := by
          rw [← hL, gets_drop _ _ _ (by omega), gets_take _ _ _ (by omega)]
          obtain ⟨c0, c1, c2, c3, c4⟩ := hcell
          rw [← c0, ← c1, ← c2, ← c3, ← c4]
          rfl
        simp only [indexV, Try.underlying60, sz_59]
        rw [if_pos ⟨l4, l2⟩, Int.toNat_natCast, hpart, e]
      have hgc : getC T (a : Int) (p : Int) = T a p := by rw [getC, if_pos ⟨hs, l4, l2⟩, Int.toNat_natCast, Int.toNat_natCast]
      cases hT : T a p with
      | none =>
        rw [hT] at hidx
        simp only [Option.isSome_none] at hidx
        have hgn := hn p g hI
        simp -implicitDefEqProofs (disch := (first | omega | (simp -implicitDefEqProofs only [szs, ne_eq] <;> omega) | fail)) only [go_sem, Nat.reduceAdd, Nat.reduceSub, Nat.reduceMul, Nat.reduceLT, Nat.reduceMod, Nat.reduceDiv, Nat.reduceEqDiff, Nat.reduceBEq, Nat.reduceLeDiff, ↓reduceIte, reduceCtorEq, Int.reduceAdd, Int.reduceSub, Int.reduceLT, Int.reduceLE, Int.reduceBEq, Int.reduceEq, Int.reduceToNat, ir57_l0, t0, t20, t21, ↓hidx]
        exact ⟨.inl hgn, .inl hgn, k - 1, by omega, p + 1, by omega, by simp, hskip p _ hp (by rw [hgc]; exact hT) (hkeep _ _ _ hI (by simp) fun b hb => by rw [w_set_ne (by simp) (by omega), w_push_ne (by omega)])⟩
      | some e =>
        rw [hT] at hidx
        simp only [Option.isSome_some] at hidx
        have hgn := hn p g hI
        simp -implicitDefEqProofs (disch := (first | omega | (simp -implicitDefEqProofs only [szs, ne_eq] <;> omega) | fail)) only [go_sem, Nat.reduceAdd, Nat.reduceSub, Nat.reduceMul, Nat.reduceLT, Nat.reduceMod, Nat.reduceDiv, Nat.reduceEqDiff, Nat.reduceBEq, Nat.reduceLeDiff, ↓reduceIte, reduceCtorEq, Int.reduceAdd, Int.reduceSub, Int.reduceLT, Int.reduceLE, Int.reduceBEq, Int.reduceEq, Int.reduceToNat, ir57_l0, t0, t20, t21, ↓hidx]
        refine ⟨.inl hgn, .inl hgn, .inl hgn, GYield.of (hround p e _ hp (by rw [hgc]; exact hT) (hkeep _ _ _ hI (by simp) fun b hb => by rw [w_set_ne (by simp) (by omega), w_push_ne (by omega)])) ?_⟩
        rintro v g3 (⟨rfl, hI3⟩ | ⟨rfl, hJ⟩)
        · simp -implicitDefEqProofs (disch := (first | omega | (simp -implicitDefEqProofs only [szs, ne_eq] <;> omega) | fail)) only [go_sem, Nat.reduceAdd, Nat.reduceSub, Nat.reduceMul, Nat.reduceLT, Nat.reduceMod, Nat.reduceDiv, Nat.reduceEqDiff, Nat.reduceBEq, Nat.reduceLeDiff, ↓reduceIte, reduceCtorEq, Int.reduceAdd, Int.reduceSub, Int.reduceLT, Int.reduceLE, Int.reduceBEq, Int.reduceEq, Int.reduceToNat, t0, t20, t21]
          exact ⟨k - 1, by omega, p + 1, by omega, by simp, hI3⟩
        · simp -implicitDefEqProofs (disch := (first | omega | (simp -implicitDefEqProofs only [szs, ne_eq] <;> omega) | fail)) only [go_sem, Nat.reduceAdd, Nat.reduceSub, Nat.reduceMul, Nat.reduceLT, Nat.reduceMod, Nat.reduceDiv, Nat.reduceEqDiff, Nat.reduceBEq, Nat.reduceLeDiff, ↓reduceIte, reduceCtorEq, Int.reduceAdd, Int.reduceSub, Int.reduceLT, Int.reduceLE, Int.reduceBEq, Int.reduceEq, Int.reduceToNat, t0, t20, t21]
          exact .inr hJ
    · obtain rfl : p = 32 := by omega
      simp -implicitDefEqProofs (disch := (first | omega | (simp -implicitDefEqProofs only [szs, ne_eq] <;> omega) | fail)) only [go_sem, Nat.reduceAdd, Nat.reduceSub, Nat.reduceMul, Nat.reduceLT, Nat.reduceMod, Nat.reduceDiv, Nat.reduceEqDiff, Nat.reduceBEq, Nat.reduceLeDiff, ↓reduceIte, reduceCtorEq, Int.reduceAdd, Int.reduceSub, Int.reduceLT, Int.reduceLE, Int.reduceBEq, Int.reduceEq, Int.reduceToNat, ir57_l0, t0, t20, t21]
      exact .inl hI
  · rw [decide_eq_false hs]
    have key : ∀ p, p ≤ 32 → I p g1 := fun p => by
      induction p with
      | zero => exact fun _ => hI1
      | succ p ih => exact fun hp => hskip p g1 (by omega) (if_neg fun h => hs h.1) (ih (by omega))
    simp -implicitDefEqProofs (disch := (first | omega | (simp -implicitDefEqProofs only [szs, ne_eq] <;> omega) | fail)) only [go_sem, Nat.reduceAdd, Nat.reduceSub, Nat.reduceMul, Nat.reduceLT, Nat.reduceMod, Nat.reduceDiv, Nat.reduceEqDiff, Nat.reduceBEq, Nat.reduceLeDiff, ↓reduceIte, reduceCtorEq, Int.reduceAdd, Int.reduceSub, Int.reduceLT, Int.reduceLE, Int.reduceBEq, Int.reduceEq, Int.reduceToNat, undefV]
    exact .inl (key 32 (Nat.le_refl _))
/-- A range over a space's pages, in what follows it: each round's own code (the variables' and the body's) is the caller's. -/
theorem range57 {R W : Set'} {Q : Ex → Fr → Heap → Prop} {og : Operand} {ka kb : Code} {ca cb : LC} {t : List It} {f : Fr} {h : Heap} {tb r bt bs : Nat} {T : Tb} {s : Int} {P1 P2 : Tmp} (W2 : Set') (K : Nat → Heap → Prop) (E : Ex → Heap → Prop)
    (hg : evV f.tm og = some (.func 57 [] [.ptr (some (bt, 0)), .ptr (some (bs, 0))]))
    (ht : TabAt h tb r T) (h1 : ∃ c, h.get bt = some (.cells c 23) ∧ c.size = 1 ∧ c.get 0 = .ptr (some (tb, 0))) (h2 : ∃ c, h.get bs = some (.cells c 3) ∧ c.size = 1 ∧ c.get 0 = .int .i64 s)
    (hR : ∀ b, h.n ≤ b ∨ b = tb ∨ b = bt ∨ b = bs → R b) (hW : ∀ b, h.n ≤ b ∨ W2 b → W b) (hK0 : K 0 h)
    (hskip : ∀ (p : Nat) g, p < 32 → getC T s p = none → K p g → K (p + 1) g)
    (hkeep : ∀ p g g', K p g → g.n ≤ g'.n → (∀ b, b < g.n → b ≠ h.n → b ≠ h.n + 1 → g'.get b = g.get b) → K p g')
    (hE : ∀ e g g', E e g → g.n ≤ g'.n → (∀ b, b < g.n → b ≠ h.n → b ≠ h.n + 1 → g'.get b = g.get b) → E e g')
    (ha : Vm.low ka = ca) (hb : Vm.low kb = cb)
    (hround : ∀ (R' W' : Set') (Q1 : Ex → Fr → Heap → Prop) (p : Nat) (e : En) (g : Heap) (tm : Tm), setPs f.tm [P1, P2] [.int .i64 (p : Int), Ce.v (some e)] = some tm → (∀ b, R b → R' b) → (∀ b, h.n + 2 ≤ b → R' b) → (∀ b, h.n + 2 ≤ b → W' b) → (∀ b, W2 b → W' b) → p < 32 → getC T s p = some e → K p g → h.n + 2 ≤ g.n → g.get h.n = some (.deferred true) → (∃ o, g.get (h.n + 1) = some (.loop o)) →
      (∀ f1 h1, g.n ≤ h1.n → h1.get h.n = g.get h.n → h1.get (h.n + 1) = g.get (h.n + 1) → (∀ (Q' : Ex → Fr → Heap → Prop) h1', h1'.n = h1.n → (∀ b, b ≠ h.n + 1 → h1'.get b = h1.get b) → h1'.get h.n = some (.deferred true) → (∃ o, h1'.get (h.n + 1) = some (.loop o)) →
          (∀ f2 h2, h1'.n ≤ h2.n → h2.get h.n = h1'.get h.n → h2.get (h.n + 1) = h1'.get (h.n + 1) → K (p + 1) h2 → Q' .norm f2 h2) →
          (∀ e f2 h2, e ≠ .norm → h1'.n ≤ h2.n → h2.get h.n = h1'.get h.n → h2.get (h.n + 1) = h1'.get (h.n + 1) → E e h2 → Q' e f2 h2) → GO ⟨Try.prog, true⟩ R' W' (some (h.n + 1)) Q' [.code cb] f1 h1') → Q1 .norm f1 h1) →
      GO ⟨Try.prog, true⟩ R' W' (some (h.n + 1)) Q1 [.code ca] ⟨tm, []⟩ g)
    (hend : ∀ g, K 32 g → h.n + 2 ≤ g.n → g.get h.n = some (.deferred true) → GO ⟨Try.prog, true⟩ R W none Q t ⟨f.tm, h.n :: f.mks⟩ g)
    (hexit : ∀ e g, E e g → e ≠ .norm → h.n + 2 ≤ g.n → g.get h.n = some (.deferred true) → resume ⟨Try.prog, true⟩ R W none Q t e ⟨f.tm, h.n :: f.mks⟩ g) :
    GRange ⟨Try.prog, true⟩ R W none Q og #[P1, P2] ka kb t f h := by
  refine GRange.outer (k := 57) (xs := []) (ys := [.ptr (some (bt, 0)), .ptr (some (bs, 0))]) hg ca_57 ?_
  obtain ⟨h0, e0, n0, d0, l0, k0⟩ : ∃ h0, ((h.push (.deferred true)).push (.loop ⟨.ready, none, f.tm, [P1, P2], ka, kb, h.n⟩)) = h0 ∧ h0.n = h.n + 2 ∧ h0.get h.n = some (.deferred true) ∧ h0.get (h.n + 1) = some (.loop ⟨.ready, none, f.tm, [P1, P2], ka, kb, h.n⟩) ∧ ∀ b, b < h.n → h0.get b = h.get b :=
    ⟨_, rfl, by simp, by rw [w_push_ne (by simp), w_push_eq rfl], w_push_eq (by simp) _, fun b hb => by rw [w_push_ne (by simp; omega), w_push_ne (by omega)]⟩
  rw [e0]
  obtain ⟨c1, x1, x2⟩ := h1
  obtain ⟨c2, y1, y2⟩ := h2
  have lb1 := Heap.lt_of_get x1
  have lb2 := Heap.lt_of_get y1
  refine SF.mono (SF.foot (seq57 (l := h.n + 1) (Rr := R) (W := fun b => W2 b ∨ b = h.n + 1) (bt := bt) (bs := bs) (s := s)
    (fun p g => h.n + 2 ≤ g.n ∧ g.get h.n = some (.deferred true) ∧ g.get (h.n + 1) = some (.loop ⟨.ready, none, f.tm, [P1, P2], ka, kb, h.n⟩) ∧ K p g)
    (fun g => h.n + 2 ≤ g.n ∧ g.get h.n = some (.deferred true) ∧ ∃ e : Ex, e ≠ .norm ∧ g.get (h.n + 1) = some (.loop ⟨.done, e.jump, f.tm, [P1, P2], ka, kb, h.n⟩) ∧ E e g)
    (ht.old k0) ⟨c1, by rw [k0 _ lb1]; exact x1, x2⟩ ⟨c2, by rw [k0 _ lb2]; exact y1, y2⟩ (fun b hb => hR b (.inr hb))
    ⟨by omega, d0, l0, hkeep _ _ _ hK0 (by omega) fun b hb _ _ => k0 b hb⟩
    (fun p g g' ⟨i1, i2, i3, i4⟩ j1 j2 => ⟨by omega, by rw [j2 _ (by omega)]; exact i2, by rw [j2 _ (by omega)]; exact i3, hkeep _ _ _ i4 j1 fun b hb _ _ => j2 b hb⟩)
    (fun p g hp hn ⟨i1, i2, i3, i4⟩ => ⟨i1, i2, i3, hskip p g hp hn i4⟩) (fun p g ⟨i1, _⟩ => by omega) ?_) (fun b hb => hb) (fun b hb => ?_)) ?_
  · rintro p e g hp hc ⟨i1, i2, i3, i4⟩
    obtain ⟨tm, htm⟩ : ∃ tm, setPs f.tm [P1, P2] [.int .i64 (p : Int), Ce.v (some e)] = some tm := ⟨_, rfl⟩
    refine SY.go hm i3 (.inr (hR _ (.inl (by omega)))) (.inr (.inr rfl)) htm ha hb ?_
    have jn : ∀ e : Ex, e ≠ .norm → e.jump.isNone = false := fun e he => by cases e <;> first | exact absurd rfl he | rfl
    refine hround _ _ _ p e g tm htm (fun b hb => .inr hb) (fun b hb => .inr (hR b (.inl (by omega)))) (fun b hb => .inl (by omega)) (fun b hb => .inr (.inl hb)) hp hc i4 i1 i2 ⟨_, i3⟩ (fun f1 h1 m1 m2 m3 hb => ?_)
    have i3' := m3.trans i3
    have i2' := m2.trans i2
    have lh1 := Heap.lt_of_get i3'
    refine ⟨rfl, _, i3', rfl, hb _ _ (by rw [Heap.n_set]) (fun b hb => w_set_ne lh1 hb _) (by rw [w_set_ne lh1 (by omega)]; exact i2') ⟨_, w_set_eq lh1 rfl _⟩ (fun f2 h2 q1 q2 q3 q4 => ?_) (fun e f2 h2 q0 q1 q2 q3 q4 => ?_)⟩
    · rw [Heap.n_set] at q1
      rw [w_set_eq lh1 rfl] at q3
      rw [w_set_ne lh1 (by omega), i2'] at q2
      refine ⟨_, q3, .inl ⟨rfl, by rw [Heap.n_set]; omega, by rw [w_set_ne (by omega) (by omega)]; exact q2, w_set_eq (by omega) rfl _, hkeep _ _ _ q4 (by rw [Heap.n_set]; omega) fun b _ _ h3 => w_set_ne (by omega) h3 _⟩⟩
    · rw [Heap.n_set] at q1
      rw [w_set_eq lh1 rfl] at q3
      rw [w_set_ne lh1 (by omega), i2'] at q2
      have hj := jn e q0
      refine ⟨_, q3, .inr ⟨by rw [hj], by rw [Heap.n_set]; omega, by rw [w_set_ne (by omega) (by omega)]; exact q2, e, q0, by rw [w_set_eq (by omega) rfl, hj]; rfl, hE _ _ _ q4 (by rw [Heap.n_set]; omega) fun b _ _ h3 => w_set_ne (by omega) h3 _⟩⟩
  · rcases hb with hb | rfl
    · exact hW b (.inr hb)
    · exact hW _ (.inl (by omega))
  · rintro v g (⟨i1, i2, i3, i4⟩ | ⟨i1, i2, e, he, i3, i4⟩)
    · refine ⟨_, i3, by simp, hW _ (.inl (by omega)), ?_⟩
      exact hend _ (hkeep _ _ _ i4 (by rw [Heap.n_set]; omega) fun b _ _ h3 => w_set_ne (by omega) h3 _) (by rw [Heap.n_set]; omega) (by rw [w_set_ne (by omega) (by omega)]; exact i2)
    · refine ⟨_, i3, by simp, hW _ (.inl (by omega)), ?_⟩
      have hx := hexit e _ (hE _ _ (g.set (h.n + 1) (.loop ⟨.exhausted, e.jump, f.tm, [P1, P2], ka, kb, h.n⟩)) i4 (by rw [Heap.n_set]; omega) fun b _ _ h3 => w_set_ne (by omega) h3 _) he (by rw [Heap.n_set]; omega) (by rw [w_set_ne (by omega) (by omega)]; exact i2)
      cases e with
      | norm => exact absurd rfl he
      | ret => rw [resume_ret] at hx; exact hx
      | exit id => exact hx
end Go.Proofs.Ytkfhdaimememiaa
