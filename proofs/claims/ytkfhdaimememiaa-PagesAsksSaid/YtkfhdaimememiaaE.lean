/- Tables of pages: Space, Share. -/
import Derived.Test.YtkfhdaimememiaaD
set_option linter.unusedVariables false
set_option linter.unusedSimpArgs false
set_option linter.unusedSimpArgs false
set_option maxRecDepth 100000
set_option linter.unusedVariables false
set_option linter.unusedSimpArgs false
namespace Go.Proofs.Ytkfhdaimememiaa
open Go Go.Vm
/-- Entries are frames with rights. -/
def WT (T : Tb) : Prop := ∀ s p e, T s p = some e → okF e.f ∧ 0 ≤ e.r ∧ e.r ≤ 7
theorem space_ok {h : Heap} {R W : Set'} {p : Option (Nat × Nat)} {s : Int} : SF Try.prog 49 [.ptr p, .int .i64 s] h R W fun v h' => v = .func 57 [] [.ptr (some (h.n, 0)), .ptr (some (h.n + 1, 0))] ∧ h'.n = h.n + 2 ∧ (∃ c, h'.get h.n = some (.cells c 23) ∧ c.size = 1 ∧ c.get 0 = .ptr p) ∧ (∃ c, h'.get (h.n + 1) = some (.cells c 3) ∧ c.size = 1 ∧ c.get 0 = .int .i64 s) ∧ ∀ b, b < h.n → h'.get b = h.get b := by
  refine SF.go hm Try.func49 ir49_eq ?_
  have e : ∃ h2, (h.push (O.cells (Blk.of [V.ptr p]) 23)).push (O.cells (Blk.of [V.int IntKind.i64 s]) 3) = h2 ∧ h2.n = h.n + 2 ∧ (∃ c, h2.get h.n = some (.cells c 23) ∧ c.size = 1 ∧ c.get 0 = .ptr p) ∧ (∃ c, h2.get (h.n + 1) = some (.cells c 3) ∧ c.size = 1 ∧ c.get 0 = .int .i64 s) ∧ ∀ b, b < h.n → h2.get b = h.get b :=
    ⟨_, rfl, by simp, ⟨_, by rw [w_push_ne (by simp), w_push_eq rfl], rfl, rfl⟩, ⟨_, w_push_eq (by simp) _, rfl, rfl⟩, fun b hb => by rw [w_push_ne (by simp; omega), w_push_ne (by omega)]⟩
  obtain ⟨h2, e1, e2, e3, e4, e5⟩ := e
  simp -implicitDefEqProofs (disch := (first | omega | (simp -implicitDefEqProofs only [szs, ne_eq] <;> omega) | fail)) only [go_sem, Nat.reduceAdd, Nat.reduceSub, Nat.reduceMul, Nat.reduceLT, Nat.reduceMod, Nat.reduceDiv, Nat.reduceEqDiff, Nat.reduceBEq, Nat.reduceLeDiff, ↓reduceIte, reduceCtorEq, Int.reduceAdd, Int.reduceSub, Int.reduceLT, Int.reduceLE, Int.reduceBEq, Int.reduceEq, Int.reduceToNat, ir49, e1]
  exact ⟨e2, e3, e4, e5⟩
def cntU (T : Tb) (s p : Nat) : Nat := ((List.range p).filter fun b => (T s b).isSome).length
theorem cntU_succ (T : Tb) (s p : Nat) : cntU T s (p + 1) = cntU T s p + if (T s p).isSome then 1 else 0 := by
  unfold cntU
  rw [List.range_succ, List.filter_append, List.length_append]
  cases h : (T s p).isSome <;> simp [List.filter_cons, h]
theorem cntU_le (T : Tb) (s p : Nat) : cntU T s p ≤ p := by
  have := List.length_filter_le (fun b => (T s b).isSome) (List.range p)
  rw [List.length_range] at this
  exact this
/-- What Share has done so far. -/
def shU (T : Tb) (f t p : Nat) : Tb := fun a b => if a = t ∧ b < p ∧ (T f b).isSome then (T f b).map fun e => ⟨e.f, e.r, false, false⟩ else T a b
theorem shU_zero (T : Tb) (f t : Nat) : shU T f t 0 = T := by funext a b; simp [shU]
theorem shU_none {T : Tb} {f t p : Nat} (h : T f p = none) : shU T f t (p + 1) = shU T f t p := by
  funext a b
  unfold shU
  by_cases hb : b = p
  · subst hb; simp [h]
  · have : b < p + 1 ↔ b < p := by omega
    simp only [this]
theorem shU_some {T : Tb} {f t p : Nat} {e : En} (h : T f p = some e) : shU T f t (p + 1) = (shU T f t p).upd t p (some ⟨e.f, e.r, false, false⟩) := by
  funext a b
  unfold shU Tb.upd
  by_cases hb : b = p
  · subst hb
    by_cases ha : a = t
    · simp [ha, h]
    · simp [ha]
  · have : b < p + 1 ↔ b < p := by omega
    simp only [this, hb, and_false, if_false]
theorem cntU_zero {T : Tb} {s : Nat} : ∀ {n : Nat}, cntU T s n = 0 ↔ ∀ p, p < n → T s p = none
  | 0 => ⟨fun _ p hp => by omega, fun _ => rfl⟩
  | n + 1 => by
    rw [cntU_succ]
    constructor
    · intro h p hp
      have h1 : cntU T s n = 0 := by omega
      by_cases e : p = n
      · subst e
        cases hT : T s p with
        | none => rfl
        | some x => rw [hT] at h; simp at h
      · exact cntU_zero.1 h1 p (by omega)
    · intro h
      rw [cntU_zero.2 fun p hp => h p (by omega), h n (by omega)]
      rfl
/-- What Share answers, and leaves. -/
def shrE (T : Tb) (f t : Int) : Int := if ¬ (okS f ∧ okS t) ∨ f = t then 2 else if cntU T t.toNat 32 = 0 then 0 else 7
def shrN (T : Tb) (f t : Int) : Int := if shrE T f t = 0 then cntU T f.toNat 32 else 0
def shrT (T : Tb) (f t : Int) : Tb := if shrE T f t = 0 then shU T f.toNat t.toNat 32 else T
set_option maxHeartbeats 4000000 in
theorem share_ok {h : Heap} {R W : Set'} {tb r : Nat} {T : Tb} (ht : TabAt h tb r T) (w : WT T) (hR : ∀ b, b = tb ∨ b = r → R b) (hW : ∀ b, b = tb ∨ b = r → W b) (fr to : Int) :
    SF ⟨Try.prog, true⟩ 24 [.ptr (some (tb, 0)), .int .i64 fr, .int .i64 to] h R W fun v h' => v = .tuple [.int .i64 (shrN T fr to), .int .i64 (shrE T fr to)] ∧ TabAt h' tb r (shrT T fr to) := by
  have hlt := ht.lt
  have hR1 := hR tb (.inl rfl)
  have hR2 := hR r (.inr rfl)
  refine SF.go hm Try.func24 ir24_eq ?_
  obtain ⟨h1, e1, n1, b1, b2, b3, b4, k1⟩ : ∃ h1, (((h.push (O.cells (Blk.of [V.ptr (some (tb, 0))]) 23)).push (O.cells (Blk.of [V.int IntKind.i64 to]) 3)).push (O.cells (Blk.of [V.int IntKind.i64 0]) 3)).push (O.cells (Blk.of [V.int IntKind.i64 0]) 42) = h1 ∧ h1.n = h.n + 4 ∧ h1.get h.n = some (O.cells (Blk.of [V.ptr (some (tb, 0))]) 23) ∧ h1.get (h.n + 1) = some (O.cells (Blk.of [V.int IntKind.i64 to]) 3) ∧ h1.get (h.n + 1 + 1) = some (O.cells (Blk.of [V.int IntKind.i64 0]) 3) ∧ h1.get (h.n + 1 + 1 + 1) = some (O.cells (Blk.of [V.int IntKind.i64 0]) 42) ∧ ∀ b, b < h.n → h1.get b = h.get b :=
    ⟨_, rfl, by simp, by simp -implicitDefEqProofs (disch := (first | omega | (simp -implicitDefEqProofs only [szs, ne_eq] <;> omega) | fail)) only [go_sem, Nat.reduceAdd, Nat.reduceSub, Nat.reduceMul, Nat.reduceLT, Nat.reduceMod, Nat.reduceDiv, Nat.reduceEqDiff, Nat.reduceBEq, Nat.reduceLeDiff, ↓reduceIte, reduceCtorEq, Int.reduceAdd, Int.reduceSub, Int.reduceLT, Int.reduceLE, Int.reduceBEq, Int.reduceEq, Int.reduceToNat], by simp -implicitDefEqProofs (disch := (first | omega | (simp -implicitDefEqProofs only [szs, ne_eq] <;> omega) | fail)) only [go_sem, Nat.reduceAdd, Nat.reduceSub, Nat.reduceMul, Nat.reduceLT, Nat.reduceMod, Nat.reduceDiv, Nat.reduceEqDiff, Nat.reduceBEq, Nat.reduceLeDiff, ↓reduceIte, reduceCtorEq, Int.reduceAdd, Int.reduceSub, Int.reduceLT, Int.reduceLE, Int.reduceBEq, Int.reduceEq, Int.reduceToNat], by simp -implicitDefEqProofs (disch := (first | omega | (simp -implicitDefEqProofs only [szs, ne_eq] <;> omega) | fail)) only [go_sem, Nat.reduceAdd, Nat.reduceSub, Nat.reduceMul, Nat.reduceLT, Nat.reduceMod, Nat.reduceDiv, Nat.reduceEqDiff, Nat.reduceBEq, Nat.reduceLeDiff, ↓reduceIte, reduceCtorEq, Int.reduceAdd, Int.reduceSub, Int.reduceLT, Int.reduceLE, Int.reduceBEq, Int.reduceEq, Int.reduceToNat], by simp -implicitDefEqProofs (disch := (first | omega | (simp -implicitDefEqProofs only [szs, ne_eq] <;> omega) | fail)) only [go_sem, Nat.reduceAdd, Nat.reduceSub, Nat.reduceMul, Nat.reduceLT, Nat.reduceMod, Nat.reduceDiv, Nat.reduceEqDiff, Nat.reduceBEq, Nat.reduceLeDiff, ↓reduceIte, reduceCtorEq, Int.reduceAdd, Int.reduceSub, Int.reduceLT, Int.reduceLE, Int.reduceBEq, Int.reduceEq, Int.reduceToNat], fun b hb => by simp -implicitDefEqProofs (disch := (first | omega | (simp -implicitDefEqProofs only [szs, ne_eq] <;> omega) | fail)) only [go_sem, Nat.reduceAdd, Nat.reduceSub, Nat.reduceMul, Nat.reduceLT, Nat.reduceMod, Nat.reduceDiv, Nat.reduceEqDiff, Nat.reduceBEq, Nat.reduceLeDiff, ↓reduceIte, reduceCtorEq, Int.reduceAdd, Int.reduceSub, Int.reduceLT, Int.reduceLE, Int.reduceBEq, Int.reduceEq, Int.reduceToNat]⟩
  simp -implicitDefEqProofs (disch := (first | omega | (simp -implicitDefEqProofs only [szs, ne_eq] <;> omega) | fail)) only [go_sem, Nat.reduceAdd, Nat.reduceSub, Nat.reduceMul, Nat.reduceLT, Nat.reduceMod, Nat.reduceDiv, Nat.reduceEqDiff, Nat.reduceBEq, Nat.reduceLeDiff, ↓reduceIte, reduceCtorEq, Int.reduceAdd, Int.reduceSub, Int.reduceLT, Int.reduceLE, Int.reduceBEq, Int.reduceEq, Int.reduceToNat, ir24, e1, b1]
  clear e1
  have ht1 := ht.old k1
  refine GCall.of (there_ok ht1 (.inr hR1)).any ?_
  rintro v h1 ⟨rfl, rfl⟩
  have hR2' : h.n ≤ h.n + 1 ∨ R (h.n + 1) := .inl (by omega)
  simp -implicitDefEqProofs (disch := (first | omega | (simp -implicitDefEqProofs only [szs, ne_eq] <;> omega) | fail)) only [go_sem, Nat.reduceAdd, Nat.reduceSub, Nat.reduceMul, Nat.reduceLT, Nat.reduceMod, Nat.reduceDiv, Nat.reduceEqDiff, Nat.reduceBEq, Nat.reduceLeDiff, ↓reduceIte, reduceCtorEq, Int.reduceAdd, Int.reduceSub, Int.reduceLT, Int.reduceLE, Int.reduceBEq, Int.reduceEq, Int.reduceToNat, undefV, b2, hR2']
  refine GCall.of (space2_ok fr to (.inl (by omega))).any ?_
  rintro v g2 ⟨rfl, rfl⟩
  obtain ⟨g2, e2, n2, k2⟩ : ∃ g, h1.push (O.cells (Blk.of [V.int IntKind.i64 fr, V.int IntKind.i64 to]) 3) = g ∧ g.n = h1.n + 1 ∧ ∀ b, b < h1.n → g.get b = h1.get b := ⟨_, rfl, by simp, fun b hb => w_push_ne (by omega) _⟩
  rw [e2]
  have ht2 := ht1.old k2
  have c1 := (k2 h.n (by omega)).trans b1
  have c2 := (k2 (h.n + 1) (by omega)).trans b2
  have c3 := (k2 (h.n + 1 + 1) (by omega)).trans b3
  have c4 := (k2 (h.n + 1 + 1 + 1) (by omega)).trans b4
  by_cases hs : okS fr ∧ okS to
  · rw [decide_eq_true hs]
    by_cases hft : fr = to
    · have e : shrE T fr to = 2 := if_pos (.inr hft)
      rw [shrN, shrT, e]
      subst hft
      simp -implicitDefEqProofs (disch := (first | omega | (simp -implicitDefEqProofs only [szs, ne_eq] <;> omega) | fail)) only [go_sem, Nat.reduceAdd, Nat.reduceSub, Nat.reduceMul, Nat.reduceLT, Nat.reduceMod, Nat.reduceDiv, Nat.reduceEqDiff, Nat.reduceBEq, Nat.reduceLeDiff, ↓reduceIte, reduceCtorEq, Int.reduceAdd, Int.reduceSub, Int.reduceLT, Int.reduceLE, Int.reduceBEq, Int.reduceEq, Int.reduceToNat, undefV, c2, c3, c4, hR2']
      exact ⟨.inl (by omega), .inl (by omega), ⟨.inl (by omega), .inl (by omega)⟩, ht2.same fun b hb => by rw [w_set_ne (by rw [Heap.n_set]; omega) (by omega), w_set_ne (by omega) (by omega)]⟩
    · have hne : (fr == to) = false := by simpa using hft
      simp -implicitDefEqProofs (disch := (first | omega | (simp -implicitDefEqProofs only [szs, ne_eq] <;> omega) | fail)) only [go_sem, Nat.reduceAdd, Nat.reduceSub, Nat.reduceMul, Nat.reduceLT, Nat.reduceMod, Nat.reduceDiv, Nat.reduceEqDiff, Nat.reduceBEq, Nat.reduceLeDiff, ↓reduceIte, reduceCtorEq, Int.reduceAdd, Int.reduceSub, Int.reduceLT, Int.reduceLE, Int.reduceBEq, Int.reduceEq, Int.reduceToNat, undefV, c1, c2, c3, c4, hR2', hne]
      refine GCall.of space_ok.any ?_
      rintro v g3 ⟨rfl, n3, s1, s2, k3⟩
      have ht3 := ht2.old k3
      have d1 := (k3 h.n (by omega)).trans c1
      have d2 := (k3 (h.n + 1) (by omega)).trans c2
      have d3 := (k3 (h.n + 1 + 1) (by omega)).trans c3
      have d4 := (k3 (h.n + 1 + 1 + 1) (by omega)).trans c4
      obtain ⟨f0, t0, rfl, rfl, hf0, ht0⟩ := nat_of (s := fr) (p := to) ⟨hs.1, by have h := hs.2; unfold okS at h; omega⟩
      simp -implicitDefEqProofs (disch := (first | omega | (simp -implicitDefEqProofs only [szs, ne_eq] <;> omega) | fail)) only [go_sem, Nat.reduceAdd, Nat.reduceSub, Nat.reduceMul, Nat.reduceLT, Nat.reduceMod, Nat.reduceDiv, Nat.reduceEqDiff, Nat.reduceBEq, Nat.reduceLeDiff, ↓reduceIte, reduceCtorEq, Int.reduceAdd, Int.reduceSub, Int.reduceLT, Int.reduceLE, Int.reduceBEq, Int.reduceEq, Int.reduceToNat]
      refine range57 (tb := tb) (r := r) (bt := g2.n) (bs := g2.n + 1) (T := T) (s := (t0 : Int)) (fun b => b = h.n + 1 + 1 ∨ b = h.n + 1 + 1 + 1)
        (fun p g => g3.n ≤ g.n ∧ (∀ b, b < g3.n → g.get b = g3.get b) ∧ ∀ q, q < p → T t0 q = none)
        (fun e g => e = .ret ∧ g3.n ≤ g.n ∧ (∀ b, b < h.n → g.get b = g3.get b) ∧ (∃ c, g.get (h.n + 1 + 1) = some (.cells c 3) ∧ c.size = 1 ∧ c.get 0 = .int .i64 0) ∧ (∃ c, g.get (h.n + 1 + 1 + 1) = some (.cells c 42) ∧ c.size = 1 ∧ c.get 0 = .int .i64 7) ∧ cntU T t0 32 ≠ 0)
        (by simp -implicitDefEqProofs (disch := (first | omega | (simp -implicitDefEqProofs only [szs, ne_eq] <;> omega) | fail)) only [go_sem, Nat.reduceAdd, Nat.reduceSub, Nat.reduceMul, Nat.reduceLT, Nat.reduceMod, Nat.reduceDiv, Nat.reduceEqDiff, Nat.reduceBEq, Nat.reduceLeDiff, ↓reduceIte, reduceCtorEq, Int.reduceAdd, Int.reduceSub, Int.reduceLT, Int.reduceLE, Int.reduceBEq, Int.reduceEq, Int.reduceToNat]) ht3 s1 s2 (fun b hb => by rcases hb with h | rfl | h | h <;> first | exact .inl (by omega) | exact .inr hR1) (fun b hb => .inl (by omega)) ⟨Nat.le_refl _, fun _ _ => rfl, fun q hq => by omega⟩
        (fun p g hp hn ⟨i1, i2, i3⟩ => ⟨i1, i2, fun q hq => ?_⟩) (fun p g g' ⟨i1, i2, i3⟩ j1 j2 => ⟨by omega, fun b hb => by rw [j2 b (by omega) (by omega) (by omega)]; exact i2 b hb, i3⟩)
        (fun e g g' ⟨i1, i2, i3, ⟨q1, i4, i4'⟩, ⟨q2, i5, i5'⟩, i6⟩ j1 j2 => ⟨i1, by omega, fun b hb => by rw [j2 b (by omega) (by omega) (by omega)]; exact i3 b hb, ⟨q1, by rw [j2 _ (by omega) (by omega) (by omega)]; exact i4, i4'⟩, ⟨q2, by rw [j2 _ (by omega) (by omega) (by omega)]; exact i5, i5'⟩, i6⟩)
        ir24_a0_eq ir24_b0_eq ?_ ?_ ?_
      · by_cases e : q = p
        · subst e
          rw [getC, if_pos ⟨by unfold okS at hs; omega, by omega⟩, Int.toNat_natCast, Int.toNat_natCast] at hn
          exact hn
        · exact i3 q (by omega)
      · intro R' W' Q1 p e g tm htm r1 r2 w1 w2 hp hc hK hn hd ho hmid
        simp only [setPs, Option.some.injEq] at htm
        subst htm
        simp -implicitDefEqProofs (disch := (first | omega | (simp -implicitDefEqProofs only [szs, ne_eq] <;> omega) | fail)) only [go_sem, Nat.reduceAdd, Nat.reduceSub, Nat.reduceMul, Nat.reduceLT, Nat.reduceMod, Nat.reduceDiv, Nat.reduceEqDiff, Nat.reduceBEq, Nat.reduceLeDiff, ↓reduceIte, reduceCtorEq, Int.reduceAdd, Int.reduceSub, Int.reduceLT, Int.reduceLE, Int.reduceBEq, Int.reduceEq, Int.reduceToNat, ir24_a0]
        refine hmid _ _ (Nat.le_refl _) rfl rfl fun Q' g1 e1 e2 e3 e4 hnorm hex => ?_
        have q3 := (e2 (h.n + 1 + 1) (by omega)).trans ((hK.2.1 _ (by omega)).trans d3)
        have q4 := (e2 (h.n + 1 + 1 + 1) (by omega)).trans ((hK.2.1 _ (by omega)).trans d4)
        have hw3 := w2 _ (.inl rfl)
        have hw4 := w2 _ (.inr rfl)
        simp -implicitDefEqProofs (disch := (first | omega | (simp -implicitDefEqProofs only [szs, ne_eq] <;> omega) | fail)) only [go_sem, Nat.reduceAdd, Nat.reduceSub, Nat.reduceMul, Nat.reduceLT, Nat.reduceMod, Nat.reduceDiv, Nat.reduceEqDiff, Nat.reduceBEq, Nat.reduceLeDiff, ↓reduceIte, reduceCtorEq, Int.reduceAdd, Int.reduceSub, Int.reduceLT, Int.reduceLE, Int.reduceBEq, Int.reduceEq, Int.reduceToNat, ir24_b0, q3, q4, hw3, hw4]
        have hp' : T t0 p = some e := by rw [getC, if_pos ⟨by unfold okS at hs; omega, by omega⟩, Int.toNat_natCast, Int.toNat_natCast] at hc; exact hc
        refine hex .ret _ _ (by simp) (by simp) (by rw [w_set_ne (by rw [Heap.n_set]; omega) (by omega), w_set_ne (by omega) (by omega)]) (by rw [w_set_ne (by rw [Heap.n_set]; omega) (by omega), w_set_ne (by omega) (by omega)]) ⟨rfl, by rw [Heap.n_set, Heap.n_set]; omega, fun b hb => ?_, ⟨_, by rw [w_set_ne (by rw [Heap.n_set]; omega) (by omega), w_set_eq (by omega) rfl], rfl, rfl⟩, ⟨_, w_set_eq (by rw [Heap.n_set]; omega) rfl _, rfl, rfl⟩, fun h0 => by have := cntU_zero.1 h0 p hp; rw [hp'] at this; cases this⟩
        rw [w_set_ne (by rw [Heap.n_set]; omega) (by omega), w_set_ne (by omega) (by omega), e2 b (by omega), hK.2.1 b (by omega)]
      · rintro g ⟨i1, i2, i3⟩ hn hd
        have a1 := (i2 h.n (by omega)).trans d1
        have a2 := (i2 (h.n + 1) (by omega)).trans d2
        have a3 := (i2 (h.n + 1 + 1) (by omega)).trans d3
        have a4 := (i2 (h.n + 1 + 1 + 1) (by omega)).trans d4
        obtain ⟨g4, e4, n4, b4', k4⟩ : ∃ g4, (g.push (O.cells (Blk.of [V.int IntKind.i64 0]) 3)).set g.n (O.cells ((Blk.of [V.int IntKind.i64 0]).set 0 (V.int IntKind.i64 0)) 3) = g4 ∧ g4.n = g.n + 1 ∧ g4.get g.n = some (O.cells ((Blk.of [V.int IntKind.i64 0]).set 0 (V.int IntKind.i64 0)) 3) ∧ ∀ b, b < g.n → g4.get b = g.get b := ⟨_, rfl, by simp, w_set_eq (by simp) rfl _, fun b hb => by rw [w_set_ne (by simp) (by omega), w_push_ne (by omega)]⟩
        have f1 := (k4 h.n (by omega)).trans a1
        simp -implicitDefEqProofs (disch := (first | omega | (simp -implicitDefEqProofs only [szs, ne_eq] <;> omega) | fail)) only [go_sem, Nat.reduceAdd, Nat.reduceSub, Nat.reduceMul, Nat.reduceLT, Nat.reduceMod, Nat.reduceDiv, Nat.reduceEqDiff, Nat.reduceBEq, Nat.reduceLeDiff, ↓reduceIte, reduceCtorEq, Int.reduceAdd, Int.reduceSub, Int.reduceLT, Int.reduceLE, Int.reduceBEq, Int.reduceEq, Int.reduceToNat, e4, f1]
        refine ⟨.inl (by omega), GCall.of space_ok.any ?_⟩
        rintro v g5 ⟨rfl, n5, x1, x2, k5⟩
        simp -implicitDefEqProofs (disch := (first | omega | (simp -implicitDefEqProofs only [szs, ne_eq] <;> omega) | fail)) only [go_sem, Nat.reduceAdd, Nat.reduceSub, Nat.reduceMul, Nat.reduceLT, Nat.reduceMod, Nat.reduceDiv, Nat.reduceEqDiff, Nat.reduceBEq, Nat.reduceLeDiff, ↓reduceIte, reduceCtorEq, Int.reduceAdd, Int.reduceSub, Int.reduceLT, Int.reduceLE, Int.reduceBEq, Int.reduceEq, Int.reduceToNat]
        have ht5 : TabAt g5 tb r T := ht3.same fun b hb => by rw [k5 b (by omega), k4 b (by omega), i2 b (by omega)]
        have y1 := (k5 h.n (by omega)).trans f1
        have y2 := (k5 (h.n + 1) (by omega)).trans ((k4 (h.n + 1) (by omega)).trans a2)
        have y3 := (k5 (h.n + 1 + 1) (by omega)).trans ((k4 (h.n + 1 + 1) (by omega)).trans a3)
        have y4 := (k5 (h.n + 1 + 1 + 1) (by omega)).trans ((k4 (h.n + 1 + 1 + 1) (by omega)).trans a4)
        have yb := (k5 g.n (by omega)).trans b4'
        have yd := (k5 g3.n (by omega)).trans ((k4 g3.n (by omega)).trans hd)
        have sh0 : shrE T f0 t0 = 0 := by rw [shrE, if_neg (fun h => h.elim (fun h => h hs) hft), if_pos (by rw [Int.toNat_natCast]; exact cntU_zero.2 i3)]
        have hne' : f0 ≠ t0 := fun e => hft (by rw [e])
        refine range57 (tb := tb) (r := r) (bt := g4.n) (bs := g4.n + 1) (T := T) (s := (f0 : Int)) (fun b => b = tb ∨ b = r ∨ b = g.n)
          (fun p g' => g5.n ≤ g'.n ∧ (∀ b, h.n ≤ b → b < g5.n → b ≠ g.n → g'.get b = g5.get b) ∧ TabAt g' tb r (shU T f0 t0 p) ∧ ∃ c, g'.get g.n = some (.cells c 3) ∧ c.size = 1 ∧ c.ro = false ∧ c.get 0 = .int .i64 (cntU T f0 p : Nat))
          (fun e g' => False)
          (by simp -implicitDefEqProofs (disch := (first | omega | (simp -implicitDefEqProofs only [szs, ne_eq] <;> omega) | fail)) only [go_sem, Nat.reduceAdd, Nat.reduceSub, Nat.reduceMul, Nat.reduceLT, Nat.reduceMod, Nat.reduceDiv, Nat.reduceEqDiff, Nat.reduceBEq, Nat.reduceLeDiff, ↓reduceIte, reduceCtorEq, Int.reduceAdd, Int.reduceSub, Int.reduceLT, Int.reduceLE, Int.reduceBEq, Int.reduceEq, Int.reduceToNat]) ht5 x1 x2 (fun b hb => by rcases hb with h | rfl | h | h <;> first | exact .inl (by omega) | exact .inr hR1) (fun b hb => by rcases hb with h | rfl | rfl | rfl <;> first | exact .inl (by omega) | exact .inr (hW _ (.inl rfl)) | exact .inr (hW _ (.inr rfl))) ⟨Nat.le_refl _, fun _ _ _ _ => rfl, by rw [shU_zero]; exact ht5, _, yb, rfl, rfl, rfl⟩
          (fun p g' hp hn ⟨i1, i2, i3, i4⟩ => ?_) (fun p g' g'' ⟨i1, i2, i3, ⟨q, i4, i5⟩⟩ j1 j2 => ⟨by omega, fun b h1 h2 h3 => by rw [j2 b (by omega) (by omega) (by omega)]; exact i2 b h1 h2 h3, i3.same fun b hb => j2 b (by omega) (by omega) (by omega), q, by rw [j2 _ (by omega) (by omega) (by omega)]; exact i4, i5⟩)
          (fun e g g' h => h.elim)
          ir24_a1_eq ir24_b1_eq ?_ ?_ (fun e g h => h.elim)
        · have hp0 : T f0 p = none := by rw [getC, if_pos ⟨by unfold okS at hs; omega, by omega⟩, Int.toNat_natCast, Int.toNat_natCast] at hn; exact hn
          rw [shU_none hp0, cntU_succ, hp0]
          exact ⟨i1, i2, i3, i4⟩
        · intro R' W' Q1 p e g' tm htm r1 r2 w1 w2 hp hc hK hn hd ho hmid
          have hp0 : T f0 p = some e := by rw [getC, if_pos ⟨by unfold okS at hs; omega, by omega⟩, Int.toNat_natCast, Int.toNat_natCast] at hc; exact hc
          simp only [setPs, Option.some.injEq] at htm
          subst htm
          have hlg := hn
          have hw1 := w1 g'.n (by omega)
          have hr1 := r2 g'.n (by omega)
          obtain ⟨g6, e6, n6, b6, k6⟩ : ∃ g6, (g'.push (O.cells (Blk.of [V.int IntKind.i64 0, V.int IntKind.i64 0, V.bool false, V.bool false]) 34)).set g'.n (O.cells (((((Blk.of [V.int IntKind.i64 0, V.int IntKind.i64 0, V.bool false, V.bool false]).set 0 (V.int IntKind.i64 (Ce.f (some e)))).set 1 (V.int IntKind.i64 (Ce.r (some e)))).set 2 (V.bool (Ce.t (some e)))).set 3 (V.bool (Ce.w (some e)))) 34) = g6 ∧ g6.n = g'.n + 1 ∧
            (∃ d, g6.get g'.n = some (.cells d 34) ∧ d.size = 4 ∧ d.get 0 = .int .i64 e.f ∧ d.get 1 = .int .i64 e.r) ∧ ∀ b, b < g'.n → g6.get b = g'.get b := ⟨_, rfl, by simp, ⟨_, w_set_eq (by simp) rfl _, rfl, by simp -implicitDefEqProofs (disch := (first | omega | (simp -implicitDefEqProofs only [szs, ne_eq] <;> omega) | fail)) only [go_sem, Nat.reduceAdd, Nat.reduceSub, Nat.reduceMul, Nat.reduceLT, Nat.reduceMod, Nat.reduceDiv, Nat.reduceEqDiff, Nat.reduceBEq, Nat.reduceLeDiff, ↓reduceIte, reduceCtorEq, Int.reduceAdd, Int.reduceSub, Int.reduceLT, Int.reduceLE, Int.reduceBEq, Int.reduceEq, Int.reduceToNat]; rfl, by simp -implicitDefEqProofs (disch := (first | omega | (simp -implicitDefEqProofs only [szs, ne_eq] <;> omega) | fail)) only [go_sem, Nat.reduceAdd, Nat.reduceSub, Nat.reduceMul, Nat.reduceLT, Nat.reduceMod, Nat.reduceDiv, Nat.reduceEqDiff, Nat.reduceBEq, Nat.reduceLeDiff, ↓reduceIte, reduceCtorEq, Int.reduceAdd, Int.reduceSub, Int.reduceLT, Int.reduceLE, Int.reduceBEq, Int.reduceEq, Int.reduceToNat]; rfl⟩, fun b hb => by simp -implicitDefEqProofs (disch := (first | omega | (simp -implicitDefEqProofs only [szs, ne_eq] <;> omega) | fail)) only [go_sem, Nat.reduceAdd, Nat.reduceSub, Nat.reduceMul, Nat.reduceLT, Nat.reduceMod, Nat.reduceDiv, Nat.reduceEqDiff, Nat.reduceBEq, Nat.reduceLeDiff, ↓reduceIte, reduceCtorEq, Int.reduceAdd, Int.reduceSub, Int.reduceLT, Int.reduceLE, Int.reduceBEq, Int.reduceEq, Int.reduceToNat]⟩
          simp -implicitDefEqProofs (disch := (first | omega | (simp -implicitDefEqProofs only [szs, ne_eq] <;> omega) | fail)) only [go_sem, Nat.reduceAdd, Nat.reduceSub, Nat.reduceMul, Nat.reduceLT, Nat.reduceMod, Nat.reduceDiv, Nat.reduceEqDiff, Nat.reduceBEq, Nat.reduceLeDiff, ↓reduceIte, reduceCtorEq, Int.reduceAdd, Int.reduceSub, Int.reduceLT, Int.reduceLE, Int.reduceBEq, Int.reduceEq, Int.reduceToNat, ir24_a1, Ce.v, hw1, hr1, e6]
          obtain ⟨d, b6, db, dc, dd⟩ := b6
          obtain ⟨i1, i2, hT, ⟨cb, v1, v2, v3, v4⟩⟩ := hK
          refine hmid _ _ (by omega) (k6 _ (by omega)) (k6 _ (by omega)) fun Q' g7 e1 e2 e3 e4 hnorm hex => ?_
          have z1 := (e2 h.n (by omega)).trans ((k6 _ (by omega)).trans ((i2 h.n (by omega) (by omega) (by omega)).trans y1))
          have z2 := (e2 (h.n + 1) (by omega)).trans ((k6 _ (by omega)).trans ((i2 (h.n + 1) (by omega) (by omega) (by omega)).trans y2))
          have zb := (e2 g'.n (by omega)).trans b6
          have zc := (e2 g.n (by omega)).trans ((k6 _ (by omega)).trans v1)
          have hT7 : TabAt g7 tb r (shU T f0 t0 p) := hT.same fun b hb => by rw [e2 b (by omega), k6 b (by omega)]
          have rr1 := r1 h.n (.inl (by omega))
          have rr2 := r1 (h.n + 1) (.inl (by omega))
          have rr3 := r1 g.n (.inl (by omega))
          have ww3 := w2 g.n (.inr (.inr rfl))
          simp -implicitDefEqProofs (disch := (first | omega | (simp -implicitDefEqProofs only [szs, ne_eq] <;> omega) | fail)) only [go_sem, Nat.reduceAdd, Nat.reduceSub, Nat.reduceMul, Nat.reduceLT, Nat.reduceMod, Nat.reduceDiv, Nat.reduceEqDiff, Nat.reduceBEq, Nat.reduceLeDiff, ↓reduceIte, reduceCtorEq, Int.reduceAdd, Int.reduceSub, Int.reduceLT, Int.reduceLE, Int.reduceBEq, Int.reduceEq, Int.reduceToNat, ir24_b1, z1, z2, zb, db, dc, dd, rr1, rr2, hr1]
          refine GCall.of (((put_ok (R := fun b => b = tb ∨ b = r) (W := fun b => b = tb ∨ b = r) hT7 (fun _ h => h) (fun _ h => h) (t0 : Int) (p : Int) e.f e.r).kept.any).foot (fun b hb => by rcases hb with rfl | rfl <;> first | exact r1 _ (.inr hR1) | exact r1 _ (.inr hR2)) (fun b hb => w2 b (by omega))) ?_
          rintro v g8 ⟨⟨rfl, hT8⟩, vf⟩
          have n8 := vf.n
          have zc8 := (vf.get g.n (by omega) (by omega)).trans zc
          obtain ⟨wf, wr⟩ := w _ _ _ hp0
          have hpe : putE (shU T f0 t0 p) (t0 : Int) (p : Int) e.f e.r = 0 := by
            rw [putE, if_neg (fun h => h ⟨⟨by unfold okS at hs; omega, by omega⟩, wr⟩), if_neg (fun h => h wf), Int.toNat_natCast, Int.toNat_natCast]
            have : shU T f0 t0 p t0 p = none := by unfold shU; rw [if_neg (fun h => by omega)]; exact i3 p hp
            rw [this]; rfl
          rw [putT, hpe, if_pos rfl, Int.toNat_natCast, Int.toNat_natCast, ← shU_some hp0] at hT8
          have hcl := cntU_le T f0 p
          simp -implicitDefEqProofs (disch := (first | omega | (simp -implicitDefEqProofs only [szs, ne_eq] <;> omega) | fail)) only [go_sem, Nat.reduceAdd, Nat.reduceSub, Nat.reduceMul, Nat.reduceLT, Nat.reduceMod, Nat.reduceDiv, Nat.reduceEqDiff, Nat.reduceBEq, Nat.reduceLeDiff, ↓reduceIte, reduceCtorEq, Int.reduceAdd, Int.reduceSub, Int.reduceLT, Int.reduceLE, Int.reduceBEq, Int.reduceEq, Int.reduceToNat, zc8, v2, v3, v4, rr3, ww3]
          refine hnorm _ _ (by rw [Heap.n_set]; omega) (by rw [w_set_ne (by omega) (by omega)]; exact vf.get _ (by omega) (by omega)) (by rw [w_set_ne (by omega) (by omega)]; exact vf.get _ (by omega) (by omega)) ⟨by rw [Heap.n_set]; omega, fun b h1 h2 h3 => ?_, hT8.same fun b hb => w_set_ne (by omega) (by omega) _, _, w_set_eq (by omega) rfl _, by rw [Blk.size_set]; exact v2, by rw [Blk.ro_set]; exact v3, ?_⟩
          · rw [w_set_ne (by omega) h3, vf.get b (by omega) (by omega), e2 b (by omega), k6 b (by omega), i2 b h1 h2 h3]
          · rw [w_bset_eq rfl, cntU_succ, hp0]
            simp
        · rintro g6 ⟨i1, i2, hT, ⟨cb, v1, v2, v3, v4⟩⟩ hn hd
          have z3 := (i2 (h.n + 1 + 1) (by omega) (by omega) (by omega)).trans y3
          have z4 := (i2 (h.n + 1 + 1 + 1) (by omega) (by omega) (by omega)).trans y4
          have zd := (i2 g3.n (by omega) (by omega) (by omega)).trans yd
          have hcl := cntU_le T f0 32
          rw [shrN, shrT, sh0, if_pos rfl, if_pos rfl, Int.toNat_natCast, Int.toNat_natCast]
          simp -implicitDefEqProofs (disch := (first | omega | (simp -implicitDefEqProofs only [szs, ne_eq] <;> omega) | fail)) only [go_sem, Nat.reduceAdd, Nat.reduceSub, Nat.reduceMul, Nat.reduceLT, Nat.reduceMod, Nat.reduceDiv, Nat.reduceEqDiff, Nat.reduceBEq, Nat.reduceLeDiff, ↓reduceIte, reduceCtorEq, Int.reduceAdd, Int.reduceSub, Int.reduceLT, Int.reduceLE, Int.reduceBEq, Int.reduceEq, Int.reduceToNat, v1, v2, v4, z3, z4, zd, hd]
          exact ⟨.inl (by omega), .inl (by omega), .inl (by omega), .inl (by omega), .inl (by omega), ⟨.inl (by omega), .inl (by omega)⟩, hT.same fun b hb => by rw [w_set_ne (by simp only [Heap.n_set]; omega) (by omega), w_set_ne (by simp only [Heap.n_set]; omega) (by omega), w_set_ne (by simp only [Heap.n_set]; omega) (by omega), w_set_ne (by omega) (by omega)]⟩
      · rintro e g ⟨rfl, i2, i3, ⟨q1, i4, i4', i4''⟩, ⟨q2, i5, i5', i5''⟩, i6⟩ _ hn hd
        have e : shrE T f0 t0 = 7 := by rw [shrE, if_neg (fun h => h.elim (fun h => h hs) hft), if_neg (by rw [Int.toNat_natCast]; exact i6)]
        rw [shrN, shrT, e]
        simp -implicitDefEqProofs (disch := (first | omega | (simp -implicitDefEqProofs only [szs, ne_eq] <;> omega) | fail)) only [go_sem, Nat.reduceAdd, Nat.reduceSub, Nat.reduceMul, Nat.reduceLT, Nat.reduceMod, Nat.reduceDiv, Nat.reduceEqDiff, Nat.reduceBEq, Nat.reduceLeDiff, ↓reduceIte, reduceCtorEq, Int.reduceAdd, Int.reduceSub, Int.reduceLT, Int.reduceLE, Int.reduceBEq, Int.reduceEq, Int.reduceToNat, i4, i4', i4'', i5, i5', i5'', hd]
        exact ⟨.inl (by omega), ⟨.inl (by omega), .inl (by omega)⟩, ht3.same fun b hb => by rw [w_set_ne (by omega) (by omega), i3 b (by omega)]⟩
  · have e : shrE T fr to = 2 := if_pos (.inl hs)
    rw [decide_eq_false hs, shrN, shrT, e]
    simp -implicitDefEqProofs (disch := (first | omega | (simp -implicitDefEqProofs only [szs, ne_eq] <;> omega) | fail)) only [go_sem, Nat.reduceAdd, Nat.reduceSub, Nat.reduceMul, Nat.reduceLT, Nat.reduceMod, Nat.reduceDiv, Nat.reduceEqDiff, Nat.reduceBEq, Nat.reduceLeDiff, ↓reduceIte, reduceCtorEq, Int.reduceAdd, Int.reduceSub, Int.reduceLT, Int.reduceLE, Int.reduceBEq, Int.reduceEq, Int.reduceToNat, undefV, c2, c3, c4]
    exact ⟨.inl (by omega), .inl (by omega), ⟨.inl (by omega), .inl (by omega)⟩, ht2.same fun b hb => by rw [w_set_ne (by rw [Heap.n_set]; omega) (by omega), w_set_ne (by omega) (by omega)]⟩
end Go.Proofs.Ytkfhdaimememiaa
