/- The document's extents: Give, ask. -/
import Derived.Test.YthdkhbhicimpdaaF1
set_option linter.unusedVariables false
set_option maxRecDepth 100000
namespace Go.Proofs.Ythdkhbhicimpdaa
open Go Go.Vm
attribute [-go_sem] sz_113
theorem rgive_bad {h : Heap} {R W S : Set'} {rx rd qb hb : Nat} {hk : Nat → Nat} {X : XS} (hr : RExt h S rx rd qb hb hk X) (hR : ∀ b, R b) {a f n : Int} (hn : ¬ (0 ≤ a ∧ a < X.n) ∨ n < 1 ∨ f < 0) : SF Try.prog 50 [.ptr (some (rx, 0)), .int .i64 a, .int .i64 f, .int .i64 n] h R W fun v h' => v = .int .i64 2 ∧ h' = h := by
  refine SF.go hm Try.func50 ir50_eq ?_
  simp -implicitDefEqProofs (disch := (first | omega | fail)) only [go_sem, Nat.reduceAdd, Nat.reduceSub, Nat.reduceLT, Nat.reduceMod, Nat.reduceDiv, ↓reduceIte, reduceCtorEq, ir50]
  refine GCall.of (rin_ok hr (fun b _ => .inr (hR b)) a) ?_
  rintro v h' ⟨rfl, rfl⟩
  by_cases ha : 0 ≤ a ∧ a < X.n
  · rw [decide_eq_true ha]
    by_cases hn1 : n < 1
    · simp -implicitDefEqProofs (disch := (first | omega | fail)) only [go_sem, Nat.reduceAdd, Nat.reduceSub, Nat.reduceLT, Nat.reduceMod, Nat.reduceDiv, ↓reduceIte, reduceCtorEq, undefV]
    · have hf1 : f < 0 := by
        rcases hn with h | h | h
        · exact absurd ha h
        · exact absurd h hn1
        · exact h
      simp -implicitDefEqProofs (disch := (first | omega | fail)) only [go_sem, Nat.reduceAdd, Nat.reduceSub, Nat.reduceLT, Nat.reduceMod, Nat.reduceDiv, ↓reduceIte, reduceCtorEq]
  · rw [decide_eq_false ha]
    simp -implicitDefEqProofs (disch := (first | omega | fail)) only [go_sem, Nat.reduceAdd, Nat.reduceSub, Nat.reduceLT, Nat.reduceMod, Nat.reduceDiv, ↓reduceIte, reduceCtorEq, undefV]
theorem rgive_l1 {g : Heap} {R W S : Set'} {Q : Ex → Fr → Heap → Prop} {t : List It} {rx rd qb hb : Nat} {hk : Nat → Nat} {X : XS} {a n p : Nat} (hr : RExt g S rx rd qb hb hk X) (hR : ∀ b, R b) (hW : W (hk a)) (ha : a < X.n) (hp : p + n ≤ X.count a) (hp0 : 1 ≤ n)
    (hk' : ∀ (tr : Tr V) g', g'.n = g.n → (∀ b, b ≠ hk a → g'.get b = g.get b) → RExt g' S rx rd qb hb hk (X.fill a p n false) → resume (Try.prog : MP) R W none Q t (.exit 2) ⟨⟨83, tr⟩, []⟩ g')
    {f : Fr} (g0 : f.mks = []) (g1 : f.tm.n = 83) (f0 : f.tm.get 0 = some (.ptr (some (rx, 0)))) (f1 : f.tm.get 1 = some (.int .i64 a)) (f2 : f.tm.get 2 = some (.int .i64 p)) (f3 : f.tm.get 3 = some (.int .i64 n)) (f10 : f.tm.get 10 = some (.int .i64 p)) :
    GLoop (Try.prog : MP) R W none Q ir50_l1 t f g := by
  have hc0 : X.count a ≠ 0 := by omega
  have hfit := hr.fit a ha
  have hp8 := hr.pos
  have hRx := hR rx
  have hRh := hR hb
  refine GLoop.inv hm (fun k f h' => f.mks = [] ∧ f.tm.n = 83 ∧ f.tm.get 0 = some (.ptr (some (rx, 0))) ∧ f.tm.get 1 = some (.int .i64 a) ∧ f.tm.get 2 = some (.int .i64 p) ∧ f.tm.get 3 = some (.int .i64 n) ∧ h'.n = g.n ∧ (∀ b, b ≠ hk a → h'.get b = g.get b) ∧ ∃ i : Nat, i + k = n ∧ f.tm.get 10 = some (.int .i64 (p + i : Nat)) ∧ RExt h' S rx rd qb hb hk (X.fill a p i false)) n ?_ ?_
  · exact ⟨g0, g1, f0, f1, f2, f3, rfl, fun _ _ => rfl, 0, by omega, f10, by rw [XS.fill_zero]; exact hr⟩
  clear g0 g1 f0 f1 f2 f3 f10
  rintro k ⟨⟨n', tr⟩, mks⟩ h' ⟨hmk, hn, t0, t1, t2, t3, hgn, hold, i, hi, t10, hr'⟩
  simp only [Tm.get_mk] at hmk hn t0 t1 t2 t3 t10
  subst hmk hn
  obtain ⟨d, ed⟩ : ∃ d, d = p + i := ⟨_, rfl⟩
  rw [← ed] at t10
  by_cases him : i < n
  · obtain ⟨c, xq, xh, x1, x2, x3, x4, x5, x6⟩ := hr'.x
    obtain ⟨vv, v1, v2, v3, v4⟩ := hr'.v
    obtain ⟨xk, v7⟩ := (v4 a ha).2.2 hc0
    obtain ⟨cb, b1, b2, b3, b4⟩ := hr'.b a ha hc0
    simp only [XS.fill] at x5 x6 v2 v7 b2
    have hlt := Heap.lt_of_get b1
    simp -implicitDefEqProofs (disch := (first | omega | fail)) only [go_sem, Nat.reduceAdd, Nat.reduceLT, Nat.reduceEqDiff, ↓reduceIte, reduceCtorEq, ir50_l1, t0, t1, t2, t3, t10, undefV, x1, x2, x6, hRx, v1, v2, v7, hRh, b1, b2, b3]
    have hp' := hr'.put (a := a) (s := d) (v := false) ha (show d < X.count a by omega) b1
    rw [ed, XS.fill_succ, ← ed] at hp'
    exact ⟨hW, k - 1, by omega, hgn, fun b hb => by rw [w_set_ne hlt hb]; exact hold b hb, i + 1, by omega, congrArg _ (by omega), hp'⟩
  · have : i = n := by omega
    subst this
    simp -implicitDefEqProofs (disch := (first | omega | fail)) only [go_sem, Nat.reduceAdd, Nat.reduceLT, Nat.reduceEqDiff, ↓reduceIte, ir50_l1, t2, t3, t10]
    exact hk' _ h' hgn hold hr'
set_option maxHeartbeats 1000000 in
theorem rgive_ok {h : Heap} {R W S : Set'} {rx rd qb hb : Nat} {hk : Nat → Nat} {X : XS} (hr : RExt h S rx rd qb hb hk X) (hR : ∀ b, R b) {a p n : Nat} (ha : a < X.n) (hn : 1 ≤ n) (hn2 : n ≤ 9223372036854775807) (hp2 : p ≤ 9223372036854775807) (hW : X.count a ≠ 0 → W (hk a)) : SF Try.prog 50 [.ptr (some (rx, 0)), .int .i64 a, .int .i64 p, .int .i64 n] h R W fun v h' => (X.full a p n ∧ v = .int .i64 0 ∧ h'.n = h.n ∧ (∀ b, b ≠ hk a → h'.get b = h.get b) ∧ X.count a ≠ 0 ∧ RExt h' S rx rd qb hb hk (X.fill a p n false)) ∨ (¬ X.full a p n ∧ v = .int .i64 6 ∧ h' = h) := by
  obtain ⟨c, xq, xh, x1, x2, x3, x4, x5, x6⟩ := hr.x
  obtain ⟨q, q1, q2, q3, q4⟩ := hr.q
  have hfit := hr.fit a ha
  have hp8 := hr.pos
  have hRx := hR rx
  have hRq := hR qb
  have hRh := hR hb
  have hRk := hR (hk a)
  have hqa := q4 a ha
  refine SF.go hm Try.func50 ir50_eq ?_
  simp -implicitDefEqProofs (disch := (first | omega | fail)) only [go_sem, Nat.reduceAdd, Nat.reduceSub, Nat.reduceLT, Nat.reduceMod, Nat.reduceDiv, ↓reduceIte, reduceCtorEq, ir50]
  refine GCall.of (rin_ok hr (fun b _ => .inr (hR b)) a) ?_
  rintro v h' ⟨rfl, rfl⟩
  rw [decide_eq_true (show 0 ≤ (a : Int) ∧ (a : Int) < X.n by omega)]
  have hnf : ¬ p + n ≤ X.count a → ¬ X.full a p n := fun h hf => h hf.1
  by_cases h1 : X.count a < p
  · simp -implicitDefEqProofs (disch := (first | omega | fail)) only [go_sem, Nat.reduceAdd, Nat.reduceSub, Nat.reduceLT, Nat.reduceMod, Nat.reduceDiv, ↓reduceIte, reduceCtorEq, undefV, x1, x2, x5, hRx, q1, q2, hqa, hRq]
    exact .inr (hnf (by omega))
  by_cases h2 : (n : Int) > (X.count a : Int) - p
  · simp -implicitDefEqProofs (disch := (first | omega | fail)) only [go_sem, Nat.reduceAdd, Nat.reduceSub, Nat.reduceLT, Nat.reduceMod, Nat.reduceDiv, ↓reduceIte, reduceCtorEq, x1, x2, x5, hRx, q1, q2, hqa, hRq]
    exact .inr (hnf (by omega))
  simp -implicitDefEqProofs (disch := (first | omega | fail)) only [go_sem, Nat.reduceAdd, Nat.reduceSub, Nat.reduceLT, Nat.reduceMod, Nat.reduceDiv, ↓reduceIte, reduceCtorEq, x1, x2, x5, hRx, q1, q2, hqa, hRq]
  have hc0 : X.count a ≠ 0 := by omega
  obtain ⟨vv, v1, v2, v3, v4⟩ := hr.v
  obtain ⟨xk, v7⟩ := (v4 a ha).2.2 hc0
  obtain ⟨cb, b1, b2, b3, b4⟩ := hr.b a ha hc0
  refine GLoop.inv hm (fun k f g => g = h' ∧ f.mks = [] ∧ f.tm.n = 83 ∧ f.tm.get 0 = some (.ptr (some (rx, 0))) ∧ f.tm.get 1 = some (.int .i64 a) ∧ f.tm.get 2 = some (.int .i64 p) ∧ f.tm.get 3 = some (.int .i64 n) ∧ ∃ i : Nat, i + k = n ∧ f.tm.get 9 = some (.int .i64 (p + i : Nat)) ∧ ∀ s, p ≤ s → s < p + i → X.has a s = true) n ?_ ?_
  · exact ⟨rfl, rfl, rfl, by simp -implicitDefEqProofs (disch := (first | omega | fail)) only [go_sem, ↓reduceIte], by simp -implicitDefEqProofs (disch := (first | omega | fail)) only [go_sem, Nat.reduceDiv, ↓reduceIte, reduceCtorEq], by simp -implicitDefEqProofs (disch := (first | omega | fail)) only [go_sem, Nat.reduceSub, Nat.reduceMod, Nat.reduceDiv, ↓reduceIte, reduceCtorEq], by simp -implicitDefEqProofs (disch := (first | omega | fail)) only [go_sem, Nat.reduceMod, Nat.reduceDiv, ↓reduceIte, reduceCtorEq], 0, by omega, by simp -implicitDefEqProofs (disch := (first | omega | fail)) only [go_sem, Nat.reduceSub, Nat.reduceMod, Nat.reduceDiv, ↓reduceIte, reduceCtorEq], fun s h1 h2 => by omega⟩
  rintro k ⟨⟨n', tr⟩, mks⟩ g ⟨rfl, hmk, hn', t0, t1, t2, t3, i, hi, t9, hall⟩
  simp only [Tm.get_mk] at hmk hn' t0 t1 t2 t3 t9
  subst hmk hn'
  obtain ⟨d, ed⟩ : ∃ d, d = p + i := ⟨_, rfl⟩
  rw [← ed] at t9
  by_cases him : i < n
  · have hbi := b4 d (by omega)
    cases hh : X.has a d with
    | false =>
      rw [hh] at hbi
      simp -implicitDefEqProofs (disch := (first | omega | fail)) only [go_sem, Nat.reduceAdd, Nat.reduceLT, Nat.reduceEqDiff, ↓reduceIte, reduceCtorEq, ir50_l0, t0, t1, t2, t3, t9, x1, x2, x6, hRx, v1, v2, v7, hRh, b1, b2, hbi, hRk]
      exact .inr fun hf => by
        have := hf.2 d (by omega) (by omega)
        rw [hh] at this
        cases this
    | true =>
      rw [hh] at hbi
      simp -implicitDefEqProofs (disch := (first | omega | fail)) only [go_sem, Nat.reduceAdd, Nat.reduceLT, Nat.reduceEqDiff, ↓reduceIte, reduceCtorEq, ir50_l0, t0, t1, t2, t3, t9, x1, x2, x6, hRx, v1, v2, v7, hRh, b1, b2, hbi, hRk]
      refine ⟨k - 1, by omega, i + 1, by omega, congrArg _ (by omega), fun s h1 h2 => ?_⟩
      by_cases e : s = d
      · rw [e]; exact hh
      · exact hall s h1 (by omega)
  · have : i = n := by omega
    subst this
    simp -implicitDefEqProofs (disch := (first | omega | fail)) only [go_sem, Nat.reduceAdd, Nat.reduceLT, Nat.reduceEqDiff, ↓reduceIte, ir50_l0, t2, t3, t9]
    refine rgive_l1 (n := i) (p := p) hr (fun b => .inr (hR b)) (.inr (hW hc0)) ha (by omega) hn ?_ rfl rfl (by simp -implicitDefEqProofs (disch := (first | omega | fail)) only [go_sem, ↓reduceIte, reduceCtorEq, t0]) (by simp -implicitDefEqProofs (disch := (first | omega | fail)) only [go_sem, Nat.reduceEqDiff, ↓reduceIte, t1]) (by simp -implicitDefEqProofs (disch := (first | omega | fail)) only [go_sem, Nat.reduceEqDiff, ↓reduceIte, t2]) (by simp -implicitDefEqProofs (disch := (first | omega | fail)) only [go_sem, Nat.reduceEqDiff, ↓reduceIte, t3]) (by simp -implicitDefEqProofs (disch := (first | omega | fail)) only [go_sem, ↓reduceIte])
    clear t0 t1 t2 t3 t9 tr
    intro tr g' ng' kg' hr'
    simp -implicitDefEqProofs (disch := (first | omega | fail)) only [go_sem, Nat.reduceAdd, Nat.reduceLT, ↓reduceIte]
    exact .inl ⟨⟨by omega, hall⟩, ng', kg', hc0, hr'⟩
theorem rask_ok {h : Heap} {R W S : Set'} {rx rd qb hb : Nat} {hk : Nat → Nat} {X : XS} (hr : RExt h S rx rd qb hb hk X) (hR : ∀ b, R b) (a s : Int) : SF Try.prog 69 [.ptr (some (rx, 0)), .int .i64 a, .int .i64 s] h R W fun v h' => ((X.own a s ∧ v = .int .i64 0) ∨ (¬ X.own a s ∧ v = .int .i64 (X.err a))) ∧ h' = h := by
  obtain ⟨c, xq, xh, x1, x2, x3, x4, x5, x6⟩ := hr.x
  obtain ⟨q, q1, q2, q3, q4⟩ := hr.q
  have hp8 := hr.pos
  have hRx := hR rx
  have hRq := hR qb
  have hRh := hR hb
  refine SF.go hm Try.func69 ir69_eq ?_
  simp -implicitDefEqProofs (disch := (first | omega | fail)) only [go_sem, Nat.reduceAdd, Nat.reduceSub, Nat.reduceLT, Nat.reduceMod, Nat.reduceDiv, ↓reduceIte, reduceCtorEq, ir69]
  refine GCall.of (rin_ok hr (fun b _ => .inr (hR b)) a) ?_
  rintro v h' ⟨rfl, rfl⟩
  by_cases ha : 0 ≤ a ∧ a < X.n
  · rw [decide_eq_true ha]
    have he : X.err a = 6 := by unfold XS.err; rw [if_pos ha]
    obtain ⟨i, rfl⟩ := Int.eq_ofNat_of_zero_le ha.1
    have hi : i < X.n := by omega
    have hqa := q4 i hi
    by_cases h0 : s < 0
    · simp -implicitDefEqProofs (disch := (first | omega | fail)) only [go_sem, Nat.reduceAdd, Nat.reduceSub, Nat.reduceLT, Nat.reduceMod, Nat.reduceDiv, ↓reduceIte, reduceCtorEq, undefV]
      exact .inr ⟨fun h => by have := h.2.1; omega, congrArg _ he.symm⟩
    obtain ⟨d, rfl⟩ := Int.eq_ofNat_of_zero_le (show 0 ≤ s by omega)
    by_cases h1 : d < X.count i
    · have hc0 : X.count i ≠ 0 := by omega
      obtain ⟨vv, v1, v2, v3, v4⟩ := hr.v
      obtain ⟨xk, v7⟩ := (v4 i hi).2.2 hc0
      obtain ⟨cb, b1, b2, b3, b4⟩ := hr.b i hi hc0
      have hbi := b4 d h1
      have hRk := hR (hk i)
      have hfit := hr.fit i hi
      cases hh : X.has i d with
      | false =>
        rw [hh] at hbi
        simp -implicitDefEqProofs (disch := (first | omega | fail)) only [go_sem, Nat.reduceAdd, Nat.reduceSub, Nat.reduceLT, Nat.reduceMod, Nat.reduceDiv, ↓reduceIte, reduceCtorEq, x1, x2, x5, x6, hRx, q1, q2, hqa, hRq, v1, v2, v7, hRh, b1, b2, hbi, hRk]
        exact .inr ⟨fun h => (by have := h.2.2.2; rw [Int.toNat_natCast, Int.toNat_natCast, hh] at this; cases this), congrArg _ he.symm⟩
      | true =>
        rw [hh] at hbi
        simp -implicitDefEqProofs (disch := (first | omega | fail)) only [go_sem, Nat.reduceAdd, Nat.reduceSub, Nat.reduceLT, Nat.reduceMod, Nat.reduceDiv, ↓reduceIte, reduceCtorEq, x1, x2, x5, x6, hRx, q1, q2, hqa, hRq, v1, v2, v7, hRh, b1, b2, hbi, hRk]
        exact .inl ⟨ha, by omega, by simp only [Int.toNat_natCast]; omega, by simp only [Int.toNat_natCast]; exact hh⟩
    · simp -implicitDefEqProofs (disch := (first | omega | fail)) only [go_sem, Nat.reduceAdd, Nat.reduceSub, Nat.reduceLT, Nat.reduceMod, Nat.reduceDiv, ↓reduceIte, reduceCtorEq, undefV, x1, x2, x5, hRx, q1, q2, hqa, hRq]
      exact .inr ⟨fun h => by have := h.2.2.1; simp only [Int.toNat_natCast] at this; omega, congrArg _ he.symm⟩
  · rw [decide_eq_false ha]
    have he : X.err a = 2 := by unfold XS.err; rw [if_neg ha]
    simp -implicitDefEqProofs (disch := (first | omega | fail)) only [go_sem, Nat.reduceAdd, Nat.reduceSub, Nat.reduceLT, Nat.reduceMod, Nat.reduceDiv, ↓reduceIte, reduceCtorEq]
    exact .inr ⟨fun h => ha h.1, congrArg _ he.symm⟩
end Go.Proofs.Ythdkhbhicimpdaa
