/- Extents: going over runs, with breaks. -/
import Derived.Test.YthdkhbhicimpdaaXY
import Derived.Test.YthdkhbhicimpdaaIr3
import Derived.Test.YthdkhbhicimpdaaV4
import Derived.Test.YthdkhbhicimpdaaV3
set_option linter.unusedVariables false
set_option maxRecDepth 100000
namespace Go.Proofs.Ythdkhbhicimpdaa
open Go Go.Vm
theorem run_loop2 {R W : Set'} {t : List It} {Q : Ex → Fr → Heap → Prop} {g : Heap} {bx bd : Nat} {tb : Nat → Nat} {X : XS} {a p l rb : Nat} (ha : a < X.n) (hp : p ≤ X.count a) (hRx : ∀ b, FootX bx tb X b → R b) (hRb : R rb) (hW : W rb) (hxg : ExtAt g bx bd tb X) (hrb : bx ≠ rb ∧ ∀ a', a' < X.n → tb a' ≠ rb) {n0 : Nat} (hg1 : g.n = n0)
    (hk : ∀ tr' g' k, tr'.get 0 = some (.yield l) → tr'.get 4 = some (.ptr (some (bx, 1 + a * 3))) → tr'.get 6 = some (.int .i64 ((p + k : Nat) : Int)) → tr'.get 7 = some (.ptr (some (rb, 0))) → g'.n = n0 → (∀ b, b ≠ rb → g'.get b = g.get b) → (∃ r, g'.get rb = some (.cells r 118) ∧ r.size = 2 ∧ r.ro = false ∧ r.get 0 = .int .i64 p ∧ r.get 1 = .int .i64 k) → p + k ≤ X.count a → (∀ s, p ≤ s → s < p + k → X.has a s = true) → (p + k = X.count a ∨ X.has a (p + k) = false) → resume ⟨Try.prog, true⟩ R W none Q t (.exit 2) ⟨⟨52, tr'⟩, []⟩ g')
    {tr : Tr V} (t0 : tr.get 0 = some (.yield l)) (t4 : tr.get 4 = some (.ptr (some (bx, 1 + a * 3)))) (t6 : tr.get 6 = some (.int .i64 p)) (t7 : tr.get 7 = some (.ptr (some (rb, 0)))) (hr : ∃ r, g.get rb = some (.cells r 118) ∧ r.size = 2 ∧ r.ro = false ∧ r.get 0 = .int .i64 p ∧ r.get 1 = .int .i64 0) :
    GLoop ⟨Try.prog, true⟩ R W none Q ir68_l0 t ⟨⟨52, tr⟩, []⟩ g := by
  have hpos := hxg.pos
  have hf := hxg.fit a ha
  refine GLoop.inv hm (fun k2 f g' => f.mks = [] ∧ f.tm.n = 52 ∧ f.tm.get 0 = some (.yield l) ∧ f.tm.get 4 = some (.ptr (some (bx, 1 + a * 3))) ∧ f.tm.get 7 = some (.ptr (some (rb, 0))) ∧ g'.n = n0 ∧ (∀ b, b ≠ rb → g'.get b = g.get b) ∧ ∃ q : Nat, p + q + k2 = X.count a ∧ f.tm.get 6 = some (.int .i64 ((p + q : Nat) : Int)) ∧ (∃ r, g'.get rb = some (.cells r 118) ∧ r.size = 2 ∧ r.ro = false ∧ r.get 0 = .int .i64 p ∧ r.get 1 = .int .i64 q) ∧ ∀ s, p ≤ s → s < p + q → X.has a s = true) (X.count a - p) ?_ ?_
  · exact ⟨rfl, rfl, t0, t4, t7, hg1, fun b hb => rfl, 0, by omega, t6, hr, fun s h1 h2 => by omega⟩
  clear t0 t4 t6 t7 hr
  clear tr
  rintro k2 ⟨⟨n', tr⟩, mks⟩ g' ⟨hmk, hn', t0, t4, t7, gn, hold, q, hq, t6, ⟨r, r1, rs, rr, r0, r2⟩, hall⟩
  simp only [Tm.get_mk] at hmk hn' t0 t4 t6 t7
  subst hmk hn'
  have hxg' : ExtAt g' bx bd tb X := hxg.same fun b hb _ => hold b (by
    rcases hb with rfl | ⟨a', ha', rfl⟩
    · exact hrb.1
    · exact hrb.2 a' ha')
  obtain ⟨c, x1, sz, ro, c0, cp, c25⟩ := hxg'.x
  obtain ⟨p0, p1, xw, p2⟩ := cp a ha
  have hR1 := hRx bx (.inl rfl)
  have hR2 := hRb
  have hlr := Heap.lt_of_get r1
  by_cases hqc : p + q < X.count a
  · simp -implicitDefEqProofs (disch := (first | omega | fail)) only [go_sem, Nat.reduceAdd, Nat.reduceLT, Nat.reduceEqDiff, ↓reduceIte, ir68_l0, t4, t6, x1, sz, p1, hR1]
    refine GCall.of (has_ok hxg' (fun b hb => hRx b hb) ha hqc).any ?_
    rintro v h'' ⟨rfl, rfl⟩
    cases hb : X.has a (p + q) with
    | true =>
      simp -implicitDefEqProofs (disch := (first | omega | fail)) only [go_sem, Nat.reduceAdd, Nat.reduceLT, Nat.reduceEqDiff, ↓reduceIte, reduceCtorEq, t0, t4, t6, t7, r1, rs, rr, r2, hR2, hW]
      refine ⟨k2 - 1, by omega, gn, fun b hb => by rw [w_set_ne hlr hb]; exact hold b hb, q + 1, by omega, congrArg _ (by omega), ⟨_, rfl, by rw [Blk.size_set]; exact rs, by rw [Blk.ro_set]; exact rr, ?_, by simp -implicitDefEqProofs (disch := (first | omega | fail)) only [go_sem]; rfl⟩, fun s h1 h2 => ?_⟩
      · simp -implicitDefEqProofs (disch := (first | omega | fail)) only [go_sem]; exact r0
      · by_cases e : s = p + q
        · rw [e]; exact hb
        · exact hall s h1 (by omega)
    | false =>
      simp -implicitDefEqProofs (disch := (first | omega | fail)) only [go_sem, Nat.reduceAdd, Nat.reduceLT, Nat.reduceEqDiff, ↓reduceIte]
      exact hk _ _ q (by simp -implicitDefEqProofs (disch := (first | omega | fail)) only [go_sem, ↓reduceIte, reduceCtorEq, t0]) (by simp -implicitDefEqProofs (disch := (first | omega | fail)) only [go_sem, Nat.reduceEqDiff, ↓reduceIte, t4]) (by simp -implicitDefEqProofs (disch := (first | omega | fail)) only [go_sem, Nat.reduceEqDiff, ↓reduceIte, t6]) (by simp -implicitDefEqProofs (disch := (first | omega | fail)) only [go_sem, Nat.reduceEqDiff, ↓reduceIte, t7]) gn hold ⟨r, r1, rs, rr, r0, r2⟩ (by omega) hall (.inr hb)
  · simp -implicitDefEqProofs (disch := (first | omega | fail)) only [go_sem, Nat.reduceAdd, Nat.reduceLT, Nat.reduceEqDiff, ↓reduceIte, ir68_l0, t4, t6, x1, sz, p1, undefV, hR1]
    exact hk _ _ q (by simp -implicitDefEqProofs (disch := (first | omega | fail)) only [go_sem, ↓reduceIte, reduceCtorEq, t0]) (by simp -implicitDefEqProofs (disch := (first | omega | fail)) only [go_sem, Nat.reduceEqDiff, ↓reduceIte, t4]) (by simp -implicitDefEqProofs (disch := (first | omega | fail)) only [go_sem, Nat.reduceEqDiff, ↓reduceIte, t6]) (by simp -implicitDefEqProofs (disch := (first | omega | fail)) only [go_sem, Nat.reduceEqDiff, ↓reduceIte, t7]) gn hold ⟨r, r1, rs, rr, r0, r2⟩ (by omega) hall (.inl (by omega))
set_option maxHeartbeats 1000000 in
theorem seq68b {h : Heap} {bx bd : Nat} {tb : Nat → Nat} {X : XS} {W Rr : Set'} {a b2 b3 l : Nat} (I : Nat → Heap → Prop) (J : Heap → Prop) (ha : a < X.n) (hR2 : Rr b2) (hR3 : Rr b3) (hRx : ∀ b, FootX bx tb X b → Rr b) (h2 : h.get b2 = some (.cells (Blk.of [.ptr (some (bx, 0))]) 25)) (h3 : h.get b3 = some (.cells (Blk.of [.int .i64 a]) 3)) (hI0 : I 0 h) (hx : ∀ p g, I p g → ExtAt g bx bd tb X ∧ h.n ≤ g.n)
    (hkeep : ∀ p g g', I p g → g.n ≤ g'.n → (∀ b, b < g.n → g'.get b = g.get b) → I p g')
    (hskip : ∀ p g, p < X.count a → X.has a p = false → I p g → I (p + 1) g)
    (hround : ∀ p k g, 1 ≤ k → p + k ≤ X.count a → (∀ s, p ≤ s → s < p + k → X.has a s = true) → (p + k = X.count a ∨ X.has a (p + k) = false) → I p g → SY ⟨Try.prog, true⟩ l [.agg [.int .i64 p, .int .i64 k]] g (fun b => h.n ≤ b ∨ Rr b) (fun b => h.n ≤ b ∨ W b) (fun v g' => v = .bool true ∧ I (p + k + 1) g' ∨ v = .bool false ∧ J g')) :
    SF ⟨Try.prog, true⟩ 68 [.yield l, .ptr (some (b2, 0)), .ptr (some (b3, 0))] h Rr W fun _ g => (∃ p, X.count a ≤ p ∧ I p g) ∨ J g := by
  have hRb := hRx bx (.inl rfl)
  obtain ⟨hx0, _⟩ := hx 0 h hI0
  have hp := hx0.pos
  have hf := hx0.fit a ha
  refine SF.go hm Try.func68 ir68_eq ?_
  simp -implicitDefEqProofs (disch := (first | omega | (simp -implicitDefEqProofs only [szs, ne_eq] <;> omega) | fail)) only [go_sem, Nat.reduceAdd, Nat.reduceSub, Nat.reduceLT, Nat.reduceMod, Nat.reduceDiv, ↓reduceIte, reduceCtorEq, ir68, h2, h3, hR2, hR3]
  refine GCall.of (of_ok hx0 (.inr hRb) ha).any ?_
  rintro v h' ⟨rfl, rfl⟩
  simp -implicitDefEqProofs (disch := (first | omega | (simp -implicitDefEqProofs only [szs, ne_eq] <;> omega) | fail)) only [go_sem, Nat.reduceAdd, Nat.reduceSub, Nat.reduceLT, Nat.reduceMod, Nat.reduceDiv, ↓reduceIte, reduceCtorEq]
  refine GLoop.inv hm (fun k f g => f.mks = [] ∧ f.tm.n = 52 ∧ f.tm.get 0 = some (.yield l) ∧ f.tm.get 4 = some (.ptr (some (bx, 1 + a * 3))) ∧ ∃ p : Nat, X.count a + 1 ≤ p + k ∧ p ≤ X.count a + 1 ∧ f.tm.get 6 = some (.int .i64 p) ∧ I p g) (X.count a + 1) ?_ ?_
  · exact ⟨rfl, rfl, by simp -implicitDefEqProofs (disch := (first | omega | (simp -implicitDefEqProofs only [szs, ne_eq] <;> omega) | fail)) only [go_sem, ↓reduceIte], by simp -implicitDefEqProofs (disch := (first | omega | (simp -implicitDefEqProofs only [szs, ne_eq] <;> omega) | fail)) only [go_sem, Nat.reduceSub, Nat.reduceMod, Nat.reduceDiv, ↓reduceIte, reduceCtorEq], 0, by omega, by omega, by simp -implicitDefEqProofs (disch := (first | omega | (simp -implicitDefEqProofs only [szs, ne_eq] <;> omega) | fail)) only [go_sem, Nat.reduceSub, Nat.reduceMod, Nat.reduceDiv, ↓reduceIte, reduceCtorEq]; rfl, hI0⟩
  rintro k ⟨⟨n', tr⟩, mks⟩ g ⟨hmk, hn', t0, t4, p, hpk, hpc, t6, hI⟩
  simp only [Tm.get_mk] at hmk hn' t0 t4 t6
  subst hmk hn'
  obtain ⟨hxg, hgn⟩ := hx p g hI
  obtain ⟨c, x1, sz, ro, c0, cp, c25⟩ := hxg.x
  obtain ⟨p0, p1, xw, p2⟩ := cp a ha
  have hlb := Heap.lt_of_get x1
  by_cases hpc2 : p < X.count a
  · simp -implicitDefEqProofs (disch := (first | omega | (simp -implicitDefEqProofs only [szs, ne_eq] <;> omega) | fail)) only [go_sem, Nat.reduceAdd, Nat.reduceLT, Nat.reduceEqDiff, Nat.reduceLeDiff, ↓reduceIte, ir68_l1, t4, t6, x1, sz, p1, hRb]
    refine ⟨.inl hgn, ?_⟩
    have hlts := hxg.lt
    refine run_loop2 (g := (g.push (.cells (Blk.of [V.int IntKind.i64 0, V.int IntKind.i64 0]) 118)).set g.n (.cells (((Blk.of [V.int IntKind.i64 0, V.int IntKind.i64 0]).set 0 (V.int IntKind.i64 p)).set 1 (V.int IntKind.i64 0)) 118)) (rb := g.n) (l := l) (p := p) (n0 := g.n + 1) ha (Nat.le_of_lt hpc2) (fun b hb => .inr (hRx b hb)) (.inl hgn) (.inl hgn) (hxg.old fun b hb => by simp -implicitDefEqProofs (disch := (first | omega | (simp -implicitDefEqProofs only [szs, ne_eq] <;> omega) | fail)) only [go_sem]) ⟨by omega, fun a' ha' => by have := hlts _ (.inr ⟨a', ha', rfl⟩); omega⟩ (by simp) ?_ (by simp -implicitDefEqProofs (disch := (first | omega | (simp -implicitDefEqProofs only [szs, ne_eq] <;> omega) | fail)) only [go_sem, ↓reduceIte, reduceCtorEq, t0]) (by simp -implicitDefEqProofs (disch := (first | omega | (simp -implicitDefEqProofs only [szs, ne_eq] <;> omega) | fail)) only [go_sem, Nat.reduceEqDiff, ↓reduceIte, t4]) (by simp -implicitDefEqProofs (disch := (first | omega | (simp -implicitDefEqProofs only [szs, ne_eq] <;> omega) | fail)) only [go_sem, Nat.reduceEqDiff, ↓reduceIte, t6]) (by simp -implicitDefEqProofs (disch := (first | omega | (simp -implicitDefEqProofs only [szs, ne_eq] <;> omega) | fail)) only [go_sem, ↓reduceIte]) ⟨_, by simp -implicitDefEqProofs (disch := (first | omega | (simp -implicitDefEqProofs only [szs, ne_eq] <;> omega) | fail)) only [go_sem]; rfl, rfl, rfl, by simp -implicitDefEqProofs (disch := (first | omega | (simp -implicitDefEqProofs only [szs, ne_eq] <;> omega) | fail)) only [go_sem], by simp -implicitDefEqProofs (disch := (first | omega | (simp -implicitDefEqProofs only [szs, ne_eq] <;> omega) | fail)) only [go_sem]⟩
    rintro tr' g' q u0 u4 u6 u7 gn hold ⟨r, r1, rs, rr, r0, r2⟩ hqc hall hmax
    have hI' : I p g' := hkeep p g g' hI (by omega) fun b hb => by rw [hold b (by omega)]; simp -implicitDefEqProofs (disch := (first | omega | (simp -implicitDefEqProofs only [szs, ne_eq] <;> omega) | fail)) only [go_sem]
    by_cases hq0 : q = 0
    · subst hq0
      have hRg : h'.n ≤ g.n ∨ Rr g.n := .inl hgn
      simp -implicitDefEqProofs (disch := (first | omega | (simp -implicitDefEqProofs only [szs, ne_eq] <;> omega) | fail)) only [go_sem, Nat.reduceAdd, Nat.reduceLT, Nat.reduceEqDiff, ↓reduceIte, reduceCtorEq, u0, u4, u6, u7, r1, rs, r2, undefV, hRg]
      have hno : X.has a p = false := by
        rcases hmax with e | e
        · omega
        · exact e
      exact ⟨k - 1, by omega, p + 1, by omega, by omega, congrArg _ (by omega), hskip p g' hpc2 hno hI'⟩
    · have hRg : h'.n ≤ g.n ∨ Rr g.n := .inl hgn
      simp -implicitDefEqProofs (disch := (first | omega | (simp -implicitDefEqProofs only [szs, ne_eq] <;> omega) | fail)) only [go_sem, Nat.reduceAdd, Nat.reduceLT, Nat.reduceEqDiff, ↓reduceIte, reduceCtorEq, u0, u7, r1, rs, r0, r2, hRg]
      refine GYield.of ((hround p q g' (by omega) hqc hall hmax hI').foot (fun _ h => h) (fun b hb => by simpa using hb)) ?_
      rintro v g2 (⟨rfl, hI2⟩ | ⟨rfl, hJ⟩)
      · simp -implicitDefEqProofs (disch := (first | omega | (simp -implicitDefEqProofs only [szs, ne_eq] <;> omega) | fail)) only [go_sem, Nat.reduceAdd, Nat.reduceLT, Nat.reduceEqDiff, ↓reduceIte, reduceCtorEq, u0, u4, u6]
        exact ⟨k - (q + 1), by omega, p + q + 1, by omega, by omega, congrArg _ (by omega), hI2⟩
      · simp -implicitDefEqProofs (disch := (first | omega | (simp -implicitDefEqProofs only [szs, ne_eq] <;> omega) | fail)) only [go_sem, Nat.reduceAdd, Nat.reduceLT, Nat.reduceEqDiff, ↓reduceIte]
        exact .inr hJ
  · simp -implicitDefEqProofs (disch := (first | omega | (simp -implicitDefEqProofs only [szs, ne_eq] <;> omega) | fail)) only [go_sem, Nat.reduceAdd, Nat.reduceLT, Nat.reduceEqDiff, ↓reduceIte, ir68_l1, t4, t6, x1, sz, p1, hRb]
    exact .inl ⟨p, by omega, hI⟩
theorem stR (h : Heap) (x y : Int) : ∃ h2, ((h.push (O.cells (Blk.of [V.int IntKind.i64 0, V.int IntKind.i64 0]) 118)).set h.n (O.cells (((Blk.of [V.int IntKind.i64 0, V.int IntKind.i64 0]).set 0 (V.int IntKind.i64 x)).set 1 (V.int IntKind.i64 y)) 118)) = h2 ∧ h2.n = h.n + 1 ∧ (∃ s, h2.get h.n = some (.cells s 118) ∧ s.size = 2 ∧ s.get 0 = .int .i64 x ∧ s.get 1 = .int .i64 y) ∧ ∀ b, b < h.n → h2.get b = h.get b := by
  refine ⟨_, rfl, by simp, ⟨(((Blk.of [V.int IntKind.i64 0, V.int IntKind.i64 0]).set 0 (V.int IntKind.i64 x)).set 1 (V.int IntKind.i64 y)), by simp -implicitDefEqProofs (disch := (first | omega | (simp -implicitDefEqProofs only [szs, ne_eq] <;> omega) | fail)) only [go_sem], rfl, by simp -implicitDefEqProofs (disch := (first | omega | (simp -implicitDefEqProofs only [szs, ne_eq] <;> omega) | fail)) only [go_sem], by simp -implicitDefEqProofs (disch := (first | omega | (simp -implicitDefEqProofs only [szs, ne_eq] <;> omega) | fail)) only [go_sem]⟩, fun b hb => by simp -implicitDefEqProofs (disch := (first | omega | (simp -implicitDefEqProofs only [szs, ne_eq] <;> omega) | fail)) only [go_sem]⟩
set_option maxHeartbeats 1000000 in
theorem range68 {R W : Set'} {Q : Ex → Fr → Heap → Prop} {og : Operand} {ka kb : Code} {cb : LC} {t : List It} {f : Fr} {h : Heap} {b2 b3 bx bd : Nat} {tb : Nat → Nat} {Xs : XS} {a : Nat} {X P : Nat} (W2 : Set') (K : Nat → Heap → Prop) (E : Ex → Heap → Prop)
    (hg : evV f.tm og = some (.func 68 [] [.ptr (some (b2, 0)), .ptr (some (b3, 0))]))
    (ha' : a < Xs.n) (hx : ExtAt h bx bd tb Xs) (h2 : h.get b2 = some (.cells (Blk.of [.ptr (some (bx, 0))]) 25)) (h3 : h.get b3 = some (.cells (Blk.of [.int .i64 a]) 3)) (hR2 : R b2) (hR3 : R b3) (hRx : ∀ b, FootX bx tb Xs b → R b) (hRn : ∀ b, h.n ≤ b → R b)
    (hW : ∀ b, h.n ≤ b ∨ W2 b → W b) (hK0 : K 0 h)
    (hkeep : ∀ p g g', K p g → g.n ≤ g'.n → (∀ b, b < g.n → b ≠ h.n → b ≠ h.n + 1 → g'.get b = g.get b) → K p g')
    (hE : ∀ e g g', E e g → g.n ≤ g'.n → (∀ b, b < g.n → b ≠ h.n → b ≠ h.n + 1 → g'.get b = g.get b) → E e g')
    (hKS : ∀ p g, K p g → h.n ≤ g.n ∧ ∀ b, FootX bx tb Xs b → g.get b = h.get b)
    (hskip : ∀ p g, p < Xs.count a → Xs.has a p = false → K p g → K (p + 1) g)
    (ha : Vm.low ka = .ops [⟨some X, Op.alloc 118, none⟩, ⟨none, Op.store 118 (.tmp X) (.tmp P), none⟩]) (hb : Vm.low kb = cb)
    (hX : X ≠ P) (hPn : P < f.tm.n) (hXn : X < f.tm.n)
    (hround : ∀ (R' W' : Set') (Q' : Ex → Fr → Heap → Prop) (p c : Nat) (g2 : Heap) (sb : Blk) (x : Nat), (∀ b, R b → R' b) → (∀ b, h.n + 2 ≤ b → W' b) → (∀ b, W2 b → W' b) → 1 ≤ c → p + c ≤ Xs.count a → (∀ s, p ≤ s → s < p + c → Xs.has a s = true) → (p + c = Xs.count a ∨ Xs.has a (p + c) = false) → K p g2 → g2.n = x + 1 → h.n + 2 ≤ x → g2.get h.n = some (.deferred true) → (∃ o, g2.get (h.n + 1) = some (.loop o)) → g2.get x = some (.cells sb 118) → sb.size = 2 →
      sb.get 0 = .int .i64 p → sb.get 1 = .int .i64 c →
      (∀ f2 h2, g2.n ≤ h2.n → h2.get h.n = g2.get h.n → h2.get (h.n + 1) = g2.get (h.n + 1) → K (p + c + 1) h2 → Q' .norm f2 h2) →
      (∀ e f2 h2, e ≠ .norm → g2.n ≤ h2.n → h2.get h.n = g2.get h.n → h2.get (h.n + 1) = g2.get (h.n + 1) → E e h2 → Q' e f2 h2) →
      GO ⟨Try.prog, true⟩ R' W' (some (h.n + 1)) Q' [.code cb] ⟨(f.tm.set P (.agg [.int .i64 p, .int .i64 c])).set X (.ptr (some (x, 0))), []⟩ g2)
    (hend : ∀ g p, Xs.count a ≤ p → K p g → h.n + 2 ≤ g.n → g.get h.n = some (.deferred true) → GO ⟨Try.prog, true⟩ R W none Q t ⟨f.tm, h.n :: f.mks⟩ g)
    (hexit : ∀ e g, E e g → e ≠ .norm → h.n + 2 ≤ g.n → g.get h.n = some (.deferred true) → resume ⟨Try.prog, true⟩ R W none Q t e ⟨f.tm, h.n :: f.mks⟩ g) :
    GRange ⟨Try.prog, true⟩ R W none Q og #[P] ka kb t f h := by
  refine GRange.outer (k := 68) (xs := []) (ys := [.ptr (some (b2, 0)), .ptr (some (b3, 0))]) hg ca_68 ?_
  obtain ⟨h0, e0, n0, d0, l0, k0⟩ : ∃ h0, ((h.push (.deferred true)).push (.loop ⟨.ready, none, f.tm, [P], ka, kb, h.n⟩)) = h0 ∧ h0.n = h.n + 2 ∧ h0.get h.n = some (.deferred true) ∧ h0.get (h.n + 1) = some (.loop ⟨.ready, none, f.tm, [P], ka, kb, h.n⟩) ∧ ∀ b, b < h.n → h0.get b = h.get b :=
    ⟨_, rfl, by simp, by rw [w_push_ne (by simp), w_push_eq rfl], w_push_eq (by simp) _, fun b hb => by rw [w_push_ne (by simp; omega), w_push_ne (by omega)]⟩
  rw [e0]
  have l2 := Heap.lt_of_get h2
  have l3 := Heap.lt_of_get h3
  have lx := hx.lt
  refine SF.mono (SF.foot (seq68b (h := h0) (b2 := b2) (b3 := b3) (l := h.n + 1) (a := a) (bx := bx) (bd := bd) (tb := tb) (X := Xs) (Rr := R) (W := fun b => W2 b ∨ b = h.n + 1)
    (fun p g => h.n + 2 ≤ g.n ∧ g.get h.n = some (.deferred true) ∧ g.get (h.n + 1) = some (.loop ⟨.ready, none, f.tm, [P], ka, kb, h.n⟩) ∧ K p g)
    (fun g => h.n + 2 ≤ g.n ∧ g.get h.n = some (.deferred true) ∧ ∃ e : Ex, e ≠ .norm ∧ g.get (h.n + 1) = some (.loop ⟨.done, e.jump, f.tm, [P], ka, kb, h.n⟩) ∧ E e g)
    ha' hR2 hR3 hRx (by rw [k0 _ l2]; exact h2) (by rw [k0 _ l3]; exact h3)
    ⟨by omega, d0, l0, hkeep _ _ _ hK0 (by omega) fun b hb _ _ => k0 b hb⟩
    (fun p g ⟨i1, i2, i3, i4⟩ => ⟨hx.same fun b hb _ => (hKS p g i4).2 b hb, by omega⟩)
    (fun p g g' ⟨i1, i2, i3, i4⟩ j1 j2 => ⟨by omega, by rw [j2 _ (by omega)]; exact i2, by rw [j2 _ (by omega)]; exact i3, hkeep _ _ _ i4 j1 fun b hb _ _ => j2 b hb⟩)
    (fun p g hp h0 ⟨i1, i2, i3, i4⟩ => ⟨i1, i2, i3, hskip p g hp h0 i4⟩) ?_) (fun b hb => hb) (fun b hb => ?_)) ?_
  · rintro p c g q1 q2 q3 q4 ⟨i1, i2, i3, i4⟩
    refine SY.go hm i3 (.inr (hRn _ (by omega))) (.inr (.inr rfl)) (tm := f.tm.set P (.agg [.int .i64 p, .int .i64 c])) rfl ha hb ?_
    have hv : (f.tm.set P (.agg [.int .i64 p, .int .i64 c])).get P = some (.agg [.int .i64 p, .int .i64 c]) := by rw [Tm.get_set _ _ _ _ hPn, if_pos rfl]
    have hxn : X < (f.tm.set P (.agg [.int .i64 p, .int .i64 c])).n := by rw [Tm.n_set]; exact hXn
    generalize hT : f.tm.set P (.agg [.int .i64 p, .int .i64 c]) = T at hv hxn ⊢
    have hsX : ∀ v, (T.set X v).get X = some v := fun v => by rw [Tm.get_set _ _ _ _ hxn, if_pos rfl]
    have hsP : ∀ v, (T.set X v).get P = T.get P := fun v => Tm.get_set_ne _ _ _ _ (fun h => hX h.symm)
    simp -implicitDefEqProofs (disch := (first | omega | (simp -implicitDefEqProofs only [szs, ne_eq] <;> omega) | fail)) only [go_sem, Nat.reduceAdd, hsX, hsP, hv]
    refine ⟨.inl (by omega), _, i3, rfl, ?_⟩
    obtain ⟨g2, e2, n2, ⟨sb, s0, s1, y0, y1⟩, k2⟩ := stR g p c
    rw [e2, ← hT]
    have hk2 : ∀ b, b ≠ h.n + 1 → (g2.set (h.n + 1) (O.loop ⟨.busy, none, f.tm, [P], ka, kb, h.n⟩)).get b = g2.get b := fun b hb => w_set_ne (by omega) hb _
    have jn : ∀ e : Ex, e ≠ .norm → e.jump.isNone = false := fun e he => by cases e <;> first | exact absurd rfl he | rfl
    refine hround _ _ _ p _ _ sb g.n (fun b hb => .inr hb) (fun b hb => .inl (by omega)) (fun b hb => .inr (.inl hb)) q1 q2 q3 q4 (hkeep p g _ i4 (by first | omega | (rw [Heap.n_set]; omega)) fun b h1 h2 h3 => by rw [w_set_ne (by omega) h3, k2 b h1]) (by rw [Heap.n_set]; exact n2) i1 (by rw [w_set_ne (by omega) (by omega), k2 _ (by omega)]; exact i2) ⟨_, w_set_eq (by omega) rfl _⟩ (by rw [w_set_ne (by omega) (by omega)]; exact s0) s1 y0 y1 (fun f2 h2 m1 m2 m3 m4 => ?_) (fun e f2 h2 m0 m1 m2 m3 m4 => ?_)
    · rw [Heap.n_set] at m1
      rw [w_set_eq (by omega) rfl] at m3
      rw [w_set_ne (by omega) (by omega), k2 _ (by omega), i2] at m2
      refine ⟨_, m3, .inl ⟨rfl, by first | omega | (rw [Heap.n_set]; omega), by rw [w_set_ne (by omega) (by omega)]; exact m2, w_set_eq (by omega) rfl _, hkeep _ _ _ m4 (by first | omega | (rw [Heap.n_set]; omega)) fun b _ _ h3 => w_set_ne (by omega) h3 _⟩⟩
    · rw [Heap.n_set] at m1
      rw [w_set_eq (by omega) rfl] at m3
      rw [w_set_ne (by omega) (by omega), k2 _ (by omega), i2] at m2
      have hj := jn e m0
      refine ⟨_, m3, .inr ⟨by rw [hj], by first | omega | (rw [Heap.n_set]; omega), by rw [w_set_ne (by omega) (by omega)]; exact m2, e, m0, by rw [w_set_eq (by omega) rfl, hj]; rfl, hE _ _ _ m4 (by first | omega | (rw [Heap.n_set]; omega)) fun b _ _ h3 => w_set_ne (by omega) h3 _⟩⟩
  · rcases hb with hb | rfl
    · exact hW b (.inr hb)
    · exact hW _ (.inl (by omega))
  · rintro v g (⟨p, hpc, i1, i2, i3, i4⟩ | ⟨i1, i2, e, he, i3, i4⟩)
    · refine ⟨_, i3, by simp, hW _ (.inl (by omega)), ?_⟩
      exact hend _ p hpc (hkeep _ _ _ i4 (by first | omega | (rw [Heap.n_set]; omega)) fun b _ _ h3 => w_set_ne (by omega) h3 _) (by first | omega | (rw [Heap.n_set]; omega)) (by rw [w_set_ne (by omega) (by omega)]; exact i2)
    · refine ⟨_, i3, by simp, hW _ (.inl (by omega)), ?_⟩
      have hx := hexit e _ (hE _ _ (g.set (h.n + 1) (.loop ⟨.exhausted, e.jump, f.tm, [P], ka, kb, h.n⟩)) i4 (by first | omega | (rw [Heap.n_set]; omega)) fun b _ _ h3 => w_set_ne (by omega) h3 _) he (by first | omega | (rw [Heap.n_set]; omega)) (by rw [w_set_ne (by omega) (by omega)]; exact i2)
      cases e with
      | norm => exact absurd rfl he
      | ret => rw [resume_ret] at hx; exact hx
      | exit id => exact hx
end Go.Proofs.Ythdkhbhicimpdaa
