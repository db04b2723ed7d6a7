/- The document's extents: where they lie; in, Part, Taken, Owner, Runs. -/
import Derived.Test.YthdkhbhicimpdaaE3
set_option linter.unusedVariables false
set_option maxRecDepth 100000
namespace Go.Proofs.Ythdkhbhicimpdaa
open Go Go.Vm
structure RExt (h : Heap) (S : Set') (rx rd qb hb : Nat) (hk : Nat → Nat) (X : XS) : Prop where
  s : S rx ∧ S qb ∧ S hb ∧ ∀ a, a < X.n → X.count a ≠ 0 → S (hk a)
  pos : 1 ≤ X.n ∧ X.n ≤ 8
  x : ∃ c xq xh, h.get rx = some (.cells c 68) ∧ c.size = 3 ∧ c.ro = false ∧ c.get 0 = .ptr (some (rd, 0)) ∧ c.get 1 = .slice (some (qb, 0)) X.n X.n xq ∧ c.get 2 = .slice (some (hb, 0)) X.n X.n xh
  q : ∃ c, h.get qb = some (.cells c 3) ∧ c.size = X.n ∧ c.ro = false ∧ ∀ a, a < X.n → c.get a = .int .i64 (X.count a)
  v : ∃ c, h.get hb = some (.cells c 64) ∧ c.size = X.n ∧ c.ro = false ∧ ∀ a, a < X.n → (c.get a).one = true ∧ (∀ k, lenV Try.prog 64 (c.get a) k = some (X.count a, [])) ∧ (X.count a ≠ 0 → ∃ xk, c.get a = .slice (some (hk a, 0)) (X.count a) (X.count a) xk)
  b : ∀ a, a < X.n → X.count a ≠ 0 → ∃ c, h.get (hk a) = some (.cells c 4) ∧ c.size = X.count a ∧ c.ro = false ∧ ∀ s, s < X.count a → c.get s = .bool (X.has a s)
  fst : ∀ a, a < X.n → X.first a = sumN X.count a
  fit : ∀ a, a < X.n → X.first a + X.count a ≤ 4096
  inj : ∀ a b, a < X.n → b < X.n → X.count a ≠ 0 → X.count b ≠ 0 → a ≠ b → hk a ≠ hk b
  z : ∀ a, a < X.n → X.count a = 0 → ∃ c, h.get hb = some (.cells c 64) ∧ (c.get a = .slice none 0 0 true ∨ (∃ e, c.get a = .esl e) ∨ ∃ b cp x, c.get a = .slice (some (b, 0)) 0 cp x ∧ S b ∧ ∃ cc, h.get b = some (.cells cc 4))
theorem RExt.same {h h' : Heap} {S : Set'} {rx rd qb hb : Nat} {hk : Nat → Nat} {X : XS} (hr : RExt h S rx rd qb hb hk X) (kk : ∀ b, S b → b < h.n → h'.get b = h.get b) : RExt h' S rx rd qb hb hk X := by
  obtain ⟨⟨s1, s2, s3, s4⟩, pos, ⟨c, xq, xh, x1, x2⟩, ⟨q, q1, q2⟩, ⟨v, v1, v2⟩, b, r1, r2, r3, z⟩ := hr
  refine ⟨⟨s1, s2, s3, s4⟩, pos, ⟨c, xq, xh, by rw [kk _ s1 (Heap.lt_of_get x1)]; exact x1, x2⟩, ⟨q, by rw [kk _ s2 (Heap.lt_of_get q1)]; exact q1, q2⟩, ⟨v, by rw [kk _ s3 (Heap.lt_of_get v1)]; exact v1, v2⟩, fun a ha h0 => ?_, r1, r2, r3, fun a ha h0 => ?_⟩
  · obtain ⟨c, c1, c2⟩ := b a ha h0
    exact ⟨c, by rw [kk _ (s4 a ha h0) (Heap.lt_of_get c1)]; exact c1, c2⟩
  · obtain ⟨c, c1, c2⟩ := z a ha h0
    refine ⟨c, by rw [kk _ s3 (Heap.lt_of_get c1)]; exact c1, c2.imp id fun h => h.imp id ?_⟩
    rintro ⟨b, cp, x, e, hS, cc, hb⟩
    exact ⟨b, cp, x, e, hS, cc, by rw [kk _ hS (Heap.lt_of_get hb)]; exact hb⟩
theorem RExt.old {h h' : Heap} {S : Set'} {rx rd qb hb : Nat} {hk : Nat → Nat} {X : XS} (hr : RExt h S rx rd qb hb hk X) (kk : ∀ b, b < h.n → h'.get b = h.get b) : RExt h' S rx rd qb hb hk X := hr.same fun b _ hb => kk b hb
theorem rin_ok {h : Heap} {R W S : Set'} {rx rd qb hb : Nat} {hk : Nat → Nat} {X : XS} (hr : RExt h S rx rd qb hb hk X) (hR : ∀ b, S b → R b) (a : Int) :
    SF Try.prog 65 [.ptr (some (rx, 0)), .int .i64 a] h R W fun v h' => v = .bool (decide (0 ≤ a ∧ a < X.n)) ∧ h' = h := by
  obtain ⟨c, xq, xh, x1, x2, x3, x4, x5, x6⟩ := hr.x
  have hR1 := hR rx hr.s.1
  refine SF.go hm Try.func65 ir65_eq ?_
  by_cases h0 : 0 ≤ a
  · by_cases h1 : a < X.n
    · rw [decide_eq_true ⟨h0, h1⟩]
      simp -implicitDefEqProofs (disch := (first | omega | fail)) only [go_sem, Nat.reduceAdd, Nat.reduceSub, Nat.reduceLT, Nat.reduceMod, Nat.reduceDiv, ↓reduceIte, reduceCtorEq, ir65, x1, x2, x5, hR1, h0, h1]
    · rw [decide_eq_false (fun h => h1 h.2)]
      simp -implicitDefEqProofs (disch := (first | omega | fail)) only [go_sem, Nat.reduceAdd, Nat.reduceSub, Nat.reduceLT, Nat.reduceMod, Nat.reduceDiv, ↓reduceIte, reduceCtorEq, ir65, x1, x2, x5, hR1, h0, h1]
  · rw [decide_eq_false (fun h => h0 h.1)]
    simp -implicitDefEqProofs (disch := (first | omega | fail)) only [go_sem, Nat.reduceAdd, Nat.reduceSub, Nat.reduceLT, Nat.reduceMod, Nat.reduceDiv, ↓reduceIte, reduceCtorEq, ir65, undefV, h0]
theorem sumN_4096 {X : XS} (fst : ∀ a, a < X.n → X.first a = sumN X.count a) (fit : ∀ a, a < X.n → X.first a + X.count a ≤ 4096) {a : Nat} (ha : a < X.n) {i : Nat} (hi : i ≤ a) : sumN X.count i ≤ 4096 := by
  have := sumN_le (q := X.count) hi
  have := fst a ha
  have := fit a ha
  omega
theorem rpart_ok {h : Heap} {R W S : Set'} {rx rd qb hb : Nat} {hk : Nat → Nat} {X : XS} (hr : RExt h S rx rd qb hb hk X) (hR : ∀ b, S b → R b) (a : Int) :
    SF Try.prog 33 [.ptr (some (rx, 0)), .int .i64 a] h R W fun v h' => v = .tuple (partV X a) ∧ h' = h := by
  obtain ⟨c, xq, xh, x1, x2, x3, x4, x5, x6⟩ := hr.x
  obtain ⟨q, q1, q2, q3, q4⟩ := hr.q
  have hR1 := hR rx hr.s.1
  have hR2 := hR qb hr.s.2.1
  have hp8 := hr.pos
  refine SF.go hm Try.func33 ir33_eq ?_
  simp -implicitDefEqProofs (disch := (first | omega | fail)) only [go_sem, Nat.reduceAdd, Nat.reduceSub, Nat.reduceLT, Nat.reduceMod, Nat.reduceDiv, ↓reduceIte, reduceCtorEq, ir33]
  refine GCall.of (rin_ok hr (fun b hb => .inr (hR b hb)) a) ?_
  rintro v h1 ⟨rfl, rfl⟩
  unfold partV
  by_cases ha : 0 ≤ a ∧ a < X.n
  · rw [decide_eq_true ha, if_pos ha]
    obtain ⟨i, rfl⟩ := Int.eq_ofNat_of_zero_le ha.1
    have hi : i < X.n := by omega
    simp only [Int.toNat_natCast]
    simp -implicitDefEqProofs (disch := (first | omega | fail)) only [go_sem, Nat.reduceAdd, Nat.reduceSub, Nat.reduceLT, Nat.reduceMod, Nat.reduceDiv, ↓reduceIte, reduceCtorEq]
    refine GLoop.inv hm (fun k f g => f.mks = [] ∧ f.tm.n = 35 ∧ f.tm.get 0 = some (.ptr (some (rx, 0))) ∧ f.tm.get 1 = some (.int .i64 i) ∧ g = h1 ∧ ∃ p : Nat, p + k = i ∧ f.tm.get 8 = some (.int .i64 p) ∧ f.tm.get 7 = some (.int .i64 (sumN X.count p))) i ?_ ?_
    · exact ⟨rfl, rfl, by simp -implicitDefEqProofs (disch := (first | omega | fail)) only [go_sem, ↓reduceIte], by simp -implicitDefEqProofs (disch := (first | omega | fail)) only [go_sem, Nat.reduceDiv, ↓reduceIte, reduceCtorEq], rfl, 0, by omega, by simp -implicitDefEqProofs (disch := (first | omega | fail)) only [go_sem, Nat.reduceSub, Nat.reduceMod, Nat.reduceDiv, ↓reduceIte, reduceCtorEq]; rfl, by simp -implicitDefEqProofs (disch := (first | omega | fail)) only [go_sem, Nat.reduceMod, Nat.reduceDiv, ↓reduceIte, reduceCtorEq]; rfl⟩
    rintro k ⟨⟨n', tr⟩, mks⟩ g ⟨hmk, hn', t0, t1, rfl, p, hpk, t8, t7⟩
    simp only [Tm.get_mk] at hmk hn' t0 t1 t7 t8
    subst hmk hn'
    have h4 := sumN_4096 hr.fst hr.fit hi (i := p) (by omega)
    by_cases hp : p < i
    · have hq := q4 p (by omega)
      have hc := hr.fit p (by omega)
      have p0 : (0 : Int) ≤ (p : Int) := by omega
      have p1 : (p : Int) < (X.n : Nat) := by omega
      have ps : p < q.size := by omega
      simp -implicitDefEqProofs (disch := (first | omega | fail)) only [go_sem, Nat.reduceAdd, Nat.reduceLT, Nat.reduceEqDiff, ↓reduceIte, reduceCtorEq, ir33_l0, t0, t1, t7, t8, x1, x2, x5, hR1, hR2, q1, hq, p0, p1]
      exact ⟨k - 1, by omega, p + 1, by omega, by simp, by simp only [sumN]; congr 1⟩
    · obtain rfl : p = i := by omega
      have hq := q4 p hi
      have p0 : (0 : Int) ≤ (p : Int) := by omega
      have p1 : (p : Int) < (X.n : Nat) := by omega
      have ps : p < q.size := by omega
      rw [hr.fst p hi]
      simp -implicitDefEqProofs (disch := (first | omega | fail)) only [go_sem, Nat.reduceAdd, Nat.reduceLT, Nat.reduceEqDiff, ↓reduceIte, reduceCtorEq, ir33_l0, t0, t1, t7, t8, x1, x2, x5, hR1, hR2, q1, hq, p0, p1]
  · rw [decide_eq_false ha, if_neg ha]
    simp -implicitDefEqProofs (disch := (first | omega | fail)) only [go_sem, Nat.reduceAdd, Nat.reduceSub, Nat.reduceLT, Nat.reduceMod, Nat.reduceDiv, ↓reduceIte, reduceCtorEq]
end Go.Proofs.Ythdkhbhicimpdaa
