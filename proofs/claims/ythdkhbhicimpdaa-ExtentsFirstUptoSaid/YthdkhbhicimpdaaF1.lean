/- The document's extents: ask, Take, Give. -/
import Derived.Test.YthdkhbhicimpdaaEC
set_option linter.unusedVariables false
set_option maxRecDepth 100000
namespace Go.Proofs.Ythdkhbhicimpdaa
open Go Go.Vm
attribute [-go_sem] sz_113
theorem RExt.put {h : Heap} {S : Set'} {rx rd qb hb : Nat} {hk : Nat → Nat} {X : XS} (hr : RExt h S rx rd qb hb hk X) {a s : Nat} {c : Blk} {v : Bool} (ha : a < X.n) (hs : s < X.count a) (hc : h.get (hk a) = some (.cells c 4)) : RExt (h.set (hk a) (.cells (c.set s (.bool v)) 4)) S rx rd qb hb hk (X.put a s v) := by
  have hlt := Heap.lt_of_get hc
  obtain ⟨⟨s1, s2, s3, s4⟩, pos, ⟨cx, xq, xh, x1, x2⟩, ⟨q, q1, q2⟩, ⟨vv, v1, v2⟩, b, r1, r2, r3, z⟩ := hr
  have n1 : rx ≠ hk a := fun e => by rw [e, hc] at x1; cases x1
  have n2 : qb ≠ hk a := fun e => by rw [e, hc] at q1; cases q1
  have n3 : hb ≠ hk a := fun e => by rw [e, hc] at v1; cases v1
  have h0 : X.count a ≠ 0 := by omega
  refine ⟨⟨s1, s2, s3, s4⟩, pos, ⟨cx, xq, xh, by rw [w_set_ne hlt n1]; exact x1, x2⟩, ⟨q, by rw [w_set_ne hlt n2]; exact q1, q2⟩, ⟨vv, by rw [w_set_ne hlt n3]; exact v1, v2⟩, fun a' ha' h0' => ?_, r1, r2, r3, fun a' ha' h0' => ?_⟩
  rotate_left
  · obtain ⟨c', c1, c2⟩ := z a' ha' h0'
    refine ⟨c', by rw [w_set_ne hlt n3]; exact c1, c2.imp id fun h => h.imp id ?_⟩
    rintro ⟨b', cp, x, e, hS, cc, hb'⟩
    by_cases eb : b' = hk a
    · exact ⟨b', cp, x, e, hS, _, by rw [eb, w_set_eq hlt rfl]⟩
    · exact ⟨b', cp, x, e, hS, cc, by rw [w_set_ne hlt eb]; exact hb'⟩
  have ha'' : a' < X.n := ha'
  have h0'' : X.count a' ≠ 0 := h0'
  by_cases e : a' = a
  · subst e
    obtain ⟨c', c1, c2, c3, c4⟩ := b a' ha'' h0''
    rw [hc] at c1
    cases c1
    refine ⟨_, by rw [w_set_eq hlt rfl], by rw [Blk.size_set]; exact c2, by rw [Blk.ro_set]; exact c3, fun s' hs' => ?_⟩
    have hs'' : s' < X.count a' := hs'
    by_cases es : s' = s
    · subst es
      rw [w_bset_eq rfl]
      simp [XS.put]
    · rw [w_bset_ne es, c4 s' hs'']
      simp [XS.put, es]
  · obtain ⟨c', c1, c2, c3, c4⟩ := b a' ha'' h0''
    refine ⟨c', by rw [w_set_ne hlt (r3 a' a ha'' ha h0'' h0 e)]; exact c1, c2, c3, fun s' hs' => ?_⟩
    rw [c4 s' hs']
    simp [XS.put, e]
def freeB (f : Nat → Bool) (p : Nat) : Nat → Bool
  | 0 => true
  | k + 1 => freeB f p k && !f (p + k)
theorem freeB_t {f : Nat → Bool} {p : Nat} : ∀ {k : Nat}, freeB f p k = true → ∀ s, p ≤ s → s < p + k → f s = false
  | 0, _, s, h1, h2 => by omega
  | k + 1, h, s, h1, h2 => by
    simp only [freeB, Bool.and_eq_true, Bool.not_eq_true'] at h
    by_cases e : s = p + k
    · subst e; exact h.2
    · exact freeB_t h.1 s h1 (by omega)
theorem freeB_f {f : Nat → Bool} {p : Nat} : ∀ {k : Nat}, freeB f p k = false → ∃ s, p ≤ s ∧ s < p + k ∧ f s = true
  | 0, h => by simp [freeB] at h
  | k + 1, h => by
    cases h1 : freeB f p k with
    | false =>
      obtain ⟨s, a, b, c⟩ := freeB_f h1
      exact ⟨s, a, by omega, c⟩
    | true =>
      simp only [freeB, h1, Bool.true_and, Bool.not_eq_false'] at h
      exact ⟨p + k, by omega, by omega, h⟩
theorem rtake_bad {h : Heap} {R W S : Set'} {rx rd qb hb : Nat} {hk : Nat → Nat} {X : XS} (hr : RExt h S rx rd qb hb hk X) (hR : ∀ b, R b) {a n : Int} (hn : ¬ (0 ≤ a ∧ a < X.n) ∨ n < 1) : SF Try.prog 49 [.ptr (some (rx, 0)), .int .i64 a, .int .i64 n] h R W fun v h' => v = .tuple [.int .i64 0, .int .i64 2] ∧ h' = h := by
  refine SF.go hm Try.func49 ir49_eq ?_
  simp -implicitDefEqProofs (disch := (first | omega | fail)) only [go_sem, Nat.reduceAdd, Nat.reduceSub, Nat.reduceLT, Nat.reduceMod, Nat.reduceDiv, ↓reduceIte, reduceCtorEq, ir49]
  refine GCall.of (rin_ok hr (fun b _ => .inr (hR b)) a) ?_
  rintro v h' ⟨rfl, rfl⟩
  by_cases ha : 0 ≤ a ∧ a < X.n
  · have hn1 : n < 1 := by
      rcases hn with h | h
      · exact absurd ha h
      · exact h
    rw [decide_eq_true ha]
    simp -implicitDefEqProofs (disch := (first | omega | fail)) only [go_sem, Nat.reduceAdd, Nat.reduceSub, Nat.reduceLT, Nat.reduceMod, Nat.reduceDiv, ↓reduceIte, reduceCtorEq]
  · rw [decide_eq_false ha]
    simp -implicitDefEqProofs (disch := (first | omega | fail)) only [go_sem, Nat.reduceAdd, Nat.reduceSub, Nat.reduceLT, Nat.reduceMod, Nat.reduceDiv, ↓reduceIte, reduceCtorEq, undefV]
theorem rtake_l0 {g : Heap} {R W S : Set'} {Q : Ex → Fr → Heap → Prop} {t : List It} {rx rd qb hb : Nat} {hk : Nat → Nat} {X : XS} {a n p : Nat} (hr : RExt g S rx rd qb hb hk X) (hR : ∀ b, R b) (ha : a < X.n) (hp : p + n ≤ X.count a) (hp0 : p < X.count a)
    (hk' : ∀ tr : Tr V, tr.get 0 = some (.ptr (some (rx, 0))) → tr.get 1 = some (.int .i64 a) → tr.get 2 = some (.int .i64 n) → tr.get 8 = some (.int .i64 p) → tr.get 9 = some (.bool (freeB (X.has a) p n)) → resume (Try.prog : MP) R W none Q t (.exit 2) ⟨⟨87, tr⟩, []⟩ g)
    {f : Fr} (g0 : f.mks = []) (g1 : f.tm.n = 87) (f0 : f.tm.get 0 = some (.ptr (some (rx, 0)))) (f1 : f.tm.get 1 = some (.int .i64 a)) (f2 : f.tm.get 2 = some (.int .i64 n)) (f8 : f.tm.get 8 = some (.int .i64 p)) (f9 : f.tm.get 9 = some (.bool true)) (f10 : f.tm.get 10 = some (.int .i64 p)) :
    GLoop (Try.prog : MP) R W none Q ir49_l0 t f g := by
  obtain ⟨c, xq, xh, x1, x2, x3, x4, x5, x6⟩ := hr.x
  obtain ⟨vv, v1, v2, v3, v4⟩ := hr.v
  have hc0 : X.count a ≠ 0 := by omega
  obtain ⟨xk, v7⟩ := (v4 a ha).2.2 hc0
  obtain ⟨cb, b1, b2, b3, b4⟩ := hr.b a ha hc0
  have hfit := hr.fit a ha
  have hp8 := hr.pos
  have hRx := hR rx
  have hRh := hR hb
  have hRk := hR (hk a)
  refine GLoop.inv hm (fun k f h' => h' = g ∧ f.mks = [] ∧ f.tm.n = 87 ∧ f.tm.get 0 = some (.ptr (some (rx, 0))) ∧ f.tm.get 1 = some (.int .i64 a) ∧ f.tm.get 2 = some (.int .i64 n) ∧ f.tm.get 8 = some (.int .i64 p) ∧ ∃ i : Nat, i + k = n ∧ f.tm.get 10 = some (.int .i64 (p + i : Nat)) ∧ f.tm.get 9 = some (.bool (freeB (X.has a) p i))) n ?_ ?_
  · exact ⟨rfl, g0, g1, f0, f1, f2, f8, 0, by omega, f10, f9⟩
  clear g0 g1 f0 f1 f2 f8 f9 f10
  rintro k ⟨⟨n', tr⟩, mks⟩ h' ⟨rfl, hmk, hn, t0, t1, t2, t8, i, hi, t10, t9⟩
  simp only [Tm.get_mk] at hmk hn t0 t1 t2 t8 t9 t10
  subst hmk hn
  obtain ⟨d, ed⟩ : ∃ d, d = p + i := ⟨_, rfl⟩
  rw [← ed] at t10
  by_cases him : i < n
  · have hbi := b4 d (by omega)
    cases hfb : freeB (X.has a) p i with
    | false =>
      rw [hfb] at t9
      simp -implicitDefEqProofs (disch := (first | omega | fail)) only [go_sem, Nat.reduceAdd, Nat.reduceLT, Nat.reduceEqDiff, ↓reduceIte, reduceCtorEq, ir49_l0, t0, t1, t2, t8, t9, t10, undefV]
      exact ⟨k - 1, by omega, i + 1, by omega, congrArg _ (by omega), by simp [freeB, hfb]⟩
    | true =>
      rw [hfb] at t9
      cases hh : X.has a d with
      | false =>
        rw [hh] at hbi
        simp -implicitDefEqProofs (disch := (first | omega | fail)) only [go_sem, Nat.reduceAdd, Nat.reduceLT, Nat.reduceEqDiff, ↓reduceIte, reduceCtorEq, ir49_l0, t0, t1, t2, t8, t9, t10, x1, x2, x6, hRx, v1, v2, v7, hRh, b1, b2, hbi, hRk]
        exact ⟨k - 1, by omega, i + 1, by omega, congrArg _ (by omega), by simp [freeB, hfb, ← ed, hh]⟩
      | true =>
        rw [hh] at hbi
        simp -implicitDefEqProofs (disch := (first | omega | fail)) only [go_sem, Nat.reduceAdd, Nat.reduceLT, Nat.reduceEqDiff, ↓reduceIte, reduceCtorEq, ir49_l0, t0, t1, t2, t8, t9, t10, x1, x2, x6, hRx, v1, v2, v7, hRh, b1, b2, hbi, hRk]
        exact ⟨k - 1, by omega, i + 1, by omega, congrArg _ (by omega), by simp [freeB, hfb, ← ed, hh]⟩
  · have : i = n := by omega
    subst this
    simp -implicitDefEqProofs (disch := (first | omega | fail)) only [go_sem, Nat.reduceAdd, Nat.reduceLT, Nat.reduceEqDiff, ↓reduceIte, ir49_l0, t2, t8, t10]
    exact hk' _ (by simp -implicitDefEqProofs (disch := (first | omega | fail)) only [go_sem, ↓reduceIte, reduceCtorEq, t0]) (by simp -implicitDefEqProofs (disch := (first | omega | fail)) only [go_sem, Nat.reduceEqDiff, ↓reduceIte, t1]) (by simp -implicitDefEqProofs (disch := (first | omega | fail)) only [go_sem, Nat.reduceEqDiff, ↓reduceIte, t2]) (by simp -implicitDefEqProofs (disch := (first | omega | fail)) only [go_sem, Nat.reduceEqDiff, ↓reduceIte, t8]) (by simp -implicitDefEqProofs (disch := (first | omega | fail)) only [go_sem, Nat.reduceEqDiff, ↓reduceIte, t9])
theorem rtake_l1 {g : Heap} {R W S : Set'} {Q : Ex → Fr → Heap → Prop} {t : List It} {rx rd qb hb : Nat} {hk : Nat → Nat} {X : XS} {a n p : Nat} (hr : RExt g S rx rd qb hb hk X) (hR : ∀ b, R b) (hW : W (hk a)) (ha : a < X.n) (hp : p + n ≤ X.count a) (hp0 : p < X.count a)
    (hk' : ∀ (tr : Tr V) g', g'.n = g.n → (∀ b, b ≠ hk a → g'.get b = g.get b) → RExt g' S rx rd qb hb hk (X.fill a p n true) → tr.get 8 = some (.int .i64 p) → resume (Try.prog : MP) R W none Q t (.exit 4) ⟨⟨87, tr⟩, []⟩ g')
    {f : Fr} (g0 : f.mks = []) (g1 : f.tm.n = 87) (f0 : f.tm.get 0 = some (.ptr (some (rx, 0)))) (f1 : f.tm.get 1 = some (.int .i64 a)) (f2 : f.tm.get 2 = some (.int .i64 n)) (f8 : f.tm.get 8 = some (.int .i64 p)) (f11 : f.tm.get 11 = some (.int .i64 p)) :
    GLoop (Try.prog : MP) R W none Q ir49_l1 t f g := by
  have hc0 : X.count a ≠ 0 := by omega
  have hfit := hr.fit a ha
  have hp8 := hr.pos
  have hRx := hR rx
  have hRh := hR hb
  refine GLoop.inv hm (fun k f h' => f.mks = [] ∧ f.tm.n = 87 ∧ f.tm.get 0 = some (.ptr (some (rx, 0))) ∧ f.tm.get 1 = some (.int .i64 a) ∧ f.tm.get 2 = some (.int .i64 n) ∧ f.tm.get 8 = some (.int .i64 p) ∧ h'.n = g.n ∧ (∀ b, b ≠ hk a → h'.get b = g.get b) ∧ ∃ i : Nat, i + k = n ∧ f.tm.get 11 = some (.int .i64 (p + i : Nat)) ∧ RExt h' S rx rd qb hb hk (X.fill a p i true)) n ?_ ?_
  · exact ⟨g0, g1, f0, f1, f2, f8, rfl, fun _ _ => rfl, 0, by omega, f11, by rw [XS.fill_zero]; exact hr⟩
  clear g0 g1 f0 f1 f2 f8 f11
  rintro k ⟨⟨n', tr⟩, mks⟩ h' ⟨hmk, hn, t0, t1, t2, t8, hgn, hold, i, hi, t11, hr'⟩
  simp only [Tm.get_mk] at hmk hn t0 t1 t2 t8 t11
  subst hmk hn
  obtain ⟨d, ed⟩ : ∃ d, d = p + i := ⟨_, rfl⟩
  rw [← ed] at t11
  by_cases him : i < n
  · obtain ⟨c, xq, xh, x1, x2, x3, x4, x5, x6⟩ := hr'.x
    obtain ⟨vv, v1, v2, v3, v4⟩ := hr'.v
    obtain ⟨xk, v7⟩ := (v4 a ha).2.2 hc0
    obtain ⟨cb, b1, b2, b3, b4⟩ := hr'.b a ha hc0
    simp only [XS.fill] at x5 x6 v2 v7 b2
    have hlt := Heap.lt_of_get b1
    simp -implicitDefEqProofs (disch := (first | omega | fail)) only [go_sem, Nat.reduceAdd, Nat.reduceLT, Nat.reduceEqDiff, ↓reduceIte, reduceCtorEq, ir49_l1, t0, t1, t2, t8, t11, undefV, x1, x2, x6, hRx, v1, v2, v7, hRh, b1, b2, b3]
    have hp' := hr'.put (a := a) (s := d) (v := true) ha (show d < X.count a by omega) b1
    rw [ed, XS.fill_succ, ← ed] at hp'
    exact ⟨hW, k - 1, by omega, hgn, fun b hb => by rw [w_set_ne hlt hb]; exact hold b hb, i + 1, by omega, congrArg _ (by omega), hp'⟩
  · have : i = n := by omega
    subst this
    simp -implicitDefEqProofs (disch := (first | omega | fail)) only [go_sem, Nat.reduceAdd, Nat.reduceLT, Nat.reduceEqDiff, ↓reduceIte, ir49_l1, t2, t8, t11]
    exact hk' _ h' hgn hold hr' (by simp -implicitDefEqProofs (disch := (first | omega | fail)) only [go_sem, Nat.reduceEqDiff, ↓reduceIte, t8])
set_option maxHeartbeats 1000000 in
theorem rtake_ok {h : Heap} {R W S : Set'} {rx rd qb hb : Nat} {hk : Nat → Nat} {X : XS} (hr : RExt h S rx rd qb hb hk X) (hR : ∀ b, R b) {a n : Nat} (ha : a < X.n) (hn : 1 ≤ n) (hn2 : n ≤ 9223372036854775807) (hW : X.count a ≠ 0 → W (hk a)) : SF Try.prog 49 [.ptr (some (rx, 0)), .int .i64 a, .int .i64 n] h R W fun v h' => ∃ r, TakeQ (X.has a) (X.count a) n r ∧ v = takeV r ∧ h'.n = h.n ∧ (∀ b, (X.count a ≠ 0 → b ≠ hk a) → h'.get b = h.get b) ∧ RExt h' S rx rd qb hb hk (X.took a n r) := by
  obtain ⟨c, xq, xh, x1, x2, x3, x4, x5, x6⟩ := hr.x
  obtain ⟨q, q1, q2, q3, q4⟩ := hr.q
  have hfit := hr.fit a ha
  have hp8 := hr.pos
  have hRx := hR rx
  have hRq := hR qb
  have hqa := q4 a ha
  refine SF.go hm Try.func49 ir49_eq ?_
  simp -implicitDefEqProofs (disch := (first | omega | fail)) only [go_sem, Nat.reduceAdd, Nat.reduceSub, Nat.reduceLT, Nat.reduceMod, Nat.reduceDiv, ↓reduceIte, reduceCtorEq, ir49]
  refine GCall.of (rin_ok hr (fun b _ => .inr (hR b)) a) ?_
  rintro v h' ⟨rfl, rfl⟩
  rw [decide_eq_true (show 0 ≤ (a : Int) ∧ (a : Int) < X.n by omega)]
  simp -implicitDefEqProofs (disch := (first | omega | fail)) only [go_sem, Nat.reduceAdd, Nat.reduceSub, Nat.reduceLT, Nat.reduceMod, Nat.reduceDiv, ↓reduceIte, reduceCtorEq]
  refine GLoop.inv hm (fun k f g => g = h' ∧ f.mks = [] ∧ f.tm.n = 87 ∧ f.tm.get 0 = some (.ptr (some (rx, 0))) ∧ f.tm.get 1 = some (.int .i64 a) ∧ f.tm.get 2 = some (.int .i64 n) ∧ ∃ j : Nat, j + k = X.count a ∧ f.tm.get 8 = some (.int .i64 j) ∧ ∀ f', f' < j → ∃ s, f' ≤ s ∧ s < f' + n ∧ X.has a s = true) (X.count a) ?_ ?_
  · exact ⟨rfl, rfl, rfl, by simp -implicitDefEqProofs (disch := (first | omega | fail)) only [go_sem, ↓reduceIte], by simp -implicitDefEqProofs (disch := (first | omega | fail)) only [go_sem, Nat.reduceDiv, ↓reduceIte, reduceCtorEq], by simp -implicitDefEqProofs (disch := (first | omega | fail)) only [go_sem, Nat.reduceSub, Nat.reduceMod, Nat.reduceDiv, ↓reduceIte, reduceCtorEq], 0, by omega, by simp -implicitDefEqProofs (disch := (first | omega | fail)) only [go_sem, Nat.reduceSub, Nat.reduceMod, Nat.reduceDiv, ↓reduceIte, reduceCtorEq]; rfl, fun f' hf' => by omega⟩
  rintro k ⟨⟨n', tr⟩, mks⟩ g ⟨rfl, hmk, hn', t0, t1, t2, j, hj, t8, hlow⟩
  simp only [Tm.get_mk] at hmk hn' t0 t1 t2 t8
  subst hmk hn'
  by_cases hjc : j < X.count a
  · by_cases hfit2 : n ≤ X.count a - j
    · have h1 : (n : Int) ≤ (X.count a : Int) - j := by omega
      simp -implicitDefEqProofs (disch := (first | omega | fail)) only [go_sem, Nat.reduceAdd, Nat.reduceLT, Nat.reduceEqDiff, ↓reduceIte, reduceCtorEq, ir49_l2, t0, t1, t2, t8, x1, x2, x5, hRx, q1, q2, hqa, hRq]
      refine rtake_l0 (n := n) (p := j) hr (fun b => .inr (hR b)) ha (by omega) hjc ?_ rfl rfl (by simp -implicitDefEqProofs (disch := (first | omega | fail)) only [go_sem, ↓reduceIte, reduceCtorEq, t0]) (by simp -implicitDefEqProofs (disch := (first | omega | fail)) only [go_sem, Nat.reduceEqDiff, ↓reduceIte, t1]) (by simp -implicitDefEqProofs (disch := (first | omega | fail)) only [go_sem, Nat.reduceEqDiff, ↓reduceIte, t2]) (by simp -implicitDefEqProofs (disch := (first | omega | fail)) only [go_sem, Nat.reduceEqDiff, ↓reduceIte, t8]) (by simp -implicitDefEqProofs (disch := (first | omega | fail)) only [go_sem, Nat.reduceEqDiff, ↓reduceIte]) (by simp -implicitDefEqProofs (disch := (first | omega | fail)) only [go_sem, ↓reduceIte])
      clear t0 t1 t2 t8 tr
      intro tr t0 t1 t2 t8 t9
      cases hfb : freeB (X.has a) j n with
      | true =>
        rw [hfb] at t9
        simp -implicitDefEqProofs (disch := (first | omega | fail)) only [go_sem, Nat.reduceAdd, Nat.reduceLT, Nat.reduceEqDiff, ↓reduceIte, t8, t9]
        refine rtake_l1 (n := n) (p := j) hr (fun b => .inr (hR b)) (.inr (hW (by omega))) ha (by omega) hjc ?_ rfl rfl (by simp -implicitDefEqProofs (disch := (first | omega | fail)) only [go_sem, ↓reduceIte, reduceCtorEq, t0]) (by simp -implicitDefEqProofs (disch := (first | omega | fail)) only [go_sem, Nat.reduceEqDiff, ↓reduceIte, t1]) (by simp -implicitDefEqProofs (disch := (first | omega | fail)) only [go_sem, Nat.reduceEqDiff, ↓reduceIte, t2]) (by simp -implicitDefEqProofs (disch := (first | omega | fail)) only [go_sem, Nat.reduceEqDiff, ↓reduceIte, t8]) (by simp -implicitDefEqProofs (disch := (first | omega | fail)) only [go_sem, ↓reduceIte])
        clear t0 t1 t2 t8 t9 tr
        intro tr g' ng' kg' hr' t8
        simp -implicitDefEqProofs (disch := (first | omega | fail)) only [go_sem, Nat.reduceAdd, Nat.reduceLT, Nat.reduceEqDiff, ↓reduceIte, t8]
        exact ⟨some j, ⟨⟨by omega, freeB_t hfb⟩, hlow⟩, rfl, ng', fun b hb => kg' b (hb (by omega)), hr'⟩
      | false =>
        rw [hfb] at t9
        simp -implicitDefEqProofs (disch := (first | omega | fail)) only [go_sem, Nat.reduceAdd, Nat.reduceLT, Nat.reduceEqDiff, ↓reduceIte, reduceCtorEq, t0, t1, t2, t8, t9]
        refine ⟨k - 1, by omega, j + 1, by omega, congrArg _ (by omega), fun f' hf' => ?_⟩
        by_cases e : f' = j
        · subst e; exact freeB_f hfb
        · exact hlow f' (by omega)
    · have h1 : ¬ (n : Int) ≤ (X.count a : Int) - j := by omega
      simp -implicitDefEqProofs (disch := (first | omega | fail)) only [go_sem, Nat.reduceAdd, Nat.reduceLT, Nat.reduceEqDiff, ↓reduceIte, reduceCtorEq, ir49_l2, t0, t1, t2, t8, x1, x2, x5, hRx, q1, q2, hqa, hRq]
      exact ⟨none, fun f' hf' => hlow f' (by omega), rfl, hr⟩
  · simp -implicitDefEqProofs (disch := (first | omega | fail)) only [go_sem, Nat.reduceAdd, Nat.reduceLT, Nat.reduceEqDiff, ↓reduceIte, reduceCtorEq, ir49_l2, t0, t1, t8, undefV, x1, x2, x5, hRx, q1, q2, hqa, hRq]
    exact ⟨none, fun f' hf' => hlow f' (by omega), rfl, hr⟩
end Go.Proofs.Ythdkhbhicimpdaa
