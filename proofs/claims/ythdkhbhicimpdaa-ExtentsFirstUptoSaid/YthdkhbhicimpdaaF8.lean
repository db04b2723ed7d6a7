/- Over of the document's extents. -/
import Derived.Test.YthdkhbhicimpdaaF6
set_option linter.unusedVariables false
set_option maxRecDepth 100000
namespace Go.Proofs.Ythdkhbhicimpdaa
open Go Go.Vm
attribute [-go_sem] sz_113
theorem ap_64 : apT Try.prog 64 64 = some (4, 1, 1) := by kernel_rfl
structure RO (h g : Heap) (X : XS) (rd i : Nat) (hk : Nat → Nat) (lh : List V) (vh : V) : Prop where
  len : lh.length = i
  gn : h.n + 2 ≤ g.n
  old : ∀ b, b < h.n → g.get b = h.get b
  q : ∃ c, g.get h.n = some (.cells c 3) ∧ c.size = X.n ∧ c.ro = false ∧ ∀ a, a < X.n → c.get a = .int .i64 (X.count a)
  c : ∃ c xq, g.get (h.n + 1) = some (.cells c 68) ∧ c.size = 3 ∧ c.ro = false ∧ c.get 0 = .ptr (some (rd, 0)) ∧ c.get 1 = .slice (some (h.n, 0)) X.n X.n xq ∧ c.get 2 = vh
  gh : GrowAt g vh lh 64
  bh : ∀ b, vh = .slice (some (b, 0)) i i false → h.n + 2 ≤ b ∧ b < g.n
  el : ∀ a, a < i → (lh.getD a undefV).one = true ∧ (∀ k, lenV Try.prog 64 (lh.getD a undefV) k = some (X.count a, [])) ∧ (X.count a ≠ 0 → lh.getD a undefV = .slice (some (hk a, 0)) (X.count a) (X.count a) false) ∧ (X.count a = 0 → lh.getD a undefV = .slice none 0 0 true)
  bb : ∀ a, a < i → X.count a ≠ 0 → h.n + 2 ≤ hk a ∧ ∃ c, g.get (hk a) = some (.cells c 4) ∧ c.size = X.count a ∧ c.ro = false ∧ ∀ s, s < X.count a → c.get s = .bool (X.has a s)
  inj : ∀ a b, a < i → b < i → X.count a ≠ 0 → X.count b ≠ 0 → a ≠ b → hk a ≠ hk b
theorem RO.ext {h g h0 : Heap} {X : XS} {S : Set'} {rx0 rd0 qb0 hb0 rd : Nat} {hk0 hk : Nat → Nat} {lh : List V} {vh : V} (ro : RO h g X rd X.n hk lh vh) (hr : RExt h0 S rx0 rd0 qb0 hb0 hk0 X) : ∃ hb, RExt g (fun b => h.n ≤ b ∧ b < g.n) (h.n + 1) rd h.n hb hk X := by
  obtain ⟨cq, q1, q2, q3, q4⟩ := ro.q
  obtain ⟨c, xq, c1, c2, c3, c4, c5, c6⟩ := ro.c
  have hp := hr.pos
  have hlen := ro.len
  have hgn := ro.gn
  rcases ro.gh with ⟨e0, _⟩ | ⟨hb, h0, eh, bh⟩
  · rw [e0] at hlen; simp at hlen; omega
  rw [hlen] at eh
  subst eh
  obtain ⟨g1, g2⟩ := ro.bh hb rfl
  refine ⟨hb, ⟨⟨by omega, by omega, by omega, fun a ha h0 => ?_⟩, hp, ⟨c, xq, false, c1, c2, c3, c4, c5, c6⟩, ⟨cq, q1, q2, q3, q4⟩, ⟨_, bh, by rw [w_of_size]; exact hlen, rfl, fun a ha => ?_⟩, fun a ha h0 => (ro.bb a ha h0).2, hr.fst, hr.fit, ro.inj, fun a ha h0 => ⟨_, bh, .inl ?_⟩⟩⟩
  · obtain ⟨b1, c, b2, _⟩ := ro.bb a ha h0
    have := Heap.lt_of_get b2
    show h.n ≤ hk a ∧ hk a < g.n
    omega
  · rw [Blk.get_of _ _ (by omega)]
    obtain ⟨e1, e2, e3⟩ := ro.el a ha
    exact ⟨e1, e2, fun h0 => ⟨false, e3.1 h0⟩⟩
  · rw [Blk.get_of _ _ (by omega)]
    exact (ro.el a ha).2.2.2 h0
theorem app_bools {g : Heap} {v : V} {m hkb : Nat} {f : Nat → Bool} {xk : Bool} (h1 : v.one = true) (hl : ∀ k, lenV Try.prog 64 v k = some (m, [])) (hv : m ≠ 0 → v = .slice (some (hkb, 0)) m m xk) (hb : m ≠ 0 → ∃ c, g.get hkb = some (.cells c 4) ∧ c.size = m ∧ ∀ s, s < m → c.get s = .bool (f s)) (hm : m ≤ 4096) (h0 : m = 0 → v = .slice none 0 0 true ∨ (∃ a, v = .esl a) ∨ ∃ b c x, v = .slice (some (b, 0)) 0 c x ∧ ∃ cc e, g.get b = some (.cells cc e)) :
    ∃ v2 g2 r, appE 4 1 1 (.slice none 0 0 true) v g = some ⟨v2, g2, r, []⟩ ∧ g.n ≤ g2.n ∧ (∀ b, b < g.n → g2.get b = g.get b) ∧ v2.one = true ∧ (∃ p n c x, v2 = .slice p n c x) ∧ (∀ k, lenV Try.prog 64 v2 k = some (m, [])) ∧ (m = 0 → v2 = .slice none 0 0 true) ∧ (m ≠ 0 → v2 = .slice (some (g.n, 0)) m m false ∧ g.n < g2.n ∧ ∃ c, g2.get g.n = some (.cells c 4) ∧ c.size = m ∧ c.ro = false ∧ ∀ s, s < m → c.get s = .bool (f s)) := by
  by_cases hz : m = 0
  · subst hz
    have hn : ∀ k, lenV Try.prog 64 (.slice none 0 0 true) k = some (0, []) := fun k => by simp [lenV, Try.underlying64]
    rcases h0 rfl with rfl | ⟨a, rfl⟩ | ⟨b, c, x, rfl, cc, e, hbb⟩
    · exact ⟨_, _, _, rfl, Nat.le_refl _, fun _ _ => rfl, rfl, ⟨_, _, _, _, rfl⟩, hn, fun _ => rfl, fun h => absurd rfl h⟩
    · exact ⟨.slice none 0 0 true, g, _, rfl, Nat.le_refl _, fun _ _ => rfl, rfl, ⟨_, _, _, _, rfl⟩, hn, fun _ => rfl, fun h => absurd rfl h⟩
    · refine ⟨.slice none 0 0 true, g, [b], ?_, Nat.le_refl _, fun _ _ => rfl, rfl, ⟨_, _, _, _, rfl⟩, hn, fun _ => rfl, fun h => absurd rfl h⟩
      unfold appE
      simp only [lenOfV, firstV, hbb, Nat.zero_mul, Nat.add_zero, w_ble_t (Nat.zero_le _), w_gets_zero]
      rfl
  · obtain ⟨c, c1, c2, c3⟩ := hb hz
    rw [hv hz]
    refine ⟨_, _, _, append_nilS c1 (by omega) (by omega) (by omega) (by omega), by simp, fun b hb => by rw [w_push_ne (by omega)], rfl, ⟨_, _, _, _, rfl⟩, fun k => by simp [lenV, Try.underlying64], fun h => absurd h hz, fun _ => ⟨rfl, by simp, _, w_push_eq rfl _, by rw [w_of_size, Blk.length_gets]; omega, rfl, fun s hs => ?_⟩⟩
    rw [Blk.get_of _ _ (by rw [Blk.length_gets]; omega), List.getD_eq_getElem?_getD, Blk.gets_get _ _ _ _ (by omega), Option.getD_some, Nat.zero_add]
    exact c3 s hs
theorem getD_snoc {l : List V} {x : V} {i : Nat} (h : l.length = i) : (l ++ [x]).getD i undefV = x := by
  rw [List.getD_eq_getElem?_getD, List.getElem?_append_right (by omega), h]; simp
theorem getD_left {l : List V} {x : V} {i : Nat} (h : i < l.length) : (l ++ [x]).getD i undefV = l.getD i undefV := by
  rw [List.getD_eq_getElem?_getD, List.getD_eq_getElem?_getD, List.getElem?_append_left h]
set_option maxHeartbeats 2000000 in
theorem rover_ok {h : Heap} {R W SX SD SD' : Set'} {rx rd rd' qb hb : Nat} {hk : Nat → Nat} {X : XS} {D D' : DS} (hr : RExt h SX rx rd qb hb hk X) (hd : RefAt h SD rd D) (hd' : RefAt h SD' rd' D') (he : D'.n = D.n) (hR : ∀ b, R b) :
    SF Try.prog 56 [.ptr (some (rx, 0)), .ptr (some (rd', 0))] h R W fun v h' => v = .tuple [.ptr (some (h.n + 1, 0)), .int .i64 0] ∧ h.n ≤ h'.n ∧ (∀ b, b < h.n → h'.get b = h.get b) ∧ ∃ hb' hk', RExt h' (fun b => h.n ≤ b ∧ b < h'.n) (h.n + 1) rd' h.n hb' hk' X := by
  obtain ⟨c, xq, xh, x1, x2, x3, x4, x5, x6⟩ := hr.x
  obtain ⟨cq, q1, q2, q3, q4⟩ := hr.q
  obtain ⟨cv, v1, v2, v3, v4⟩ := hr.v
  obtain ⟨e, fb, pb, xf, xp, d1, d2, d3, d4, d5, d6, _⟩ := hd.d
  obtain ⟨e', fb', pb', xf', xp', d1', d2', d3', d4', d5', d6', _⟩ := hd'.d
  rw [he] at d4'
  have hp8 := hr.pos
  have hdp := hd.pos
  have hRx := hR rx
  have hRd := hR rd
  have hRd' := hR rd'
  have hRh := hR hb
  have hRq := hR qb
  have hne : ∀ x : Int, (x != x) = false := fun x => by simp
  have lx := Heap.lt_of_get x1
  have lh := Heap.lt_of_get v1
  have hA := append_nilS (e := 3) (sz := 1) (bytes := 8) (cap := X.n) (ex := xq) (o := 0) (m := X.n) q1 (by omega) (by omega) (by omega) (by omega)
  obtain ⟨l, el⟩ : ∃ l, l = cq.gets 0 (X.n * 1) := ⟨_, rfl⟩
  rw [← el] at hA
  refine SF.go hm Try.func56 ir56_eq ?_
  simp -implicitDefEqProofs (disch := (first | omega | (simp -implicitDefEqProofs only [szs, ne_eq] <;> omega) | fail)) only [go_sem, Nat.reduceAdd, Nat.reduceSub, Nat.reduceLT, Nat.reduceMod, Nat.reduceDiv, Nat.reduceLeDiff, ↓reduceIte, reduceCtorEq, ir56, hne, x1, x2, x4, x5, hRx, d1, d2, d4, hRd, d1', d2', d4', hRd', hRq, appendV_of ap_22, ↓hA]
  refine GLoop.inv hm (fun k f g => f.mks = [] ∧ f.tm.n = 63 ∧ f.tm.get 0 = some (.ptr (some (rx, 0))) ∧ f.tm.get 6 = some (.ptr (some (h.n + 1, 0))) ∧ ∃ (i : Nat) (hk' : Nat → Nat) (lh : List V) (vh : V), i + k = X.n ∧ f.tm.get 7 = some (.int .i64 i) ∧ RO h g X rd' i hk' lh vh) X.n ?_ ?_
  · refine ⟨rfl, rfl, by simp -implicitDefEqProofs (disch := (first | omega | (simp -implicitDefEqProofs only [szs, ne_eq] <;> omega) | fail)) only [go_sem, ↓reduceIte], by simp -implicitDefEqProofs (disch := (first | omega | (simp -implicitDefEqProofs only [szs, ne_eq] <;> omega) | fail)) only [go_sem, Nat.reduceSub, Nat.reduceMod, Nat.reduceDiv, ↓reduceIte, reduceCtorEq], 0, fun _ => 0, [], .slice none 0 0 true, by omega, by simp -implicitDefEqProofs (disch := (first | omega | (simp -implicitDefEqProofs only [szs, ne_eq] <;> omega) | fail)) only [go_sem, Nat.reduceMod, Nat.reduceDiv, ↓reduceIte, reduceCtorEq]; rfl, ⟨rfl, by simp, fun b hb => by simp -implicitDefEqProofs (disch := (first | omega | (simp -implicitDefEqProofs only [szs, ne_eq] <;> omega) | fail)) only [go_sem], ⟨Blk.of l, by simp -implicitDefEqProofs (disch := (first | omega | (simp -implicitDefEqProofs only [szs, ne_eq] <;> omega) | fail)) only [go_sem], by rw [w_of_size, el, Blk.length_gets]; omega, rfl, fun a ha => ?_⟩, ⟨_, false, w_push_eq (by simp) _, rfl, rfl, rfl, rfl, rfl⟩, .inl ⟨rfl, rfl⟩, fun b hb => (by cases hb), fun a ha => by omega, fun a ha => by omega, fun a b ha => by omega⟩⟩
    rw [Blk.get_of _ _ (by rw [el, Blk.length_gets]; omega), el, List.getD_eq_getElem?_getD, Blk.gets_get _ _ _ _ (by omega), Option.getD_some, Nat.zero_add]
    exact q4 a ha
  rintro k ⟨⟨n', tr⟩, mks⟩ g ⟨hmk, hn', t0, t6, i, hk', lh', vh, hi, t7, ro⟩
  simp only [Tm.get_mk] at hmk hn' t0 t6 t7
  subst hmk hn'
  have hgn := ro.gn
  have x1g := (ro.old rx lx).trans x1
  have v1g := (ro.old hb lh).trans v1
  by_cases him : i < X.n
  · obtain ⟨w, ew⟩ : ∃ w, cv.get i = w := ⟨_, rfl⟩
    obtain ⟨w1, w2, w3⟩ := v4 i him
    rw [ew] at w1 w2 w3
    have hfit := hr.fit i him
    obtain ⟨cb, xq', c1, c2, c3, c4, c5, c6⟩ := ro.c
    obtain ⟨xk, w4⟩ : ∃ xk, X.count i ≠ 0 → w = .slice (some (hk i, 0)) (X.count i) (X.count i) xk := by
      by_cases h0 : X.count i = 0
      · exact ⟨true, fun h => absurd h0 h⟩
      · obtain ⟨xk, e⟩ := w3 h0
        exact ⟨xk, fun _ => e⟩
    obtain ⟨u, g2, r, a1, a2, a3, a4, ⟨up, un, uc, ux, eu⟩, a5, a6, a7⟩ := app_bools (g := g) (f := X.has i) w1 w2 w4 (fun h0 => by
        obtain ⟨c', b1, b2, _, b4⟩ := hr.b i him h0
        exact ⟨c', (ro.old _ (Heap.lt_of_get b1)).trans b1, b2, b4⟩) (by omega) (fun h0 => by
        obtain ⟨cz, z1, z2⟩ := hr.z i him h0
        rw [v1] at z1
        cases z1
        rw [ew] at z2
        exact z2.imp id fun h => h.imp id fun ⟨b, cp, x, e, _, cc, hb⟩ => ⟨b, cp, x, e, cc, 4, (ro.old _ (Heap.lt_of_get hb)).trans hb⟩)
    subst eu
    obtain ⟨u, eu⟩ : ∃ u, u = V.slice up un uc ux := ⟨_, rfl⟩
    obtain ⟨g3, eg3⟩ : ∃ g3, g2.push (.cells (Blk.of [.slice up un uc ux]) 64) = g3 := ⟨_, rfl⟩
    have n3 : g3.n = g2.n + 1 := by rw [← eg3]; simp
    have k3 : ∀ b, b < g2.n → g3.get b = g2.get b := fun b hb => by rw [← eg3, w_push_ne (by omega)]
    obtain ⟨h5, r5, w5, eB, n5, b5, k5, rw5⟩ := grow_app (P := Try.prog) (bytes := 24) (xb := g2.n) (x := .slice up un uc ux) ((ro.gh.keep a3).keep k3) (by rw [← eg3, w_push_eq rfl]) a4 (by rw [ro.len]; omega) (by rw [ro.len]; omega)
    rw [ro.len] at eB k5 rw5
    have hvb : ∀ b, vh = .slice (some (b, 0)) i i false → h.n + 2 ≤ b ∧ b < g.n := ro.bh
    have c1g2 := (a3 (h.n + 1) (by omega)).trans c1
    have c5' : h5.get (h.n + 1) = some (.cells cb 68) := by
      rw [k5 _ (by omega) (fun b hb => by have := hvb b hb; omega), k3 _ (by omega)]
      exact c1g2
    have hw5 : ∀ b, b ∈ w5 → h.n ≤ b := fun b hb => by
      rcases rw5 with ⟨_, rfl, _⟩ | ⟨b', hb', ev, _, _, rfl⟩
      · simp at hb
      · rw [List.mem_singleton.1 hb]
        have := hvb b' ev
        omega
    have hr1 : allB (fun b => h.n ≤ b ∨ R b) r := allB_of fun b _ => .inr (hR b)
    simp -implicitDefEqProofs (disch := (first | omega | (simp -implicitDefEqProofs only [szs, ne_eq] <;> omega) | fail)) only [go_sem, Nat.reduceAdd, Nat.reduceLT, Nat.reduceEqDiff, ↓reduceIte, reduceCtorEq, ir56_l0, t0, t6, t7, undefV, x1g, x2, x6, hRx, v1g, v2, ew, hRh, appendV_of ap_64, appendV_of ap_66, ↓a1, c1, c2, c3, c6, eg3, ↓eB, c5']
    simp only [List.not_mem_nil, or_false, false_or, and_false, false_implies, implies_true, not_false_eq_true, List.mem_cons, and_true, true_and]
    obtain ⟨h7, e7⟩ : ∃ h7, h5.set (h.n + 1) (.cells (cb.set 2 (.slice (some (g3.n, 0)) (i + 1) (i + 1) false)) 68) = h7 := ⟨_, rfl⟩
    rw [e7]
    have k7 : ∀ b, b ≠ h.n + 1 → h7.get b = h5.get b := fun b hb => by rw [← e7, w_set_ne (by omega) hb]
    have n7 : h7.n = h5.n := by rw [← e7]; simp
    have c7 : h7.get (h.n + 1) = some (.cells (cb.set 2 (.slice (some (g3.n, 0)) (i + 1) (i + 1) false)) 68) := by rw [← e7, w_set_eq (by omega) rfl]
    have kk : ∀ b, b < g.n → b ≠ h.n + 1 → (∀ c, vh = .slice (some (c, 0)) i i false → b ≠ c) → h7.get b = g.get b := fun b hb h1 h2 => by
      rw [k7 b h1, k5 b (by omega) h2, k3 b (by omega), a3 b hb]
    have hvt : ∀ b c e, vh = .slice (some (b, 0)) i i false → g.get b = some (.cells c e) → e = 64 := fun b c e ev hg => by
      rcases ro.gh with ⟨_, e1⟩ | ⟨b', _, e1, e2⟩
      · rw [e1] at ev; cases ev
      · rw [ev] at e1
        cases e1
        rw [hg] at e2
        cases e2
        rfl
    obtain ⟨cq', y1, y2⟩ := ro.q
    refine ⟨by (try and_intros) <;> intros <;> omega, ⟨fun b _ _ => .inr (hR b), fun b _ _ => .inr (hR b), fun b _ hb => .inl (hw5 b hb)⟩, k - 1, by omega, i + 1, fun a => if a = i then g.n else hk' a, lh' ++ [.slice up un uc ux], .slice (some (g3.n, 0)) (i + 1) (i + 1) false, by omega, congrArg _ (by omega), ⟨by simp [ro.len], by omega, fun b hb => ?_, ⟨cq', ?_, y2⟩, ⟨_, xq', c7, by rw [Blk.size_set]; exact c2, by rw [Blk.ro_set]; exact c3, ?_, ?_, ?_⟩, .inr ⟨g3.n, by simp, by simp [ro.len], ?_⟩, fun b e => ?_, fun a ha => ?_, fun a ha h0 => ?_, fun a b ha hb h0 h0' hne => ?_⟩⟩
    · rw [kk b (by omega) (by omega) (fun c ev => by have := hvb c ev; omega)]
      exact ro.old b hb
    · rw [kk _ (by omega) (by omega) (fun c ev => by have := hvb c ev; omega)]
      exact y1
    · rw [w_bset_ne (by omega)]; exact c4
    · rw [w_bset_ne (by omega)]; exact c5
    · rw [w_bset_eq rfl]
    · rw [k7 _ (by omega)]
      exact b5
    · cases e
      omega
    · by_cases e : a = i
      · subst e
        rw [getD_snoc ro.len, if_pos rfl]
        exact ⟨rfl, a5, fun h0 => (a7 h0).1, a6⟩
      · rw [getD_left (by rw [ro.len]; omega), if_neg e]
        exact ro.el a (by omega)
    · by_cases e : a = i
      · subst e
        rw [if_pos rfl]
        obtain ⟨_, y3, y4, y5, y6⟩ := a7 h0
        exact ⟨by omega, y4, by rw [k7 _ (by omega), k5 _ (by omega) (fun c ev => by have := hvb c ev; omega), k3 _ y3]; exact y5, y6⟩
      · rw [if_neg e]
        obtain ⟨y3, y4, y5, y6⟩ := ro.bb a (by omega) h0
        exact ⟨y3, y4, by rw [kk _ (Heap.lt_of_get y5) (by omega) (fun c ev hc => absurd (hvt _ _ _ ev (hc ▸ y5)) (by decide))]; exact y5, y6⟩
    · by_cases e : a = i
      · rw [if_pos e, if_neg (by omega)]
        obtain ⟨_, c', y5, _⟩ := ro.bb b (by omega) h0'
        have := Heap.lt_of_get y5
        omega
      · by_cases e' : b = i
        · rw [if_neg e, if_pos e']
          obtain ⟨_, c', y5, _⟩ := ro.bb a (by omega) h0
          have := Heap.lt_of_get y5
          omega
        · rw [if_neg e, if_neg e']
          exact ro.inj a b (by omega) (by omega) h0 h0' hne
  · have : i = X.n := by omega
    subst this
    simp -implicitDefEqProofs (disch := (first | omega | (simp -implicitDefEqProofs only [szs, ne_eq] <;> omega) | fail)) only [go_sem, Nat.reduceAdd, Nat.reduceLT, Nat.reduceEqDiff, ↓reduceIte, reduceCtorEq, ir56_l0, t0, t6, t7, x1g, x2, x6, hRx]
    obtain ⟨hb', hext⟩ := ro.ext hr
    exact ⟨by omega, ro.old, hb', hk', hext⟩
end Go.Proofs.Ythdkhbhicimpdaa
