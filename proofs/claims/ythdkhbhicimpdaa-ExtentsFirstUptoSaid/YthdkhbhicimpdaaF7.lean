/- Over of the program's extents. -/
import Derived.Test.YthdkhbhicimpdaaEC
set_option linter.unusedVariables false
set_option maxRecDepth 100000
namespace Go.Proofs.Ythdkhbhicimpdaa
open Go Go.Vm
attribute [-go_sem] sz_113
theorem ap_55 : apT Try.prog 55 55 = some (123, 1, 8) := by kernel_rfl
def z60 : List V := [V.ptr none, V.int .i64 0, V.int .i64 0, V.slice none 0 0 true, V.int .i64 0, V.int .i64 0, V.slice none 0 0 true, V.int .i64 0, V.int .i64 0, V.slice none 0 0 true, V.int .i64 0, V.int .i64 0, V.slice none 0 0 true, V.int .i64 0, V.int .i64 0, V.slice none 0 0 true, V.int .i64 0, V.int .i64 0, V.slice none 0 0 true, V.int .i64 0, V.int .i64 0, V.slice none 0 0 true, V.int .i64 0, V.int .i64 0, V.slice none 0 0 true, V.int .i64 0]
theorem zv_60 : zeroV Try.prog 60 = some (.agg z60) := by kernel_rfl
theorem z60_len : z60.length = 26 := rfl
structure XO (h g : Heap) (bd : Nat) (X : XS) (i : Nat) (tb : Nat → Nat) (c : Blk) : Prop where
  gn : h.n + 1 ≤ g.n
  old : ∀ b, b < h.n → g.get b = h.get b
  x : ∃ d, g.get h.n = some (.cells d 60) ∧ d.size = 26 ∧ d.ro = false ∧ d.get 0 = .ptr (some (bd, 0)) ∧ d.get 25 = c.get 25 ∧
    (∀ a, a < 8 → d.get (1 + a * 3) = c.get (1 + a * 3) ∧ d.get (1 + a * 3 + 1) = c.get (1 + a * 3 + 1)) ∧ (∀ a, a < 8 → X.n ≤ a → d.get (1 + a * 3 + 2) = .slice none 0 0 true) ∧ ∀ a, a < i → a < X.n → d.get (1 + a * 3 + 2) = .slice (some (tb a, 0)) (X.wds a) (X.wds a) false
  t : ∀ a, a < i → a < X.n → h.n + 1 ≤ tb a ∧ tb a < g.n ∧ WordsAt g (tb a) (X.wds a) (X.has a)
  inj : ∀ a a', a < i → a' < i → a < X.n → a' < X.n → a ≠ a' → tb a ≠ tb a'
set_option maxHeartbeats 2000000 in
theorem xover_ok {h : Heap} {R W : Set'} {bx bd bd' : Nat} {tb : Nat → Nat} {L L' : DL} {X : XS} {D D' : DS} (hx : ExtAt h bx bd tb X) (hd : DiskAt h bd L D) (hd' : DiskAt h bd' L' D') (he : D'.n = D.n) (hR : ∀ b, R b) :
    SF Try.prog 18 [.ptr (some (bx, 0)), .ptr (some (bd', 0))] h R W fun v h' => v = .tuple [.ptr (some (h.n, 0)), .int .i64 0] ∧ (∀ b, b < h.n → h'.get b = h.get b) ∧ ∃ tb', ExtAt h' h.n bd' tb' X ∧ ∀ a, a < X.n → h.n ≤ tb' a := by
  obtain ⟨c, x1, sz, ro, c0, cp, c25⟩ := hx.x
  have hRx := hR bx
  have hdp := hd.pos
  have hne : ∀ x : Int, (x != x) = false := fun x => by simp
  have hrest : ∀ a, X.n ≤ a → a < 8 → c.get (1 + a * 3) = .int .i64 0 ∧ c.get (1 + a * 3 + 1) = .int .i64 0 ∧ c.get (1 + a * 3 + 2) = .slice none 0 0 true := by
    obtain ⟨c', r1, r2⟩ := hx.rest
    rw [x1] at r1
    cases r1
    exact r2
  have hones : ∀ j, j < 26 → (c.get j).one = true := fun j hj => by
    by_cases h0 : j = 0
    · rw [h0, c0]; rfl
    by_cases h25 : j = 25
    · rw [h25, c25]; rfl
    obtain ⟨a, r, ha, hr, e⟩ : ∃ a r, a < 8 ∧ r < 3 ∧ j = 1 + a * 3 + r := ⟨(j - 1) / 3, (j - 1) % 3, by omega, by omega, by omega⟩
    have h3 : (c.get (1 + a * 3)).one = true ∧ (c.get (1 + a * 3 + 1)).one = true ∧ (c.get (1 + a * 3 + 2)).one = true := by
      by_cases hn : a < X.n
      · obtain ⟨p0, p1, xw, p2⟩ := cp a hn
        rw [p0, p1, p2]
        exact ⟨rfl, rfl, rfl⟩
      · obtain ⟨p0, p1, p2⟩ := hrest a (by omega) ha
        rw [p0, p1, p2]
        exact ⟨rfl, rfl, rfl⟩
    have : r = 0 ∨ r = 1 ∨ r = 2 := by omega
    rcases this with rfl | rfl | rfl
    · rw [e]; exact h3.1
    · rw [e]; exact h3.2.1
    · rw [e]; exact h3.2.2
  refine SF.go hm Try.func18 ir18_eq ?_
  simp -implicitDefEqProofs (disch := (first | omega | (simp -implicitDefEqProofs only [szs, ne_eq] <;> omega) | fail)) only [go_sem, Nat.reduceAdd, Nat.reduceSub, Nat.reduceLT, Nat.reduceMod, Nat.reduceDiv, ↓reduceIte, reduceCtorEq, ir18]
  refine GCall.of (xthere_ok hx (Or.inr hRx)) ?_
  rintro v h' ⟨rfl, rfl⟩
  simp -implicitDefEqProofs (disch := (first | omega | (simp -implicitDefEqProofs only [szs, ne_eq] <;> omega) | fail)) only [go_sem, Nat.reduceAdd, Nat.reduceSub, Nat.reduceLT, Nat.reduceMod, Nat.reduceDiv, ↓reduceIte, reduceCtorEq]
  refine GCall.of (size_ok hd' (.inr (hR _))) ?_
  rintro v h' ⟨rfl, rfl⟩
  rw [he]
  simp -implicitDefEqProofs (disch := (first | omega | (simp -implicitDefEqProofs only [szs, ne_eq] <;> omega) | fail)) only [go_sem, Nat.reduceAdd, Nat.reduceSub, Nat.reduceLT, Nat.reduceMod, Nat.reduceDiv, ↓reduceIte, reduceCtorEq]
  refine GCallD.of (R' := fun _ => True) (W' := fun _ => False) (size_ok hd' trivial) ?_
  rintro v h' ⟨rfl, rfl⟩
  rw [he]
  simp -implicitDefEqProofs (disch := (first | omega | (simp -implicitDefEqProofs only [szs, ne_eq] <;> omega) | fail)) only [go_sem, Nat.reduceAdd, Nat.reduceSub, Nat.reduceLT, Nat.reduceMod, Nat.reduceDiv, ↓reduceIte, reduceCtorEq, x1, sz, c0]
  refine GCallD.of (R' := fun _ => True) (W' := fun _ => False) (size_ok hd trivial) ?_
  rintro v h' ⟨rfl, rfl⟩
  simp -implicitDefEqProofs (disch := (first | omega | (simp -implicitDefEqProofs only [szs, ne_eq] <;> omega) | fail)) only [go_sem, Nat.reduceAdd, Nat.reduceSub, Nat.reduceLT, Nat.reduceMod, Nat.reduceDiv, ↓reduceIte, reduceCtorEq, undefV, hne, x1, sz, c0, hRx, zv_60, z60_len, ↓hones]
  obtain ⟨d0, e0⟩ : ∃ d0, ((Blk.of z60).putA 0 [V.ptr (some (bd, 0)), c.get 1, c.get 2, c.get 3, c.get 4, c.get 5, c.get 6, c.get 7, c.get 8, c.get 9, c.get 10, c.get 11, c.get 12, c.get 13, c.get 14, c.get 15, c.get 16, c.get 17, c.get 18, c.get 19, c.get 20, c.get 21, c.get 22, c.get 23, c.get 24, c.get 25]).set 0 (.ptr (some (bd', 0))) = d0 := ⟨_, rfl⟩
  rw [e0]
  have z0 : d0.size = 26 := by rw [← e0, Blk.size_set, Blk.size_putA]; rfl
  have z1 : d0.ro = false := by rw [← e0, Blk.ro_set, Blk.ro_putA]; rfl
  have z2 : d0.get 0 = .ptr (some (bd', 0)) := by rw [← e0, w_bset_eq rfl]
  have z3 : ∀ j, 1 ≤ j → j < 26 → d0.get j = c.get j := fun j hj1 hj => by
    rw [← e0, w_bset_ne (by omega)]
    match j, hj1, hj with
    | 0, h, _ => exact absurd h (by omega)
    | 1, _, _ => rfl
    | 2, _, _ => rfl
    | 3, _, _ => rfl
    | 4, _, _ => rfl
    | 5, _, _ => rfl
    | 6, _, _ => rfl
    | 7, _, _ => rfl
    | 8, _, _ => rfl
    | 9, _, _ => rfl
    | 10, _, _ => rfl
    | 11, _, _ => rfl
    | 12, _, _ => rfl
    | 13, _, _ => rfl
    | 14, _, _ => rfl
    | 15, _, _ => rfl
    | 16, _, _ => rfl
    | 17, _, _ => rfl
    | 18, _, _ => rfl
    | 19, _, _ => rfl
    | 20, _, _ => rfl
    | 21, _, _ => rfl
    | 22, _, _ => rfl
    | 23, _, _ => rfl
    | 24, _, _ => rfl
    | 25, _, _ => rfl
    | n + 26, _, h => exact absurd h (by omega)
  obtain ⟨g0, eg⟩ : ∃ g0, ((h'.push (.cells (Blk.of z60) 60)).set h'.n (.cells ((Blk.of z60).putA 0 [V.ptr (some (bd, 0)), c.get 1, c.get 2, c.get 3, c.get 4, c.get 5, c.get 6, c.get 7, c.get 8, c.get 9, c.get 10, c.get 11, c.get 12, c.get 13, c.get 14, c.get 15, c.get 16, c.get 17, c.get 18, c.get 19, c.get 20, c.get 21, c.get 22, c.get 23, c.get 24, c.get 25]) 60)).set h'.n (.cells d0 60) = g0 := ⟨_, rfl⟩
  rw [eg]
  have ng : g0.n = h'.n + 1 := by rw [← eg]; simp
  have gg : g0.get h'.n = some (.cells d0 60) := by rw [← eg, w_set_eq (by simp) rfl]
  have kg : ∀ b, b < h'.n → g0.get b = h'.get b := fun b hb => by rw [← eg, w_set_ne (by simp) (by omega), w_set_ne (by simp) (by omega), w_push_ne (by omega)]
  have lx := Heap.lt_of_get x1
  simp only [List.not_mem_nil, or_false, false_or, and_false, false_implies, implies_true, not_false_eq_true, List.mem_cons, and_true, true_and]
  refine ⟨?_, ?_, ?_⟩
  · intros; omega
  · exact ⟨fun b _ _ => .inr (hR b), fun b _ _ => .inr (hR b)⟩
  refine GLoop.inv hm (fun k f g => f.mks = [] ∧ f.tm.n = 47 ∧ f.tm.get 0 = some (.ptr (some (bx, 0))) ∧ f.tm.get 6 = some (.ptr (some (h'.n, 0))) ∧ ∃ (i : Nat) (tb' : Nat → Nat), i + k = 8 ∧ f.tm.get 31 = some (.int .i64 i) ∧ XO h' g bd' X i tb' c) 8 ?_ ?_
  · exact ⟨rfl, rfl, by simp -implicitDefEqProofs (disch := (first | omega | (simp -implicitDefEqProofs only [szs, ne_eq] <;> omega) | fail)) only [go_sem, ↓reduceIte], by simp -implicitDefEqProofs (disch := (first | omega | (simp -implicitDefEqProofs only [szs, ne_eq] <;> omega) | fail)) only [go_sem, Nat.reduceSub, Nat.reduceMod, Nat.reduceDiv, ↓reduceIte, reduceCtorEq], 0, fun _ => 0, by omega, by simp -implicitDefEqProofs (disch := (first | omega | (simp -implicitDefEqProofs only [szs, ne_eq] <;> omega) | fail)) only [go_sem, Nat.reduceMod, Nat.reduceDiv, ↓reduceIte, reduceCtorEq]; rfl, ⟨by omega, kg, ⟨d0, gg, z0, z1, z2, z3 25 (by omega) (by omega), fun a ha => ⟨z3 _ (by omega) (by omega), z3 _ (by omega) (by omega)⟩, fun a ha hn => by rw [z3 _ (by omega) (by omega)]; exact (hrest a hn ha).2.2, fun a ha => by omega⟩, fun a ha => by omega, fun a a' ha => by omega⟩⟩
  rintro k ⟨⟨n', tr⟩, mks⟩ g ⟨hmk, hn', t0, t6, i, tb', hi, t31, xo⟩
  simp only [Tm.get_mk] at hmk hn' t0 t6 t31
  subst hmk hn'
  have hgn := xo.gn
  obtain ⟨d, o1, o2, o3, o4, o5, o6, o7, o8⟩ := xo.x
  have x1g := (xo.old bx lx).trans x1
  have lg := Heap.lt_of_get o1
  by_cases hi8 : i < 8
  · by_cases hin : i < X.n
    · obtain ⟨p0, p1, xw, p2⟩ := cp i hin
      obtain ⟨cw, u1, u2, u3, u4⟩ := hx.t i hin
      have hfx := hx.fit i hin
      have hwd : X.wds i ≤ 65 := by unfold XS.wds; omega
      have hwd0 : 0 < X.wds i := by unfold XS.wds; omega
      have u1g := (xo.old _ (Heap.lt_of_get u1)).trans u1
      have hRt := hR (tb i)
      have hA := append_nilS (e := 123) (sz := 1) (bytes := 8) (cap := X.wds i) (ex := xw) (o := 0) (m := X.wds i) u1g (by omega) hwd0 (by omega) (by omega)
      simp -implicitDefEqProofs (disch := (first | omega | (simp -implicitDefEqProofs only [szs, ne_eq] <;> omega) | fail)) only [go_sem, Nat.reduceAdd, Nat.reduceLT, Nat.reduceEqDiff, ↓reduceIte, reduceCtorEq, ir18_l0, t0, t6, t31, x1g, sz, p2, hRx, appendV_of ap_55, ↓hA, hRt, o1, o2, o3]
      obtain ⟨g1, eg1⟩ : ∃ g1, (g.push (.cells (Blk.of (cw.gets 0 (X.wds i * 1))) 123)).set h'.n (.cells (d.set (1 + i * 3 + 2) (.slice (some (g.n, 0)) (X.wds i) (X.wds i) false)) 60) = g1 := ⟨_, rfl⟩
      rw [Nat.mul_one] at eg1
      have n1 : g1.n = g.n + 1 := by rw [← eg1]; simp
      have k1 : ∀ b, b < g.n → b ≠ h'.n → g1.get b = g.get b := fun b hb hne => by rw [← eg1, w_set_ne (by simp; omega) hne, w_push_ne (by omega)]
      have d1 : g1.get h'.n = some (.cells (d.set (1 + i * 3 + 2) (.slice (some (g.n, 0)) (X.wds i) (X.wds i) false)) 60) := by rw [← eg1, w_set_eq (by simp; omega) rfl]
      have w1 : g1.get g.n = some (.cells (Blk.of (cw.gets 0 (X.wds i))) 123) := by rw [← eg1, w_set_ne (by simp; omega) (by omega), w_push_eq rfl]
      refine ⟨k - 1, by omega, i + 1, fun a => if a = i then g.n else tb' a, by omega, congrArg _ (by omega), ?_⟩
      rw [eg1]
      refine ⟨by omega, fun b hb => by rw [k1 b (by omega) (by omega)]; exact xo.old b hb, ⟨_, d1, by rw [Blk.size_set]; exact o2, by rw [Blk.ro_set]; exact o3, by rw [w_bset_ne (by omega)]; exact o4, by rw [w_bset_ne (by omega)]; exact o5, fun a ha => ⟨by rw [w_bset_ne (by omega)]; exact (o6 a ha).1, by rw [w_bset_ne (by omega)]; exact (o6 a ha).2⟩, fun a ha hn => by rw [w_bset_ne (by omega)]; exact o7 a ha hn, fun a ha hn => ?_⟩, fun a ha hn => ?_, fun a a' ha ha' hn hn' hne => ?_⟩
      · by_cases e : a = i
        · subst e
          rw [w_bset_eq rfl, if_pos rfl]
        · rw [w_bset_ne (by omega), if_neg e]
          exact o8 a (by omega) hn
      · by_cases e : a = i
        · subst e
          rw [if_pos rfl]
          refine ⟨by omega, by omega, _, w1, by rw [w_of_size, Blk.length_gets], rfl, fun k hk => ?_⟩
          obtain ⟨w, y1, y2⟩ := u4 k hk
          refine ⟨w, ?_, y2⟩
          rw [Blk.get_of _ _ (by rw [Blk.length_gets]; exact hk), List.getD_eq_getElem?_getD, Blk.gets_get _ _ _ _ hk, Option.getD_some, Nat.zero_add]
          exact y1
        · rw [if_neg e]
          obtain ⟨y1, y2, cc, y3, y4⟩ := xo.t a (by omega) hn
          exact ⟨y1, by omega, cc, by rw [k1 _ y2 (by omega)]; exact y3, y4⟩
      · by_cases e : a = i
        · rw [if_pos e, if_neg (by omega)]
          have := (xo.t a' (by omega) hn').2.1
          omega
        · by_cases e' : a' = i
          · rw [if_neg e, if_pos e']
            have := (xo.t a (by omega) hn).2.1
            omega
          · rw [if_neg e, if_neg e']
            exact xo.inj a a' (by omega) (by omega) hn hn' hne
    · obtain ⟨p0, p1, p2⟩ := hrest i (by omega) hi8
      have hA : appE 123 1 8 (.slice none 0 0 true) (.slice none 0 0 true) g = some ⟨.slice none 0 0 true, g, [], []⟩ := rfl
      simp -implicitDefEqProofs (disch := (first | omega | (simp -implicitDefEqProofs only [szs, ne_eq] <;> omega) | fail)) only [go_sem, Nat.reduceAdd, Nat.reduceLT, Nat.reduceEqDiff, ↓reduceIte, reduceCtorEq, ir18_l0, t0, t6, t31, x1g, sz, p2, hRx, appendV_of ap_55, ↓hA, o1, o2, o3]
      obtain ⟨g1, eg1⟩ : ∃ g1, g.set h'.n (.cells (d.set (1 + i * 3 + 2) (.slice none 0 0 true)) 60) = g1 := ⟨_, rfl⟩
      have n1 : g1.n = g.n := by rw [← eg1]; simp
      have k1 : ∀ b, b ≠ h'.n → g1.get b = g.get b := fun b hne => by rw [← eg1, w_set_ne lg hne]
      have d1 : g1.get h'.n = some (.cells (d.set (1 + i * 3 + 2) (.slice none 0 0 true)) 60) := by rw [← eg1, w_set_eq lg rfl]
      refine ⟨k - 1, by omega, i + 1, tb', by omega, congrArg _ (by omega), ?_⟩
      rw [eg1]
      refine ⟨by omega, fun b hb => by rw [k1 b (by omega)]; exact xo.old b hb, ⟨_, d1, by rw [Blk.size_set]; exact o2, by rw [Blk.ro_set]; exact o3, by rw [w_bset_ne (by omega)]; exact o4, by rw [w_bset_ne (by omega)]; exact o5, fun a ha => ⟨by rw [w_bset_ne (by omega)]; exact (o6 a ha).1, by rw [w_bset_ne (by omega)]; exact (o6 a ha).2⟩, fun a ha hn => ?_, fun a ha hn => by rw [w_bset_ne (by omega)]; exact o8 a (by omega) hn⟩, fun a ha hn => ?_, fun a a' ha ha' hn hn' hne => xo.inj a a' (by omega) (by omega) hn hn' hne⟩
      · by_cases e : a = i
        · subst e; rw [w_bset_eq rfl]
        · rw [w_bset_ne (by omega)]; exact o7 a ha hn
      · obtain ⟨y1, y2, cc, y3, y4⟩ := xo.t a (by omega) hn
        exact ⟨y1, by omega, cc, by rw [k1 _ (by omega)]; exact y3, y4⟩
  · obtain rfl : i = 8 := by omega
    simp -implicitDefEqProofs (disch := (first | omega | (simp -implicitDefEqProofs only [szs, ne_eq] <;> omega) | fail)) only [go_sem, Nat.reduceAdd, Nat.reduceLT, Nat.reduceEqDiff, ↓reduceIte, ir18_l0, t6, t31]
    refine ⟨xo.old, tb', ⟨hx.pos, ⟨d, o1, o2, o3, o4, fun a ha => ?_, o5.trans c25⟩, fun a ha => (xo.t a (by have := hx.pos; omega) ha).2.2, fun a a' ha ha' hne => xo.inj a a' (by have := hx.pos; omega) (by have := hx.pos; omega) ha ha' hne, hx.fit, ⟨d, o1, fun a hn ha => ?_⟩⟩, fun a ha => by have := (xo.t a (by have := hx.pos; omega) ha).1; omega⟩
    · have hp := hx.pos
      obtain ⟨p0, p1, xw, p2⟩ := cp a ha
      obtain ⟨q0, q1⟩ := o6 a (by omega)
      exact ⟨q0.trans p0, q1.trans p1, false, o8 a (by omega) ha⟩
    · obtain ⟨p0, p1, p2⟩ := hrest a hn ha
      obtain ⟨q0, q1⟩ := o6 a ha
      exact ⟨q0.trans p0, q1.trans p1, o7 a ha hn⟩
end Go.Proofs.Ythdkhbhicimpdaa
