/- stands: the turns over Dirty. -/
import Derived.Test.YtgkcbpagdfdpdaaD1
set_option linter.unusedVariables false
set_option linter.unusedSimpArgs false
set_option linter.unusedSimpArgs false
set_option maxRecDepth 100000
set_option linter.unusedVariables false
set_option linter.unusedSimpArgs false
namespace Go.Proofs.Ytgkcbpagdfdpdaa
open Go Go.Vm
attribute [-go_sem] sz_67
/-- What the turns stand on: a heap of which nothing changes any more. -/
structure Base (g : Heap) (S : Set') (bd rd b1 b4 b5 b7 : Nat) (L : DL) (D : DS) (lv : V) (leave : Int) : Prop where
  d : DiskAt g bd L D
  r : RefAt g S rd D
  l : LR g (fun _ => True) lv (D.dirty.map fun (s : Nat) => V.int .i64 s)
  c1 : g.get b1 = some (.cells (Blk.of [.ptr (some (bd, 0))]) 26)
  c4 : ∃ c, g.get b4 = some (.cells c 45) ∧ c.size = 1 ∧ c.get 0 = .ptr (some (rd, 0))
  c5 : ∃ c, g.get b5 = some (.cells c 3) ∧ c.size = 1 ∧ c.get 0 = .int .i64 leave
  c7 : ∃ c, g.get b7 = some (.cells c 80) ∧ c.size = 1 ∧ c.get 0 = lv
theorem Base.old {g g' : Heap} {S : Set'} {bd rd b1 b4 b5 b7 : Nat} {L : DL} {D : DS} {lv : V} {leave : Int} (h : Base g S bd rd b1 b4 b5 b7 L D lv leave) (hk : ∀ b, b < g.n → g'.get b = g.get b) : Base g' S bd rd b1 b4 b5 b7 L D lv leave := by
  obtain ⟨h1, h2, h3, h4, ⟨x4, h5⟩, ⟨x5, h6⟩, ⟨x7, h7⟩⟩ := h
  exact ⟨h1.old hk, h2.old hk, h3.old hk, by rw [hk _ (Heap.lt_of_get h4)]; exact h4, ⟨x4, by rw [hk _ (Heap.lt_of_get h5.1)]; exact h5⟩, ⟨x5, by rw [hk _ (Heap.lt_of_get h6.1)]; exact h6⟩, ⟨x7, by rw [hk _ (Heap.lt_of_get h7.1)]; exact h7⟩⟩
structure TN (g0 : Heap) (a b16 b17 : Nat) (tr : Tr V) (tv : Int) (p : Nat) (g : Heap) : Prop where
  n : a + 2 ≤ g.n
  mark : g.get a = some (.deferred true)
  loop : g.get (a + 1) = some (.loop ⟨.ready, none, ⟨219, tr⟩, [160, 161], (rc21 0).1, (rc21 0).2, a⟩)
  turn : ∃ c, g.get b16 = some (.cells c 3) ∧ c.size = 1 ∧ c.get 0 = .int .i64 tv
  cnt : ∃ c, g.get b17 = some (.cells c 3) ∧ c.size = 1 ∧ c.ro = false ∧ c.get 0 = .int .i64 p
  old : ∀ b, b < g0.n → g.get b = g0.get b
structure TJ (g0 : Heap) (a b16 b17 : Nat) (tr : Tr V) (leave : Int) (g : Heap) : Prop where
  n : a + 2 ≤ g.n
  mark : g.get a = some (.deferred true)
  loop : g.get (a + 1) = some (.loop ⟨.done, some (.exit 4), ⟨219, tr⟩, [160, 161], (rc21 0).1, (rc21 0).2, a⟩)
  turn : ∃ c, g.get b16 = some (.cells c 3) ∧ c.size = 1 ∧ c.get 0 = .int .i64 0
  cnt : ∃ c, g.get b17 = some (.cells c 3) ∧ c.size = 1 ∧ c.ro = false ∧ c.get 0 = .int .i64 leave
  old : ∀ b, b < g0.n → g.get b = g0.get b
theorem TN.keep {g0 g g' : Heap} {a b16 b17 : Nat} {tr : Tr V} {tv : Int} {p : Nat} (hg : g0.n ≤ g.n) (d : TN g0 a b16 b17 tr tv p g) (h1 : g.n ≤ g'.n) (h2 : ∀ b, b < g.n → g'.get b = g.get b) : TN g0 a b16 b17 tr tv p g' := by
  have := d.n
  obtain ⟨c, e, r⟩ := d.turn
  obtain ⟨c2, e2, r2⟩ := d.cnt
  exact ⟨by omega, by rw [h2 _ (by omega)]; exact d.mark, by rw [h2 _ (by omega)]; exact d.loop, ⟨c, by rw [h2 _ (Heap.lt_of_get e)]; exact e, r⟩, ⟨c2, by rw [h2 _ (Heap.lt_of_get e2)]; exact e2, r2⟩, fun b hb => by rw [h2 _ (by omega)]; exact d.old b hb⟩
set_option maxHeartbeats 1000000 in
theorem st_round {g0 g : Heap} {S : Set'} {bd rd b1 b4 b5 b7 a b16 b17 : Nat} {L : DL} {D : DS} {lv : V} {leave tv : Int} {tr : Tr V} {p s : Nat} (hb : Base g0 S bd rd b1 b4 b5 b7 L D lv leave) (ha : g0.n ≤ a) (h16 : b16 < a) (h17 : g0.n ≤ b17 ∧ b17 < a) (hne : b16 ≠ b17) (htv : tv = 0 ∨ tv = 1)
    (t4 : tr.get 4 = some (.ptr (some (b4, 0)))) (t5 : tr.get 5 = some (.ptr (some (b5, 0)))) (t7 : tr.get 7 = some (.ptr (some (b7, 0)))) (t16 : tr.get 16 = some (.ptr (some (b16, 0)))) (t17 : tr.get 17 = some (.ptr (some (b17, 0)))) (hs : D.dirty[p]? = some s) (d : TN g0 a b16 b17 tr tv p g) :
    SY ⟨Try.prog, true⟩ (a + 1) [.int .i64 s, .int .i64 (D.pe s).length] g (fun _ => True) (fun b => a + 2 ≤ b ∨ (b = b17 ∨ b = a + 1)) (fun v g' => (v = .bool true ∧ TN g0 a b16 b17 tr tv (p + 1) g' ∨ v = .bool false ∧ tv = 0 ∧ TJ g0 a b16 b17 tr leave g') ∧ ∀ b, a + 2 ≤ b → b < g.n → g'.get b = g.get b) := by
  have hdn := d.n
  refine SY.go hm d.loop trivial (.inr (.inr rfl)) rfl ir21_a0_eq ir21_b0_eq ?_
  simp -implicitDefEqProofs (disch := (first | omega | (simp -implicitDefEqProofs only [szs, ne_eq] <;> omega) | fail)) only [go_sem, Nat.reduceAdd, Nat.reduceSub, Nat.reduceMul, Nat.reduceLT, Nat.reduceMod, Nat.reduceDiv, Nat.reduceEqDiff, Nat.reduceBEq, Nat.reduceLeDiff, ↓reduceIte, reduceCtorEq, Int.reduceAdd, Int.reduceSub, Int.reduceLT, Int.reduceLE, Int.reduceBEq, Int.reduceEq, Int.reduceToNat, ir21_a0]
  refine ⟨_, d.loop, rfl, ?_⟩
  obtain ⟨o, ho⟩ : ∃ o, o = O.loop ⟨.busy, none, ⟨219, tr⟩, [160, 161], (rc21 0).1, (rc21 0).2, a⟩ := ⟨_, rfl⟩
  have hpl : p < D.dirty.length := (List.getElem?_eq_some_iff.1 hs).1
  have hmd := mem_dirty.1 (List.mem_of_getElem? hs)
  have hdl := dirty_len D
  obtain ⟨c, e16, s16, v16⟩ := d.turn
  obtain ⟨c2, e17, s17, r17, v17⟩ := d.cnt
  have hB : Base (g.set (a + 1) o) S bd rd b1 b4 b5 b7 L D lv leave := hb.old fun b hb => by rw [w_set_ne (by omega) (by omega)]; exact d.old b hb
  have e16' : (g.set (a + 1) o).get b16 = some (.cells c 3) := by rw [w_set_ne (by omega) (by omega)]; exact e16
  have e17' : (g.set (a + 1) o).get b17 = some (.cells c2 3) := by rw [w_set_ne (by omega) (by omega)]; exact e17
  have hl : (g.set (a + 1) o).get (a + 1) = some o := w_set_eq (by omega) rfl _
  have hn : (g.set (a + 1) o).n = g.n := by simp
  have hk : ∀ b, b ≠ a + 1 → (g.set (a + 1) o).get b = g.get b := fun b hb => w_set_ne (by omega) hb _
  rw [← ho]
  generalize g.set (a + 1) o = h2 at *
  obtain ⟨x4, e4, s4, v4⟩ := hB.c4
  obtain ⟨x5, e5, s5, v5⟩ := hB.c5
  obtain ⟨x7, e7, s7, v7⟩ := hB.c7
  have hp := hB.r.pos
  obtain ⟨cr, fb, pb, xf, xp, d1, d2, d3, d4, d5, d6, _, _, _, ⟨cp, p1, p2, p3, p4⟩⟩ := hB.r.d
  obtain ⟨vs, v1, vl, v3⟩ := p4 s hmd.1
  have hlp := v1.lenV Try.underlying75
  rw [vl] at hlp
  have hlen := hB.l.lenV Try.underlying80
  rw [List.length_map] at hlen
  obtain ⟨b, o2, cap, ex, cc, ce, hlv, _, hbb, hbs, hbg⟩ := hB.l.get (i := p) (by simpa using hpl)
  rw [List.length_map] at hbs hlv
  rw [List.getD_eq_getElem?_getD, List.getElem?_map, hs, Option.map_some, Option.getD_some] at hbg
  rw [hlv] at v7 hlen
  have hn1 := Heap.lt_of_get e17'
  have hb5 : b5 < g0.n := by obtain ⟨x, e, _⟩ := hb.c5; exact Heap.lt_of_get e
  have fin : ∀ (x : Int) (st : LoopState) (pe : Option Code), a + 2 ≤ ((h2.set b17 (.cells (c2.set 0 (.int .i64 x)) 3)).set (a + 1) (.loop ⟨st, pe, ⟨219, tr⟩, [160, 161], (rc21 0).1, (rc21 0).2, a⟩)).n ∧ ((h2.set b17 (.cells (c2.set 0 (.int .i64 x)) 3)).set (a + 1) (.loop ⟨st, pe, ⟨219, tr⟩, [160, 161], (rc21 0).1, (rc21 0).2, a⟩)).get a = some (.deferred true) ∧ ((h2.set b17 (.cells (c2.set 0 (.int .i64 x)) 3)).set (a + 1) (.loop ⟨st, pe, ⟨219, tr⟩, [160, 161], (rc21 0).1, (rc21 0).2, a⟩)).get (a + 1) = some (.loop ⟨st, pe, ⟨219, tr⟩, [160, 161], (rc21 0).1, (rc21 0).2, a⟩) ∧
      (∃ c, ((h2.set b17 (.cells (c2.set 0 (.int .i64 x)) 3)).set (a + 1) (.loop ⟨st, pe, ⟨219, tr⟩, [160, 161], (rc21 0).1, (rc21 0).2, a⟩)).get b16 = some (.cells c 3) ∧ c.size = 1 ∧ c.get 0 = .int .i64 tv) ∧ (∃ c, ((h2.set b17 (.cells (c2.set 0 (.int .i64 x)) 3)).set (a + 1) (.loop ⟨st, pe, ⟨219, tr⟩, [160, 161], (rc21 0).1, (rc21 0).2, a⟩)).get b17 = some (.cells c 3) ∧ c.size = 1 ∧ c.ro = false ∧ c.get 0 = .int .i64 x) ∧ (∀ b, b < g0.n → ((h2.set b17 (.cells (c2.set 0 (.int .i64 x)) 3)).set (a + 1) (.loop ⟨st, pe, ⟨219, tr⟩, [160, 161], (rc21 0).1, (rc21 0).2, a⟩)).get b = g0.get b) ∧ (∀ b, a + 2 ≤ b → b < g.n → ((h2.set b17 (.cells (c2.set 0 (.int .i64 x)) 3)).set (a + 1) (.loop ⟨st, pe, ⟨219, tr⟩, [160, 161], (rc21 0).1, (rc21 0).2, a⟩)).get b = g.get b) := fun x st pe => by
    have q : ∀ b, b ≠ a + 1 → b ≠ b17 → ((h2.set b17 (.cells (c2.set 0 (.int .i64 x)) 3)).set (a + 1) (.loop ⟨st, pe, ⟨219, tr⟩, [160, 161], (rc21 0).1, (rc21 0).2, a⟩)).get b = g.get b := fun b h1 h3 => by
      rw [w_set_ne (by rw [Heap.n_set]; omega) h1, w_set_ne hn1 h3, hk b h1]
    refine ⟨by rw [Heap.n_set, Heap.n_set]; omega, by rw [q a (by omega) (by omega)]; exact d.mark, w_set_eq (by rw [Heap.n_set]; omega) rfl _, ⟨c, by rw [q b16 (by omega) hne]; exact e16, s16, v16⟩, ⟨c2.set 0 (.int .i64 x), ?_, by rw [Blk.size_set]; exact s17, by rw [Blk.ro_set]; exact r17, w_bset_eq rfl _⟩, fun b hb => ?_, fun b h1 h3 => q b (by omega) (by omega)⟩
    · rw [w_set_ne (by rw [Heap.n_set]; omega) (by omega)]; exact w_set_eq hn1 rfl _
    · rw [q b (by omega) (by omega)]; exact d.old b hb
  rcases htv with rfl | rfl
  · by_cases hlv : ((p : Int) + 1) = leave
    · simp -implicitDefEqProofs (disch := (first | omega | (simp -implicitDefEqProofs only [szs, ne_eq] <;> omega) | fail)) only [go_sem, Nat.reduceAdd, Nat.reduceSub, Nat.reduceMul, Nat.reduceLT, Nat.reduceMod, Nat.reduceDiv, Nat.reduceEqDiff, Nat.reduceBEq, Nat.reduceLeDiff, ↓reduceIte, reduceCtorEq, Int.reduceAdd, Int.reduceSub, Int.reduceLT, Int.reduceLE, Int.reduceBEq, Int.reduceEq, Int.reduceToNat, ir21_b0, t4, t5, t7, t16, t17, e4, s4, v4, e5, s5, v5, e7, s7, v7, e16', s16, v16, e17', s17, r17, v17, ↓hlen, hbb, hbs, hbg, d1, d2, d5, p1, p2, ↓hlp, hlv, hb5, undefV]
      refine ⟨_, hl.trans (congrArg some ho), ?_⟩
      obtain ⟨f1, f2, f3, f4, f5, f6, f7⟩ := fin leave .done (some (.exit 4))
      exact ⟨.inr ⟨rfl, ⟨f1, f2, f3, f4, f5, f6⟩⟩, f7⟩
    · have hlv2 : ((p : Int) + 1 == leave) = false := by simpa using hlv
      simp -implicitDefEqProofs (disch := (first | omega | (simp -implicitDefEqProofs only [szs, ne_eq] <;> omega) | fail)) only [go_sem, Nat.reduceAdd, Nat.reduceSub, Nat.reduceMul, Nat.reduceLT, Nat.reduceMod, Nat.reduceDiv, Nat.reduceEqDiff, Nat.reduceBEq, Nat.reduceLeDiff, ↓reduceIte, reduceCtorEq, Int.reduceAdd, Int.reduceSub, Int.reduceLT, Int.reduceLE, Int.reduceBEq, Int.reduceEq, Int.reduceToNat, ir21_b0, t4, t5, t7, t16, t17, e4, s4, v4, e5, s5, v5, e7, s7, v7, e16', s16, v16, e17', s17, r17, v17, ↓hlen, hbb, hbs, hbg, d1, d2, d5, p1, p2, ↓hlp, hlv2, hb5, undefV]
      refine ⟨_, hl.trans (congrArg some ho), ?_⟩
      obtain ⟨f1, f2, f3, f4, f5, f6, f7⟩ := fin (p + 1) .ready none
      exact ⟨.inl ⟨rfl, ⟨f1, f2, f3, f4, f5, f6⟩⟩, f7⟩
  · simp -implicitDefEqProofs (disch := (first | omega | (simp -implicitDefEqProofs only [szs, ne_eq] <;> omega) | fail)) only [go_sem, Nat.reduceAdd, Nat.reduceSub, Nat.reduceMul, Nat.reduceLT, Nat.reduceMod, Nat.reduceDiv, Nat.reduceEqDiff, Nat.reduceBEq, Nat.reduceLeDiff, ↓reduceIte, reduceCtorEq, Int.reduceAdd, Int.reduceSub, Int.reduceLT, Int.reduceLE, Int.reduceBEq, Int.reduceEq, Int.reduceToNat, ir21_b0, t4, t5, t7, t16, t17, e4, s4, v4, e5, s5, v5, e7, s7, v7, e16', s16, v16, e17', s17, r17, v17, ↓hlen, hbb, hbs, hbg, d1, d2, d5, p1, p2, ↓hlp, hb5, undefV]
    refine ⟨_, hl.trans (congrArg some ho), ?_⟩
    obtain ⟨f1, f2, f3, f4, f5, f6, f7⟩ := fin (p + 1) .ready none
    exact ⟨.inl ⟨rfl, ⟨f1, f2, f3, f4, f5, f6⟩⟩, f7⟩
set_option maxHeartbeats 2000000 in
theorem st_turns {g0 : Heap} {R W S : Set'} {Q' : Ex → Fr → Heap → Prop} {t : List It} {bd rd b1 b4 b5 b7 : Nat} {L : DL} {D : DS} {lv v6 : V} {leave : Int} (hb : Base g0 S bd rd b1 b4 b5 b7 L D lv leave) (hR : ∀ b, R b) (hW : ∀ b, g0.n ≤ b → W b)
    (hk : ∀ tr g m0 m1, tr.get 6 = some v6 → (∀ b, b < g0.n → g.get b = g0.get b) → g0.n ≤ m0 → g0.n ≤ m1 → m0 ≠ m1 → g.get m0 = some (.deferred true) → g.get m1 = some (.deferred true) → resume ⟨Try.prog, true⟩ R W none Q' t (.exit 2) ⟨⟨219, tr⟩, [m1, m0]⟩ g)
    {tr : Tr V} {g : Heap} {b16 : Nat} (hold : ∀ b, b < g0.n → g.get b = g0.get b) (hgn : g0.n ≤ g.n) (h16 : g0.n ≤ b16) (c16 : ∃ c, g.get b16 = some (.cells c 3) ∧ c.size = 1 ∧ c.ro = false ∧ c.get 0 = .int .i64 0)
    (t4 : tr.get 4 = some (.ptr (some (b4, 0)))) (t5 : tr.get 5 = some (.ptr (some (b5, 0)))) (t6 : tr.get 6 = some v6) (t7 : tr.get 7 = some (.ptr (some (b7, 0)))) (t15 : tr.get 15 = some (.func 47 [] [.ptr (some (b1, 0))])) (t16 : tr.get 16 = some (.ptr (some (b16, 0)))) : GLoop ⟨Try.prog, true⟩ R W none Q' ir21_l1 t ⟨⟨219, tr⟩, []⟩ g := by
  refine GLoop.inv hm (fun k f g => f.tm.n = 219 ∧ f.tm.get 4 = some (.ptr (some (b4, 0))) ∧ f.tm.get 5 = some (.ptr (some (b5, 0))) ∧ f.tm.get 6 = some v6 ∧ f.tm.get 7 = some (.ptr (some (b7, 0))) ∧ f.tm.get 15 = some (.func 47 [] [.ptr (some (b1, 0))]) ∧ (∀ b, b < g0.n → g.get b = g0.get b) ∧ g0.n ≤ g.n ∧ ∃ tv b16 : Nat, tv + k = 2 ∧ f.tm.get 16 = some (.ptr (some (b16, 0))) ∧ g0.n ≤ b16 ∧ (∃ c, g.get b16 = some (.cells c 3) ∧ c.size = 1 ∧ c.ro = false ∧ c.get 0 = .int .i64 tv) ∧ f.mks.length = tv ∧ f.mks.Nodup ∧ ∀ m ∈ f.mks, g0.n ≤ m ∧ g.get m = some (.deferred true)) 2 ?_ ?_
  · exact ⟨rfl, t4, t5, t6, t7, t15, hold, hgn, 0, b16, by omega, t16, h16, c16, rfl, List.nodup_nil, fun m hm => by cases hm⟩
  clear t4 t5 t6 t7 t15 t16 hold hgn h16 c16
  clear tr b16 g
  rintro k ⟨⟨n', tr⟩, mks⟩ g ⟨hn', t4, t5, t6, t7, t15, hold, hgn, tv, b16, htv, t16, h16, ⟨c, e16, s16, r16, v16⟩, hml, hmn, hmm⟩
  simp only [Tm.get_mk] at hn' t4 t5 t6 t7 t15 t16 hml hmn hmm
  subst hn'
  have hbg := hb.old hold
  have hlt16 := Heap.lt_of_get e16
  have hR16 := hR b16
  by_cases htv2 : tv < 2
  · simp -implicitDefEqProofs (disch := (first | omega | (simp -implicitDefEqProofs only [szs, ne_eq] <;> omega) | fail)) only [go_sem, Nat.reduceAdd, Nat.reduceSub, Nat.reduceMul, Nat.reduceLT, Nat.reduceMod, Nat.reduceDiv, Nat.reduceEqDiff, Nat.reduceBEq, Nat.reduceLeDiff, ↓reduceIte, reduceCtorEq, Int.reduceAdd, Int.reduceSub, Int.reduceLT, Int.reduceLE, Int.reduceBEq, Int.reduceEq, Int.reduceToNat, ir21_l1, t4, t5, t6, t7, t15, t16, e16, s16, v16, hR16]
    have htn : (tv : Int) = 0 ∨ (tv : Int) = 1 := by omega
    refine ⟨hW _ (by omega), ?_⟩
    obtain ⟨gA, egA, nA, cA, kA⟩ : ∃ gA, ((g.push (.cells (Blk.of [V.int .i64 0]) 3)).set g.n (.cells ((Blk.of [V.int .i64 0]).set 0 (V.int .i64 0)) 3)) = gA ∧ gA.n = g.n + 1 ∧ (∃ c, gA.get g.n = some (.cells c 3) ∧ c.size = 1 ∧ c.ro = false ∧ c.get 0 = .int .i64 0) ∧ ∀ b, b < g.n → gA.get b = g.get b := ⟨_, rfl, by simp, ⟨_, w_set_eq (by simp) rfl _, rfl, rfl, w_bset_eq rfl _⟩, fun b hb => by rw [w_set_ne (by simp) (by omega), w_push_ne (by omega)]⟩
    rw [egA]
    have hb1 := Heap.lt_of_get hbg.c1
    refine GRange.outer (k := 47) (xs := []) (ys := [.ptr (some (b1, 0))]) (by simp -implicitDefEqProofs (disch := (first | omega | (simp -implicitDefEqProofs only [szs, ne_eq] <;> omega) | fail)) only [go_sem, Nat.reduceAdd, Nat.reduceSub, Nat.reduceMul, Nat.reduceLT, Nat.reduceMod, Nat.reduceDiv, Nat.reduceEqDiff, Nat.reduceBEq, Nat.reduceLeDiff, ↓reduceIte, reduceCtorEq, Int.reduceAdd, Int.reduceSub, Int.reduceLT, Int.reduceLE, Int.reduceBEq, Int.reduceEq, Int.reduceToNat]) ca_47 ?_
    refine SF.mono (SF.foot (seq47 (l := gA.n + 1) (W := fun b => b = g.n ∨ b = gA.n + 1) (b1 := b1) (bd := bd) (L := L) (D := D) (fun p g' => TN g gA.n b16 g.n (Tr.put 160
                (Tr.put 18 (Tr.put 157 (Tr.put 156 tr 155 (V.int IntKind.i64 ↑tv)) 156 (V.bool true)) 17
                  (V.ptr (some (g.n, 0))))
                159 (V.func 47 [] [V.ptr (some (b1, 0))])) tv p g') (fun g' => (tv : Int) = 0 ∧ TJ g gA.n b16 g.n (Tr.put 160
                (Tr.put 18 (Tr.put 157 (Tr.put 156 tr 155 (V.int IntKind.i64 ↑tv)) 156 (V.bool true)) 17
                  (V.ptr (some (g.n, 0))))
                159 (V.func 47 [] [V.ptr (some (b1, 0))])) leave g') ?_ ?_ ?_ (fun p g' d => ⟨hbg.d.old d.old, ?_, ?_⟩) (fun p g1 g2 d h1 h2 => d.keep (by have := d.n; omega) h1 h2) ?_ (fun p s g' hs d => st_round hbg (by omega) (by omega) (by omega) (by omega) htn (by simp -implicitDefEqProofs (disch := (first | omega | (simp -implicitDefEqProofs only [szs, ne_eq] <;> omega) | fail)) only [go_sem, Nat.reduceAdd, Nat.reduceSub, Nat.reduceMul, Nat.reduceLT, Nat.reduceMod, Nat.reduceDiv, Nat.reduceEqDiff, Nat.reduceBEq, Nat.reduceLeDiff, ↓reduceIte, reduceCtorEq, Int.reduceAdd, Int.reduceSub, Int.reduceLT, Int.reduceLE, Int.reduceBEq, Int.reduceEq, Int.reduceToNat, t4]) (by simp -implicitDefEqProofs (disch := (first | omega | (simp -implicitDefEqProofs only [szs, ne_eq] <;> omega) | fail)) only [go_sem, Nat.reduceAdd, Nat.reduceSub, Nat.reduceMul, Nat.reduceLT, Nat.reduceMod, Nat.reduceDiv, Nat.reduceEqDiff, Nat.reduceBEq, Nat.reduceLeDiff, ↓reduceIte, reduceCtorEq, Int.reduceAdd, Int.reduceSub, Int.reduceLT, Int.reduceLE, Int.reduceBEq, Int.reduceEq, Int.reduceToNat, t5]) (by simp -implicitDefEqProofs (disch := (first | omega | (simp -implicitDefEqProofs only [szs, ne_eq] <;> omega) | fail)) only [go_sem, Nat.reduceAdd, Nat.reduceSub, Nat.reduceMul, Nat.reduceLT, Nat.reduceMod, Nat.reduceDiv, Nat.reduceEqDiff, Nat.reduceBEq, Nat.reduceLeDiff, ↓reduceIte, reduceCtorEq, Int.reduceAdd, Int.reduceSub, Int.reduceLT, Int.reduceLE, Int.reduceBEq, Int.reduceEq, Int.reduceToNat, t7]) (by simp -implicitDefEqProofs (disch := (first | omega | (simp -implicitDefEqProofs only [szs, ne_eq] <;> omega) | fail)) only [go_sem, Nat.reduceAdd, Nat.reduceSub, Nat.reduceMul, Nat.reduceLT, Nat.reduceMod, Nat.reduceDiv, Nat.reduceEqDiff, Nat.reduceBEq, Nat.reduceLeDiff, ↓reduceIte, reduceCtorEq, Int.reduceAdd, Int.reduceSub, Int.reduceLT, Int.reduceLE, Int.reduceBEq, Int.reduceEq, Int.reduceToNat, t16]) (by simp -implicitDefEqProofs (disch := (first | omega | (simp -implicitDefEqProofs only [szs, ne_eq] <;> omega) | fail)) only [go_sem, Nat.reduceAdd, Nat.reduceSub, Nat.reduceMul, Nat.reduceLT, Nat.reduceMod, Nat.reduceDiv, Nat.reduceEqDiff, Nat.reduceBEq, Nat.reduceLeDiff, ↓reduceIte, reduceCtorEq, Int.reduceAdd, Int.reduceSub, Int.reduceLT, Int.reduceLE, Int.reduceBEq, Int.reduceEq, Int.reduceToNat]) hs d)) (fun b _ => hR b) (fun b hb => by rcases hb with rfl | rfl <;> exact hW _ (by omega))) ?_
    · exact hbg.d.old fun b hb => by rw [w_push_ne (by simp; omega), w_push_ne (by omega), kA b hb]
    · rw [w_push_ne (by simp; omega), w_push_ne (by omega), kA b1 hb1]; exact hbg.c1
    · obtain ⟨cc, q1, q2, q3, q4⟩ := cA
      exact ⟨by simp, by rw [w_push_ne (by simp), w_push_eq rfl], w_push_eq (by simp) _, ⟨c, by rw [w_push_ne (by simp; omega), w_push_ne (by omega), kA b16 hlt16]; exact e16, s16, v16⟩, ⟨cc, by rw [w_push_ne (by simp; omega), w_push_ne (by omega)]; exact q1, q2, q3, q4⟩, fun b hb => by rw [w_push_ne (by simp; omega), w_push_ne (by omega), kA b hb]⟩
    · rw [d.old b1 hb1, w_push_ne (by simp; omega), w_push_ne (by omega), kA b1 hb1]
    · have := d.n; simp; omega
    · rintro b (rfl | rfl) <;> simp <;> omega
    rintro v2 g2 hq
    have hend : ∃ x : Int, ∃ st pe, (st = LoopState.ready ∧ pe = none ∧ x = D.dirty.length ∨ st = LoopState.done ∧ pe = some (.exit 4) ∧ (tv : Int) = 0 ∧ x = leave) ∧ gA.n + 2 ≤ g2.n ∧ g2.get gA.n = some (.deferred true) ∧ g2.get (gA.n + 1) = some (.loop ⟨st, pe, ⟨219, (Tr.put 160
                (Tr.put 18 (Tr.put 157 (Tr.put 156 tr 155 (V.int IntKind.i64 ↑tv)) 156 (V.bool true)) 17
                  (V.ptr (some (g.n, 0))))
                159 (V.func 47 [] [V.ptr (some (b1, 0))]))⟩, [160, 161], (rc21 0).1, (rc21 0).2, gA.n⟩) ∧ (∃ c, g2.get g.n = some (.cells c 3) ∧ c.size = 1 ∧ c.ro = false ∧ c.get 0 = .int .i64 x) ∧ ∀ b, b < g.n → g2.get b = g.get b := by
      rcases hq with d | ⟨h0, d⟩
      · exact ⟨_, _, _, .inl ⟨rfl, rfl, rfl⟩, d.n, d.mark, d.loop, d.cnt, d.old⟩
      · exact ⟨_, _, _, .inr ⟨rfl, rfl, h0, rfl⟩, d.n, d.mark, d.loop, d.cnt, d.old⟩
    obtain ⟨x, st, pe, hst, hn2, hmk, hlo, ⟨cc, q1, q2, q3, q4⟩, hold2⟩ := hend
    have hst2 : st ≠ .busy := by rcases hst with ⟨rfl, _⟩ | ⟨rfl, _⟩ <;> simp
    refine ⟨_, hlo, hst2, hW _ (by omega), ?_⟩
    obtain ⟨g3, eg3, n3, m3, c3, k3⟩ : ∃ g3, (g2.set (gA.n + 1) (O.loop ⟨.exhausted, pe, ⟨219, (Tr.put 160
                (Tr.put 18 (Tr.put 157 (Tr.put 156 tr 155 (V.int IntKind.i64 ↑tv)) 156 (V.bool true)) 17
                  (V.ptr (some (g.n, 0))))
                159 (V.func 47 [] [V.ptr (some (b1, 0))]))⟩, [160, 161], (rc21 0).1, (rc21 0).2, gA.n⟩)) = g3 ∧ g3.n = g2.n ∧ g3.get gA.n = some (.deferred true) ∧ g3.get g.n = some (.cells cc 3) ∧ ∀ b, b < g.n → g3.get b = g.get b := ⟨_, rfl, by simp, by rw [w_set_ne (by omega) (by omega)]; exact hmk, by rw [w_set_ne (by omega) (by omega)]; exact q1, fun b hb => by rw [w_set_ne (by omega) (by omega)]; exact hold2 b hb⟩
    have hb3 := hbg.old k3
    obtain ⟨x5, e5, s5, v5⟩ := hb3.c5
    obtain ⟨x7, e7, s7, v7⟩ := hb3.c7
    have hlen := hb3.l.lenV Try.underlying80
    rw [List.length_map] at hlen
    have e16' := (k3 b16 hlt16).trans e16
    have hRn := hR g.n
    have hR5 := hR b5
    have hR7 := hR b7
    have hWg := hW g3.n (by omega)
    have hml2 : ∀ m ∈ gA.n :: mks, g0.n ≤ m ∧ g3.get m = some (.deferred true) := fun m hm => by
      rcases List.mem_cons.1 hm with rfl | hm
      · exact ⟨by omega, m3⟩
      · obtain ⟨h1, h2⟩ := hmm m hm
        exact ⟨h1, by rw [k3 m (Heap.lt_of_get h2)]; exact h2⟩
    have hmn2 : (gA.n :: mks).Nodup := List.nodup_cons.2 ⟨fun hm => by have := Heap.lt_of_get (hmm _ hm).2; omega, hmn⟩
    have hold3 : ∀ b, b < g0.n → g3.get b = g0.get b := fun b hb => by rw [k3 b (by omega), hold b hb]
    have fin : ∀ (z y : Int), y = tv + 1 → ∃ k', k' < k ∧ (∀ b, b < g0.n → (((g3.push (.cells (Blk.of [V.int .i64 0]) 3)).set g3.n (.cells ((Blk.of [V.int .i64 0]).set 0 (V.int .i64 z)) 3)).set g3.n (.cells (((Blk.of [V.int .i64 0]).set 0 (V.int .i64 z)).set 0 (V.int .i64 y)) 3)).get b = g0.get b) ∧ g0.n ≤ g3.n + 1 ∧ ∃ tv b16 : Nat, tv + k' = 2 ∧ V.ptr (some (g3.n, 0)) = V.ptr (some (b16, 0)) ∧ g0.n ≤ b16 ∧ (∃ c, (((g3.push (.cells (Blk.of [V.int .i64 0]) 3)).set g3.n (.cells ((Blk.of [V.int .i64 0]).set 0 (V.int .i64 z)) 3)).set g3.n (.cells (((Blk.of [V.int .i64 0]).set 0 (V.int .i64 z)).set 0 (V.int .i64 y)) 3)).get b16 = some (.cells c 3) ∧ c.size = 1 ∧ c.ro = false ∧ c.get 0 = V.int .i64 tv) ∧ mks.length + 1 = tv ∧ (gA.n :: mks).Nodup ∧ ∀ m ∈ gA.n :: mks, g0.n ≤ m ∧ (((g3.push (.cells (Blk.of [V.int .i64 0]) 3)).set g3.n (.cells ((Blk.of [V.int .i64 0]).set 0 (V.int .i64 z)) 3)).set g3.n (.cells (((Blk.of [V.int .i64 0]).set 0 (V.int .i64 z)).set 0 (V.int .i64 y)) 3)).get m = some (.deferred true) := fun z y hy => by
      have q : ∀ b, b < g3.n → (((g3.push (.cells (Blk.of [V.int .i64 0]) 3)).set g3.n (.cells ((Blk.of [V.int .i64 0]).set 0 (V.int .i64 z)) 3)).set g3.n (.cells (((Blk.of [V.int .i64 0]).set 0 (V.int .i64 z)).set 0 (V.int .i64 y)) 3)).get b = g3.get b := fun b hb => by
        rw [w_set_ne (by simp) (by omega), w_set_ne (by simp) (by omega), w_push_ne (by omega)]
      refine ⟨k - 1, by omega, fun b hb => by rw [q b (by omega)]; exact hold3 b hb, by omega, tv + 1, g3.n, by omega, rfl, by omega, ⟨_, w_set_eq (by simp) rfl _, rfl, rfl, by rw [w_bset_eq rfl, hy]; rfl⟩, by omega, hmn2, fun m hm => ?_⟩
      obtain ⟨h1, h2⟩ := hml2 m hm
      exact ⟨h1, by rw [q m (Heap.lt_of_get h2)]; exact h2⟩
    have hRg3 := hR g3.n
    rcases hst with ⟨rfl, rfl, rfl⟩ | ⟨rfl, rfl, h0, rfl⟩
    · simp only []
      rw [eg3]
      rcases htn with h0 | h0
      · simp -implicitDefEqProofs (disch := (first | omega | (simp -implicitDefEqProofs only [szs, ne_eq] <;> omega) | fail)) only [go_sem, Nat.reduceAdd, Nat.reduceSub, Nat.reduceMul, Nat.reduceLT, Nat.reduceMod, Nat.reduceDiv, Nat.reduceEqDiff, Nat.reduceBEq, Nat.reduceLeDiff, ↓reduceIte, reduceCtorEq, Int.reduceAdd, Int.reduceSub, Int.reduceLT, Int.reduceLE, Int.reduceBEq, Int.reduceEq, Int.reduceToNat, t4, t5, t6, t7, t15, t16, e16', s16, r16, v16, hR16, c3, q2, q3, q4, hRn, e5, s5, v5, hR5, e7, s7, v7, hR7, ↓hlen, h0, hWg, hRg3, undefV]
        exact fin 0 1 (by omega)
      · simp -implicitDefEqProofs (disch := (first | omega | (simp -implicitDefEqProofs only [szs, ne_eq] <;> omega) | fail)) only [go_sem, Nat.reduceAdd, Nat.reduceSub, Nat.reduceMul, Nat.reduceLT, Nat.reduceMod, Nat.reduceDiv, Nat.reduceEqDiff, Nat.reduceBEq, Nat.reduceLeDiff, ↓reduceIte, reduceCtorEq, Int.reduceAdd, Int.reduceSub, Int.reduceLT, Int.reduceLE, Int.reduceBEq, Int.reduceEq, Int.reduceToNat, t4, t5, t6, t7, t15, t16, e16', s16, r16, v16, hR16, c3, q2, q3, q4, hRn, e5, s5, v5, hR5, e7, s7, v7, hR7, ↓hlen, h0, hWg, hRg3, undefV]
        exact fin 1 2 (by omega)
    · simp only []
      rw [eg3]
      by_cases hll : x = D.dirty.length
      · simp -implicitDefEqProofs (disch := (first | omega | (simp -implicitDefEqProofs only [szs, ne_eq] <;> omega) | fail)) only [go_sem, Nat.reduceAdd, Nat.reduceSub, Nat.reduceMul, Nat.reduceLT, Nat.reduceMod, Nat.reduceDiv, Nat.reduceEqDiff, Nat.reduceBEq, Nat.reduceLeDiff, ↓reduceIte, reduceCtorEq, Int.reduceAdd, Int.reduceSub, Int.reduceLT, Int.reduceLE, Int.reduceBEq, Int.reduceEq, Int.reduceToNat, t4, t5, t6, t7, t15, t16, e16', s16, r16, v16, hR16, c3, q2, q3, q4, hRn, e5, s5, v5, hR5, e7, s7, v7, hR7, ↓hlen, h0, hll, hWg, hRg3, undefV]
        exact fin 0 1 (by omega)
      · have hll2 : (x == (D.dirty.length : Int)) = false := by simpa using hll
        simp -implicitDefEqProofs (disch := (first | omega | (simp -implicitDefEqProofs only [szs, ne_eq] <;> omega) | fail)) only [go_sem, Nat.reduceAdd, Nat.reduceSub, Nat.reduceMul, Nat.reduceLT, Nat.reduceMod, Nat.reduceDiv, Nat.reduceEqDiff, Nat.reduceBEq, Nat.reduceLeDiff, ↓reduceIte, reduceCtorEq, Int.reduceAdd, Int.reduceSub, Int.reduceLT, Int.reduceLE, Int.reduceBEq, Int.reduceEq, Int.reduceToNat, t4, t5, t6, t7, t15, t16, e16', s16, r16, v16, hR16, c3, q2, q3, q4, hRn, e5, s5, v5, hR5, e7, s7, v7, hR7, ↓hlen, h0, hll2, hWg, hRg3, undefV]
        exact fin 0 1 (by omega)
  · have : tv = 2 := by omega
    subst this
    match mks, hml with
    | [m1, m0], _ =>
      obtain ⟨h1, h2⟩ := hmm m1 (by simp)
      obtain ⟨h3, h4⟩ := hmm m0 (by simp)
      simp -implicitDefEqProofs (disch := (first | omega | (simp -implicitDefEqProofs only [szs, ne_eq] <;> omega) | fail)) only [go_sem, Nat.reduceAdd, Nat.reduceSub, Nat.reduceMul, Nat.reduceLT, Nat.reduceMod, Nat.reduceDiv, Nat.reduceEqDiff, Nat.reduceBEq, Nat.reduceLeDiff, ↓reduceIte, reduceCtorEq, Int.reduceAdd, Int.reduceSub, Int.reduceLT, Int.reduceLE, Int.reduceBEq, Int.reduceEq, Int.reduceToNat, ir21_l1, t4, t5, t6, t7, t15, t16, e16, s16, v16, hR16]
      exact hk _ g m0 m1 (by simp -implicitDefEqProofs (disch := (first | omega | (simp -implicitDefEqProofs only [szs, ne_eq] <;> omega) | fail)) only [go_sem, Nat.reduceAdd, Nat.reduceSub, Nat.reduceMul, Nat.reduceLT, Nat.reduceMod, Nat.reduceDiv, Nat.reduceEqDiff, Nat.reduceBEq, Nat.reduceLeDiff, ↓reduceIte, reduceCtorEq, Int.reduceAdd, Int.reduceSub, Int.reduceLT, Int.reduceLE, Int.reduceBEq, Int.reduceEq, Int.reduceToNat, t6]) hold h3 h1 (fun e => by simp at hmn; exact hmn e.symm) h4 h2
end Go.Proofs.Ytgkcbpagdfdpdaa
