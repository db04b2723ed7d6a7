/- The document's disk: Flush, Copy. -/
import Derived.Test.YtgkcbpagdfdpdaaR5
set_option linter.unusedVariables false
set_option linter.unusedSimpArgs false
set_option linter.unusedSimpArgs false
set_option maxRecDepth 100000
set_option linter.unusedVariables false
set_option linter.unusedSimpArgs false
namespace Go.Proofs.Ytgkcbpagdfdpdaa
open Go Go.Vm
attribute [-go_sem] sz_67
theorem RefX.setF {h h' : Heap} {S : Set'} {rd fb pb s : Nat} {D : DS} {v : V} {l : List V} (hr : RefX h S rd fb pb D) (hs : s < D.n) (hv : LR h (Rx S rd fb pb) v l) (hl : IsSec l)
    (kf : ∃ cf, h.get fb = some (.cells cf 33) ∧ h'.get fb = some (.cells (cf.set s v) 33)) (hk : ∀ b, b ≠ fb → b < h.n → h'.get b = h.get b) : RefX h' S rd fb pb { D with fl := fun y => if y = s then l else D.fl y } := by
  obtain ⟨e1, e2, e3⟩ := hr.ne
  obtain ⟨hp, r, ⟨c, xf, xp, d1, d2, d3, d4, d5, d6⟩, ⟨cf, f1, f2, f3, f4⟩, ⟨cp, p1, p2, p3, p4⟩, h1, h2, h3, h4⟩ := hr
  obtain ⟨cf0, q0, q1⟩ := kf
  rw [f1] at q0; cases q0
  have hx : ∀ b, Rx S rd fb pb b → b < h.n → h'.get b = h.get b := fun b hb hlt => hk b hb.2.2.1 hlt
  refine ⟨hp, r, ⟨c, xf, xp, by rw [hk _ e1 (Heap.lt_of_get d1)]; exact d1, d2, d3, d4, d5, d6⟩, ⟨_, q1, by rw [Blk.size_set]; exact f2, by rw [Blk.ro_set]; exact f3, fun y hy => ?_⟩, ⟨cp, by rw [hk _ (Ne.symm e3) (Heap.lt_of_get p1)]; exact p1, p2, p3, fun y hy => (p4 y hy).same hx⟩, fun y hy => ?_, h2, h3, h4⟩
  · have hy : y < D.n := hy
    show LR h' _ _ (if y = s then l else D.fl y)
    by_cases hys : y = s
    · subst hys
      rw [w_bset_eq rfl, if_pos rfl]
      exact hv.same hx
    · rw [w_bset_ne hys, if_neg hys]
      exact (f4 y hy).same hx
  · show IsSec (if y = s then l else D.fl y)
    split
    · exact hl
    · exact h1 y hy
theorem Rn_mono {S : Set'} {n n1 n2 b : Nat} (h : Rn S n n1 b) (hn : n1 ≤ n2) : Rn S n n2 b := h.imp id fun h => ⟨h.1, by omega⟩
theorem rflush_bad {h : Heap} {R W S : Set'} {rd : Nat} {D : DS} (hr : RefAt h S rd D) (hR : ∀ b, R b) {a m : Int} (hb : m < 0 ∨ a < 0 ∨ a > D.n ∨ m > D.n - a) (ha' : -9223372036854775808 ≤ a ∧ a ≤ 9223372036854775807) : SF Try.prog 43 [.ptr (some (rd, 0)), .int .i64 a, .int .i64 m] h R W fun v h' => v = .int .i64 2 ∧ h' = h := by
  obtain ⟨c, fb, pb, xf, xp, d1, d2, d3, d4, d5, d6, _⟩ := hr.d
  have hRr := hR rd
  have hp := hr.pos
  refine SF.go hm Try.func43 ir43_eq ?_
  by_cases h0 : m < 0
  · simp -implicitDefEqProofs (disch := (first | omega | (simp -implicitDefEqProofs only [szs, ne_eq] <;> omega) | fail)) only [go_sem, Nat.reduceAdd, Nat.reduceSub, Nat.reduceMul, Nat.reduceLT, Nat.reduceMod, Nat.reduceDiv, Nat.reduceEqDiff, Nat.reduceBEq, Nat.reduceLeDiff, ↓reduceIte, reduceCtorEq, Int.reduceAdd, Int.reduceSub, Int.reduceLT, Int.reduceLE, Int.reduceBEq, Int.reduceEq, Int.reduceToNat, ir43, Option.isNone_some, undefV]
  · by_cases h1 : a < 0
    · simp -implicitDefEqProofs (disch := (first | omega | (simp -implicitDefEqProofs only [szs, ne_eq] <;> omega) | fail)) only [go_sem, Nat.reduceAdd, Nat.reduceSub, Nat.reduceMul, Nat.reduceLT, Nat.reduceMod, Nat.reduceDiv, Nat.reduceEqDiff, Nat.reduceBEq, Nat.reduceLeDiff, ↓reduceIte, reduceCtorEq, Int.reduceAdd, Int.reduceSub, Int.reduceLT, Int.reduceLE, Int.reduceBEq, Int.reduceEq, Int.reduceToNat, ir43, Option.isNone_some, undefV]
    · by_cases h2 : a > D.n
      · simp -implicitDefEqProofs (disch := (first | omega | (simp -implicitDefEqProofs only [szs, ne_eq] <;> omega) | fail)) only [go_sem, Nat.reduceAdd, Nat.reduceSub, Nat.reduceMul, Nat.reduceLT, Nat.reduceMod, Nat.reduceDiv, Nat.reduceEqDiff, Nat.reduceBEq, Nat.reduceLeDiff, ↓reduceIte, reduceCtorEq, Int.reduceAdd, Int.reduceSub, Int.reduceLT, Int.reduceLE, Int.reduceBEq, Int.reduceEq, Int.reduceToNat, ir43, Option.isNone_some, undefV, d1, d2, d4, hRr]
      · have h3 : m > D.n - a := by omega
        simp -implicitDefEqProofs (disch := (first | omega | (simp -implicitDefEqProofs only [szs, ne_eq] <;> omega) | fail)) only [go_sem, Nat.reduceAdd, Nat.reduceSub, Nat.reduceMul, Nat.reduceLT, Nat.reduceMod, Nat.reduceDiv, Nat.reduceEqDiff, Nat.reduceBEq, Nat.reduceLeDiff, ↓reduceIte, reduceCtorEq, Int.reduceAdd, Int.reduceSub, Int.reduceLT, Int.reduceLE, Int.reduceBEq, Int.reduceEq, Int.reduceToNat, ir43, Option.isNone_some, undefV, d1, d2, d4, hRr]
set_option maxHeartbeats 1000000 in
theorem rflush_ok {h : Heap} {R W S : Set'} {rd fb pb : Nat} {D : DS} (hr : RefX h S rd fb pb D) (hR : ∀ b, R b) (hW : ∀ b, S b → W b) {a m : Nat} (ham : a + m ≤ D.n) :
    SF Try.prog 43 [.ptr (some (rd, 0)), .int .i64 a, .int .i64 m] h R W fun v h' => v = .int .i64 0 ∧ RefX h' (Rn S h.n h'.n) rd fb pb (D.flush a m) := by
  obtain ⟨l1, l2, l3⟩ := hr.lt
  obtain ⟨e1, e2, e3⟩ := hr.ne
  have hp := hr.pos
  have hN := secN_eq
  have hWf := hW fb hr.r.2.1
  have hWp := hW pb hr.r.2.2
  have hRr := hR rd
  have hRp := hR pb
  have hRf := hR fb
  obtain ⟨c, xf, xp, d1, d2, d3, d4, d5, d6⟩ := hr.d
  refine SF.go hm Try.func43 ir43_eq ?_
  simp -implicitDefEqProofs (disch := (first | omega | (simp -implicitDefEqProofs only [szs, ne_eq] <;> omega) | fail)) only [go_sem, Nat.reduceAdd, Nat.reduceSub, Nat.reduceMul, Nat.reduceLT, Nat.reduceMod, Nat.reduceDiv, Nat.reduceEqDiff, Nat.reduceBEq, Nat.reduceLeDiff, ↓reduceIte, reduceCtorEq, Int.reduceAdd, Int.reduceSub, Int.reduceLT, Int.reduceLE, Int.reduceBEq, Int.reduceEq, Int.reduceToNat, ir43, Option.isNone_some, undefV, d1, d2, d4, hRr]
  refine GLoop.inv hm (fun k f g => f.mks = [] ∧ f.tm.n = 60 ∧ f.tm.get 0 = some (.ptr (some (rd, 0))) ∧ f.tm.get 1 = some (.int .i64 a) ∧ f.tm.get 2 = some (.int .i64 m) ∧ ∃ j : Nat, j + k = m ∧ f.tm.get 7 = some (.int .i64 ((a : Int) + j)) ∧ h.n ≤ g.n ∧ RefX g (Rn S h.n g.n) rd fb pb (D.flush a j)) m ?_ ?_
  · exact ⟨rfl, rfl, by simp -implicitDefEqProofs (disch := (first | omega | (simp -implicitDefEqProofs only [szs, ne_eq] <;> omega) | fail)) only [go_sem, Nat.reduceAdd, Nat.reduceSub, Nat.reduceMul, Nat.reduceLT, Nat.reduceMod, Nat.reduceDiv, Nat.reduceEqDiff, Nat.reduceBEq, Nat.reduceLeDiff, ↓reduceIte, reduceCtorEq, Int.reduceAdd, Int.reduceSub, Int.reduceLT, Int.reduceLE, Int.reduceBEq, Int.reduceEq, Int.reduceToNat], by simp -implicitDefEqProofs (disch := (first | omega | (simp -implicitDefEqProofs only [szs, ne_eq] <;> omega) | fail)) only [go_sem, Nat.reduceAdd, Nat.reduceSub, Nat.reduceMul, Nat.reduceLT, Nat.reduceMod, Nat.reduceDiv, Nat.reduceEqDiff, Nat.reduceBEq, Nat.reduceLeDiff, ↓reduceIte, reduceCtorEq, Int.reduceAdd, Int.reduceSub, Int.reduceLT, Int.reduceLE, Int.reduceBEq, Int.reduceEq, Int.reduceToNat], by simp -implicitDefEqProofs (disch := (first | omega | (simp -implicitDefEqProofs only [szs, ne_eq] <;> omega) | fail)) only [go_sem, Nat.reduceAdd, Nat.reduceSub, Nat.reduceMul, Nat.reduceLT, Nat.reduceMod, Nat.reduceDiv, Nat.reduceEqDiff, Nat.reduceBEq, Nat.reduceLeDiff, ↓reduceIte, reduceCtorEq, Int.reduceAdd, Int.reduceSub, Int.reduceLT, Int.reduceLE, Int.reduceBEq, Int.reduceEq, Int.reduceToNat], 0, by omega, by simp -implicitDefEqProofs (disch := (first | omega | (simp -implicitDefEqProofs only [szs, ne_eq] <;> omega) | fail)) only [go_sem, Nat.reduceAdd, Nat.reduceSub, Nat.reduceMul, Nat.reduceLT, Nat.reduceMod, Nat.reduceDiv, Nat.reduceEqDiff, Nat.reduceBEq, Nat.reduceLeDiff, ↓reduceIte, reduceCtorEq, Int.reduceAdd, Int.reduceSub, Int.reduceLT, Int.reduceLE, Int.reduceBEq, Int.reduceEq, Int.reduceToNat]; simp, Nat.le_refl _, by rw [DS.flush_zero]; exact hr.mono fun b _ h => .inl h⟩
  clear d1 d2 d3 d4 d5 d6 c xf xp
  rintro k ⟨⟨n', tr⟩, mks⟩ g ⟨hmk, hn', t0, t1, t2, j, hjk, t7, hgn, hx⟩
  simp only [Tm.get_mk] at hmk hn' t0 t1 t2 t7
  subst hmk hn'
  rw [show (a : Int) + j = ((a + j : Nat) : Int) by omega] at t7
  by_cases hjm : j < m
  · obtain ⟨c, xf, xp, d1, d2, d3, d4, d5, d6⟩ := hx.d
    obtain ⟨cf, f1, f2, f3, f4⟩ := hx.f
    obtain ⟨cp, p1, p2, p3, p4⟩ := hx.p
    have hDn : (D.flush a j).n = D.n := rfl
    rw [hDn] at d4 d5 f2 p2
    have hlt : a + j < (D.flush a j).n := by rw [hDn]; omega
    simp -implicitDefEqProofs (disch := (first | omega | (simp -implicitDefEqProofs only [szs, ne_eq] <;> omega) | fail)) only [go_sem, Nat.reduceAdd, Nat.reduceSub, Nat.reduceMul, Nat.reduceLT, Nat.reduceMod, Nat.reduceDiv, Nat.reduceEqDiff, Nat.reduceBEq, Nat.reduceLeDiff, ↓reduceIte, reduceCtorEq, Int.reduceAdd, Int.reduceSub, Int.reduceLT, Int.reduceLE, Int.reduceBEq, Int.reduceEq, Int.reduceToNat, ir43_l0, t0, t1, t2, t7, d1, d2, d4, hRr]
    refine GCallD.of (R' := R) (W' := fun _ => False) (rseen_ok hx.at hR hlt) ?_
    rintro v g1 ⟨hv, rfl⟩
    have hsec : IsSec ((D.flush a j).seen (a + j)) := by
      by_cases he : (D.flush a j).pe (a + j) = []
      · rw [DS.seen_nil he]; exact hx.fl _ hlt
      · exact hx.pe (a + j) _ (List.mem_of_getElem? (DS.seen_get he))
    have hsl := hsec.1
    obtain ⟨x1, rs1, x2, _⟩ := first_lr hv
    obtain ⟨a1, g2, r1, w1, hap1, o1, m1, k1, hw1, kk1, _⟩ := app_own (n0 := g1.n) (h := g1) (v := .slice none 0 0 true) (x := v) (l := []) (e := 5) (bytes := 1) (Own.nil _ _ _) (Nat.le_refl _) x1 x2 hsec.one (by simp only [List.length_nil]; omega) (by simp only [List.length_nil]; omega)
    rw [List.nil_append] at o1
    have hcv := o1.lr.cells
    have hon := o1.lr.one
    have d1' := (k1 _ (Heap.lt_of_get d1)).trans d1
    have f1' := (k1 _ (Heap.lt_of_get f1)).trans f1
    have p1' := (k1 _ (Heap.lt_of_get p1)).trans p1
    have lt1 := Heap.lt_of_get d1'
    have lt2 := Heap.lt_of_get f1'
    have lt3 := Heap.lt_of_get p1'
    have hRT : ∀ b, R b = True := fun b => eq_true (hR b)
    simp -implicitDefEqProofs (disch := (first | omega | (simp -implicitDefEqProofs only [szs, ne_eq] <;> omega) | fail)) only [go_sem, Nat.reduceAdd, Nat.reduceSub, Nat.reduceMul, Nat.reduceLT, Nat.reduceMod, Nat.reduceDiv, Nat.reduceEqDiff, Nat.reduceBEq, Nat.reduceLeDiff, ↓reduceIte, reduceCtorEq, Int.reduceAdd, Int.reduceSub, Int.reduceLT, Int.reduceLE, Int.reduceBEq, Int.reduceEq, Int.reduceToNat, t0, t1, t2, t7, d1, d2, d4, d5, hRr, appendV_of ap_33, hap1, ↓hcv, ↓hon, d1', f1', f2, f3, hWf, hWp, p1', p2, p3]
    have hx2 : RefX g2 (Rn S h.n g2.n) rd fb pb (D.flush a j) := (hx.old k1).mono fun b _ h => Rn_mono h (by omega)
    have hx3 := hx2.setF (h' := g2.set fb (.cells (cf.set (a + j) a1) 33)) hlt (o1.lr.mono fun b h1 h2 => ⟨.inr ⟨by omega, h1⟩, by omega, by omega, by omega⟩) hsec ⟨cf, f1', w_set_eq lt2 rfl _⟩ (fun b h1 _ => w_set_ne lt2 h1 _)
    have hx4 := hx3.setP (h' := (g2.set fb (.cells (cf.set (a + j) a1) 33)).set pb (.cells (cp.set (a + j) (.slice none 0 0 true)) 75)) (ll := []) (x := D.wr) hlt (PLs.nil _ _) (fun l hl => by cases hl) (by simp) ⟨c, c, by rw [w_set_ne lt2 e1]; exact d1', by rw [w_set_ne (by rw [Heap.n_set]; exact lt3) e2, w_set_ne lt2 e1]; exact d1', rfl, rfl, rfl, rfl, d6⟩ ⟨cp, by rw [w_set_ne lt2 (Ne.symm e3)]; exact p1', w_set_eq (by rw [Heap.n_set]; exact lt3) rfl _⟩ (fun b h1 h2 _ => w_set_ne (by rw [Heap.n_set]; exact lt3) h2 _)
    refine ⟨?_, ?_, k - 1, by omega, j + 1, by omega, congrArg _ (by omega), by omega, ?_⟩
    · simp only [List.not_mem_nil, or_false, false_or, and_false, false_and, false_implies, implies_true, not_false_eq_true, List.mem_singleton, List.mem_cons, and_true, true_and, forall_const]
      and_intros
      all_goals (intro b hb; first | omega | (intro hc; first | omega | (have := hw1 _ hb.2; omega)))
    · and_intros
      all_goals (intros; first | exact .inr (hR _) | (have := hw1 _ (by assumption); exact .inl (by omega)) | exact (by assumption : False).elim)
    · rw [← DS.flush_succ]
      exact hx4
  · obtain rfl : j = m := by omega
    simp -implicitDefEqProofs (disch := (first | omega | (simp -implicitDefEqProofs only [szs, ne_eq] <;> omega) | fail)) only [go_sem, Nat.reduceAdd, Nat.reduceSub, Nat.reduceMul, Nat.reduceLT, Nat.reduceMod, Nat.reduceDiv, Nat.reduceEqDiff, Nat.reduceBEq, Nat.reduceLeDiff, ↓reduceIte, reduceCtorEq, Int.reduceAdd, Int.reduceSub, Int.reduceLT, Int.reduceLE, Int.reduceBEq, Int.reduceEq, Int.reduceToNat, ir43_l0, t0, t1, t2, t7]
    exact hx
set_option maxHeartbeats 1000000 in
theorem rcopy_ok {h : Heap} {R W S : Set'} {rd fb pb : Nat} {D : DS} (hr : RefX h S rd fb pb D) (hR : ∀ b, R b) :
    SF Try.prog 51 [.ptr (some (rd, 0))] h R W fun v h' => ∃ rd' fb' pb', v = .ptr (some (rd', 0)) ∧ h.n ≤ rd' ∧ h.n ≤ fb' ∧ h.n ≤ pb' ∧ RefX h' (Rn S h.n h'.n) rd' fb' pb' D ∧ h.n ≤ h'.n ∧ ∀ b, b < h.n → h'.get b = h.get b := by
  obtain ⟨l1, l2, l3⟩ := hr.lt
  obtain ⟨e1, e2, e3⟩ := hr.ne
  have hp := hr.pos
  have hRr := hR rd
  obtain ⟨c, xf, xp, d1, d2, d3, d4, d5, d6⟩ := hr.d
  obtain ⟨cf, f1, f2, f3, f4⟩ := hr.f
  obtain ⟨cp, p1, p2, p3, p4⟩ := hr.p
  have lf : LR h (fun b => b = fb) (.slice (some (fb, 0)) D.n D.n xf) (cf.gets 0 D.n) := .inr ⟨fb, 0, D.n, xf, cf, 33, by rw [Blk.length_gets], rfl, f1, by rw [Blk.length_gets]; omega, by rw [Blk.length_gets]⟩
  have lp : LR h (fun b => b = pb) (.slice (some (pb, 0)) D.n D.n xp) (cp.gets 0 D.n) := .inr ⟨pb, 0, D.n, xp, cp, 75, by rw [Blk.length_gets], rfl, p1, by rw [Blk.length_gets]; omega, by rw [Blk.length_gets]⟩
  have gD : ∀ (c : Blk) (i : Nat), i < D.n → (c.gets 0 D.n).getD i undefV = c.get i := fun c i hi => by
    rw [List.getD_eq_getElem?_getD, Blk.gets_get _ _ _ _ hi, Nat.zero_add]; rfl
  have one1 : allOne (cf.gets 0 D.n) = true := allOne_of fun i hi => by
    rw [Blk.length_gets] at hi
    rw [gD _ _ hi]; exact (f4 i hi).one
  have one2 : allOne (cp.gets 0 D.n) = true := allOne_of fun i hi => by
    rw [Blk.length_gets] at hi
    rw [gD _ _ hi]
    obtain ⟨vs, v1, _⟩ := p4 i hi
    exact v1.one
  obtain ⟨x1, rs1, x2, _⟩ := first_lr lf
  obtain ⟨a1, g1, r1, w1, hap1, o1, m1, k1, hw1, kk1, _⟩ := app_own (n0 := h.n) (h := h) (v := .slice none 0 0 true) (x := .slice (some (fb, 0)) D.n D.n xf) (l := []) (e := 33) (bytes := 24) (Own.nil _ _ _) (Nat.le_refl _) x1 x2 one1 (by simp only [List.length_nil, Blk.length_gets]; omega) (by simp only [List.length_nil, Blk.length_gets]; omega)
  rw [List.nil_append] at o1
  obtain ⟨y1, rs2, y2, _⟩ := first_lr (lp.old k1)
  obtain ⟨a2, g2, r2, w2, hap2, o2, m2, k2, hw2, kk2, _⟩ := app_own (n0 := g1.n) (h := g1) (v := .slice none 0 0 true) (x := .slice (some (pb, 0)) D.n D.n xp) (l := []) (e := 75) (bytes := 24) (Own.nil _ _ _) (Nat.le_refl _) y1 y2 one2 (by simp only [List.length_nil, Blk.length_gets]; omega) (by simp only [List.length_nil, Blk.length_gets]; omega)
  rw [List.nil_append] at o2
  have d1' := (k1 rd l1).trans d1
  have k12 : ∀ b, b < h.n → g2.get b = h.get b := fun b hb => by rw [k2 b (by omega), k1 b hb]
  have d1'' := (k12 rd l1).trans d1
  have o1' := o1.old k2
  have hcv1 := o1.lr.cells
  have hon1 := o1.lr.one
  have hcv2 := o2.lr.cells
  have hon2 := o2.lr.one
  refine SF.go hm Try.func51 ir51_eq ?_
  simp -implicitDefEqProofs (disch := (first | omega | (simp -implicitDefEqProofs only [szs, ne_eq] <;> omega) | fail)) only [go_sem, Nat.reduceAdd, Nat.reduceSub, Nat.reduceMul, Nat.reduceLT, Nat.reduceMod, Nat.reduceDiv, Nat.reduceEqDiff, Nat.reduceBEq, Nat.reduceLeDiff, ↓reduceIte, reduceCtorEq, Int.reduceAdd, Int.reduceSub, Int.reduceLT, Int.reduceLE, Int.reduceBEq, Int.reduceEq, Int.reduceToNat, ir51, Option.isNone_some, d1, d2, d4, hRr, d1', d5, d1'', d6, appendV_of ap_75, appendV_of ap_76, hap1, hap2, ↓hcv1, ↓hon1, ↓hcv2, ↓hon2]
  rcases o1' with ⟨h0, _⟩ | ⟨fb', x1', c1', h0, rfl, q1, q2, q3, q4, q5⟩
  · have := congrArg List.length h0
    rw [Blk.length_gets, List.length_nil] at this; omega
  rcases o2 with ⟨h0', _⟩ | ⟨pb', x2', c2', h0', rfl, u1, u2, u3, u4, u5⟩
  · have := congrArg List.length h0'
    rw [Blk.length_gets, List.length_nil] at this; omega
  rw [Blk.length_gets] at q3 q5 u3 u5
  have cg1 : ∀ s, s < D.n → c1'.get s = cf.get s := fun s hs => by
    have := congrArg (fun l => List.getD l s undefV) q5
    simp only [gD _ _ hs] at this; exact this
  have cg2 : ∀ s, s < D.n → c2'.get s = cp.get s := fun s hs => by
    have := congrArg (fun l => List.getD l s undefV) u5
    simp only [gD _ _ hs] at this; exact this
  have lt1 := Heap.lt_of_get q2
  have lt2 := Heap.lt_of_get u2
  have kp : ∀ b, b < h.n → (g2.push (O.cells (Blk.of [V.slice (some (fb', 0)) (cf.gets 0 D.n).length (cf.gets 0 D.n).length x1', V.slice (some (pb', 0)) (cp.gets 0 D.n).length (cp.gets 0 D.n).length x2', V.int IntKind.i64 D.wr]) 78)).get b = h.get b := fun b hb => by rw [w_push_ne (by omega), k12 b hb]
  have hRx : ∀ b, b < h.n → Rx S rd fb pb b → Rx (Rn S h.n (g2.n + 1)) g2.n fb' pb' b := fun b h1 h2 => ⟨.inl h2.1, by omega, by omega, by omega⟩
  refine ⟨?_, ?_, g2.n, fb', pb', rfl, by omega, q1, by omega, ⟨hp, ⟨.inr ⟨by omega, by omega⟩, .inr ⟨q1, by omega⟩, .inr ⟨by omega, by omega⟩⟩, ⟨_, x1', x2', w_push_eq rfl _, rfl, rfl, ?_, ?_, rfl⟩, ⟨c1', by rw [w_push_ne (by omega)]; exact q2, q3, q4, fun s hs => ?_⟩, ⟨c2', by rw [w_push_ne (by omega)]; exact u2, u3, u4, fun s hs => ?_⟩, hr.fl, hr.pe, hr.out, hr.few⟩, by omega, kp⟩
  · simp only [List.not_mem_nil, or_false, false_or, and_false, false_and, false_implies, implies_true, not_false_eq_true, List.mem_singleton, List.mem_cons, and_true, true_and, forall_const]
    and_intros
    all_goals (intro b hb; first | omega | (intro hc; rcases hb with hb | hb <;> first | omega | (have := hw1 _ hb.2; omega) | (have := hw2 _ hb.2; omega)))
  · and_intros
    all_goals (intros; first | exact .inr (hR _) | (have := hw1 _ (by assumption); exact .inl (by omega)) | (have := hw2 _ (by assumption); exact .inl (by omega)))
  · simp [Blk.length_gets]; rfl
  · simp [Blk.length_gets]; rfl
  · rw [cg1 s hs]
    exact ((f4 s hs).mono hRx).old kp
  · rw [cg2 s hs]
    exact ((p4 s hs).mono hRx).same fun b _ hb => kp b hb
end Go.Proofs.Ytgkcbpagdfdpdaa
