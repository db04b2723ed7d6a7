/- FramesPlay: does, a step of both pools. -/
import Derived.Test.YtfgdpgagcnelpaaRG
set_option linter.unusedVariables false
set_option linter.unusedSimpArgs false
set_option linter.unusedSimpArgs false
set_option maxRecDepth 100000
set_option linter.unusedVariables false
set_option linter.unusedSimpArgs false
namespace Go.Proofs.Ytfgdpgagcnelpaa
open Go Go.Vm
theorem PoolAt.sep {h h' : Heap} {bp : Nat} {L : PL} {S : PS} (hp : PoolAt h bp L S) {W : Set'} (vf : VF h h' W) (h0 : ¬ W bp) (h1 : ¬ W L.fb) (h2 : ¬ W L.qb) (h3 : ¬ W L.ub) : PoolAt h' bp L S := by
  obtain ⟨_, g1, _⟩ := hp.p
  obtain ⟨_, g2, _⟩ := hp.f
  obtain ⟨_, g3, _⟩ := hp.q
  obtain ⟨_, g4, _⟩ := hp.u
  exact hp.same' (vf.get _ (Heap.lt_of_get g1) h0) (vf.get _ (Heap.lt_of_get g2) h1) (vf.get _ (Heap.lt_of_get g3) h2) (vf.get _ (Heap.lt_of_get g4) h3)
theorem RPool.but {h h' : Heap} {n0 rd : Nat} {L : RL} {S : PS} {bv : Nat → V} (hr : RPool h n0 rd L S bv) (hn : h.n ≤ h'.n) {nb : Nat} (hk : ∀ b, b < h.n → b ≠ nb → h'.get b = h.get b) (h1 : rd ≠ nb) (h2 : L.fb ≠ nb) (h3 : L.qb ≠ nb) (h4 : ∀ i b y, i < S.n → bv i = .slice (some (b, 0)) 256 256 y → b ≠ nb) : RPool h' n0 rd L S bv := by
  obtain ⟨b1, b2, b3, b4, b5⟩ := hr.blocks
  obtain ⟨lt, pos, ⟨c, p1, p2⟩, ⟨f, f1, f2⟩, ⟨q, q1, q2⟩, hb, dis⟩ := hr
  refine ⟨⟨by omega, lt.2⟩, pos, ⟨c, by rw [hk _ b1 h1]; exact p1, p2⟩, ⟨f, by rw [hk _ b2 h2]; exact f1, f2⟩, ⟨q, by rw [hk _ b3 h3]; exact q1, q2⟩, fun i hi => ?_, dis⟩
  rcases hb i hi with h | ⟨g, ⟨b, x, c', e1, e2, e3, e4⟩, e5⟩
  · exact .inl h
  · exact .inr ⟨g, ⟨b, x, c', e1, e2, by rw [hk _ (Heap.lt_of_get e3) (h4 i b x hi e1)]; exact e3, e4⟩, e5⟩
theorem BytesV.oldR {h h' : Heap} {R : Set'} {v : V} {m : Nat} {g : Nat → Int} (hv : BytesV h R v m g) (hk : ∀ b, R b → b < h.n → h'.get b = h.get b) : BytesV h' R v m g := by
  refine ⟨hv.len, hv.at'.imp id ?_⟩
  rintro ⟨b, o, cap, c, ce, e, hR, hb, hs⟩
  exact ⟨b, o, cap, c, ce, e, hR, by rw [hk b hR (Heap.lt_of_get hb)]; exact hb, hs⟩
/-- Two pools that stand alike, all of it behind m. -/
structure PairV (g : Heap) (m bp n0 rd : Nat) (L : PL) (rl : RL) (S : PS) (bv : Nat → V) : Prop where
  p : PoolAt g bp L S
  r : RPool g n0 rd rl S bv
  w : WF S
  na : 1 ≤ S.na ∧ S.na ≤ 8
  lo : m ≤ bp ∧ m ≤ L.fb ∧ m ≤ L.qb ∧ m ≤ L.ub
  hi : bp < n0 ∧ L.fb < n0 ∧ L.qb < n0 ∧ L.ub < n0
set_option maxHeartbeats 4000000 in
theorem does_ok {h : Heap} {R W Rv : Set'} {mm bp n0 rd : Nat} {L : PL} {rl : RL} {S : PS} {bv : Nat → V} (hx : PairV h mm bp n0 rd L rl S bv) (hR : ∀ b, R b) (hW : ∀ b, mm ≤ b → W b) {kd k1 k2 : Int} {d : V} {m : Nat} {g : Nat → Int} (hv : BytesV h Rv d m g) (hm8 : m ≤ 1048576) (hRv : ∀ b, Rv b → b < mm) :
    SF ⟨Try.prog, true⟩ 27 [.ptr (some (bp, 0)), .ptr (some (rd, 0)), .agg [.int .i64 kd, .int .i64 k1, .int .i64 k2, d]] h R W fun v h' => v = .bool true ∧ h.n ≤ h'.n ∧ (∀ b, b < mm → h'.get b = h.get b) ∧ ∃ S' bv', PairV h' mm bp n0 rd L rl S' bv' := by
  obtain ⟨hp, hr, w, hna, lo, hi⟩ := hx
  have hlt := hr.lt
  obtain ⟨h1, e1, n1, b1, kk1⟩ : ∃ h1, h.push (.cells (Blk.of [.int .i64 kd, .int .i64 k1, .int .i64 k2, d]) 37) = h1 ∧ h1.n = h.n + 1 ∧ h1.get h.n = some (.cells (Blk.of [.int .i64 kd, .int .i64 k1, .int .i64 k2, d]) 37) ∧ ∀ b, b < h.n → h1.get b = h.get b := ⟨_, rfl, by simp, w_push_eq rfl _, fun b hb => w_push_ne (by omega) _⟩
  have hp1 := hp.old kk1
  have hr1 := hr.old (by omega) kk1
  have hdl : d.one = true ∧ d.cellsV = [d] := by
    rcases hv.at' with ⟨_, rfl | ⟨a, rfl⟩⟩ | ⟨b, o, cap, c, ce, rfl, _⟩ <;> exact ⟨rfl, rfl⟩
  have hRn := hR h.n
  have hbb : ∀ x : Bool, (x == x) = true := fun x => by cases x <;> rfl
  have hxx : ∀ x : Int, (x == x) = true := fun x => by simp
  have fin : ∀ {g2 g3 : Heap} {S' : PS} {bv' : Nat → V}, VF h1 g2 (fun b => b = L.fb ∨ b = L.ub) → VF g2 g3 (fun b => n0 ≤ b) → PoolAt g2 bp L S' → RPool g3 n0 rd rl S' bv' → WF S' → S'.na = S.na → h.n ≤ g3.n ∧ (∀ b, b < mm → g3.get b = h.get b) ∧ ∃ S' bv', PairV g3 mm bp n0 rd L rl S' bv' := fun {g2 g3 S' bv'} v2 v3 p2 r3 w' ena => by
    have := v2.n
    have := v3.n
    refine ⟨by omega, fun b hb => ?_, S', bv', p2.sep v3 (by omega) (by omega) (by omega) (by omega), r3, w', by omega, lo, hi⟩
    rw [v3.get b (by omega) (by omega), v2.get b (by omega) (by rintro (e | e) <;> omega), kk1 b (by omega)]
  have hr2 : ∀ {g2 : Heap}, VF h1 g2 (fun b => b = L.fb ∨ b = L.ub) → RPool g2 n0 rd rl S bv := fun {g2} v2 => hr1.same v2.n fun b hb hb2 => v2.get b hb2 (by rintro (e | e) <;> omega)
  have foot2 : ∀ b, (b = L.fb ∨ b = L.ub) → h.n ≤ b ∨ W b := fun b hb => .inr (hW b (by omega))
  have foot3 : ∀ b, n0 ≤ b → h.n ≤ b ∨ W b := fun b hb => .inr (hW b (by omega))
  refine SF.go hm Try.func27 ir27_eq ?_
  by_cases d1 : kd = 1
  · subst d1
    obtain ⟨x, y, S', B⟩ := grant_both (dd := true) w k1
    simp -implicitDefEqProofs (disch := (first | omega | (simp -implicitDefEqProofs only [szs, ne_eq] <;> omega) | fail)) only [go_sem, Nat.reduceAdd, Nat.reduceSub, Nat.reduceMul, Nat.reduceLT, Nat.reduceMod, Nat.reduceDiv, Nat.reduceEqDiff, Nat.reduceBEq, Nat.reduceLeDiff, ↓reduceIte, reduceCtorEq, Int.reduceAdd, Int.reduceSub, Int.reduceLT, Int.reduceLE, Int.reduceBEq, Int.reduceEq, Int.reduceToNat, ir27, e1, b1, hRn, hdl.1, hdl.2]
    refine GCall.of ((B.p (R := fun _ => True) (W := fun b => b = L.fb ∨ b = L.ub) hp1 (fun _ => trivial) (.inl rfl) (.inr rfl)).kept.foot (fun b _ => .inr (hR b)) foot2) ?_
    rintro v g2 ⟨⟨rfl, p2⟩, v2⟩
    simp -implicitDefEqProofs (disch := (first | omega | (simp -implicitDefEqProofs only [szs, ne_eq] <;> omega) | fail)) only [go_sem, Nat.reduceAdd, Nat.reduceSub, Nat.reduceMul, Nat.reduceLT, Nat.reduceMod, Nat.reduceDiv, Nat.reduceEqDiff, Nat.reduceBEq, Nat.reduceLeDiff, ↓reduceIte, reduceCtorEq, Int.reduceAdd, Int.reduceSub, Int.reduceLT, Int.reduceLE, Int.reduceBEq, Int.reduceEq, Int.reduceToNat, v2.get h.n (by omega) (by omega), b1, hRn]
    refine GCall.of ((B.r (R := fun _ => True) (W := fun b => n0 ≤ b) (hr2 v2) (fun _ => trivial) (fun _ h => h)).kept.foot (fun b _ => .inr (hR b)) foot3) ?_
    rintro v g3 ⟨⟨rfl, bv', r3⟩, v3⟩
    simp -implicitDefEqProofs (disch := (first | omega | (simp -implicitDefEqProofs only [szs, ne_eq] <;> omega) | fail)) only [go_sem, Nat.reduceAdd, Nat.reduceSub, Nat.reduceMul, Nat.reduceLT, Nat.reduceMod, Nat.reduceDiv, Nat.reduceEqDiff, Nat.reduceBEq, Nat.reduceLeDiff, ↓reduceIte, reduceCtorEq, Int.reduceAdd, Int.reduceSub, Int.reduceLT, Int.reduceLE, Int.reduceBEq, Int.reduceEq, Int.reduceToNat, hxx, undefV]
    exact fin v2 v3 p2 r3 B.w B.na
  by_cases d3 : kd = 3
  · subst d3
    obtain ⟨x, y, S', B⟩ := drop_both (dd := true) w k1
    simp -implicitDefEqProofs (disch := (first | omega | (simp -implicitDefEqProofs only [szs, ne_eq] <;> omega) | fail)) only [go_sem, Nat.reduceAdd, Nat.reduceSub, Nat.reduceMul, Nat.reduceLT, Nat.reduceMod, Nat.reduceDiv, Nat.reduceEqDiff, Nat.reduceBEq, Nat.reduceLeDiff, ↓reduceIte, reduceCtorEq, Int.reduceAdd, Int.reduceSub, Int.reduceLT, Int.reduceLE, Int.reduceBEq, Int.reduceEq, Int.reduceToNat, ir27, e1, b1, hRn, hdl.1, hdl.2]
    refine GCall.of ((B.p (R := fun _ => True) (W := fun b => b = L.fb ∨ b = L.ub) hp1 (fun _ => trivial) (.inl rfl) (.inr rfl)).kept.foot (fun b _ => .inr (hR b)) foot2) ?_
    rintro v g2 ⟨⟨rfl, p2⟩, v2⟩
    simp -implicitDefEqProofs (disch := (first | omega | (simp -implicitDefEqProofs only [szs, ne_eq] <;> omega) | fail)) only [go_sem, Nat.reduceAdd, Nat.reduceSub, Nat.reduceMul, Nat.reduceLT, Nat.reduceMod, Nat.reduceDiv, Nat.reduceEqDiff, Nat.reduceBEq, Nat.reduceLeDiff, ↓reduceIte, reduceCtorEq, Int.reduceAdd, Int.reduceSub, Int.reduceLT, Int.reduceLE, Int.reduceBEq, Int.reduceEq, Int.reduceToNat, v2.get h.n (by omega) (by omega), b1, hRn]
    refine GCall.of ((B.r (R := fun _ => True) (W := fun b => n0 ≤ b) (hr2 v2) (fun _ => trivial) (fun _ h => h)).kept.foot (fun b _ => .inr (hR b)) foot3) ?_
    rintro v g3 ⟨⟨rfl, bv', r3⟩, v3⟩
    simp -implicitDefEqProofs (disch := (first | omega | (simp -implicitDefEqProofs only [szs, ne_eq] <;> omega) | fail)) only [go_sem, Nat.reduceAdd, Nat.reduceSub, Nat.reduceMul, Nat.reduceLT, Nat.reduceMod, Nat.reduceDiv, Nat.reduceEqDiff, Nat.reduceBEq, Nat.reduceLeDiff, ↓reduceIte, reduceCtorEq, Int.reduceAdd, Int.reduceSub, Int.reduceLT, Int.reduceLE, Int.reduceBEq, Int.reduceEq, Int.reduceToNat, hxx, hbb, undefV]
    exact fin v2 v3 p2 r3 B.w B.na
  by_cases d4 : kd = 4
  · subst d4
    obtain ⟨x, y, S', B⟩ := drops_both w k1
    simp -implicitDefEqProofs (disch := (first | omega | (simp -implicitDefEqProofs only [szs, ne_eq] <;> omega) | fail)) only [go_sem, Nat.reduceAdd, Nat.reduceSub, Nat.reduceMul, Nat.reduceLT, Nat.reduceMod, Nat.reduceDiv, Nat.reduceEqDiff, Nat.reduceBEq, Nat.reduceLeDiff, ↓reduceIte, reduceCtorEq, Int.reduceAdd, Int.reduceSub, Int.reduceLT, Int.reduceLE, Int.reduceBEq, Int.reduceEq, Int.reduceToNat, ir27, e1, b1, hRn, hdl.1, hdl.2]
    refine GCall.of ((B.p (R := fun _ => True) (W := fun b => b = L.fb ∨ b = L.ub) hp1 (fun _ => trivial) (.inl rfl) (.inr rfl)).kept.foot (fun b _ => .inr (hR b)) foot2) ?_
    rintro v g2 ⟨⟨rfl, p2⟩, v2⟩
    simp -implicitDefEqProofs (disch := (first | omega | (simp -implicitDefEqProofs only [szs, ne_eq] <;> omega) | fail)) only [go_sem, Nat.reduceAdd, Nat.reduceSub, Nat.reduceMul, Nat.reduceLT, Nat.reduceMod, Nat.reduceDiv, Nat.reduceEqDiff, Nat.reduceBEq, Nat.reduceLeDiff, ↓reduceIte, reduceCtorEq, Int.reduceAdd, Int.reduceSub, Int.reduceLT, Int.reduceLE, Int.reduceBEq, Int.reduceEq, Int.reduceToNat, v2.get h.n (by omega) (by omega), b1, hRn]
    refine GCall.of ((B.r (R := fun _ => True) (W := fun b => n0 ≤ b) (hr2 v2) (fun _ => trivial) (fun _ h => h)).kept.foot (fun b _ => .inr (hR b)) foot3) ?_
    rintro v g3 ⟨⟨rfl, bv', r3⟩, v3⟩
    simp -implicitDefEqProofs (disch := (first | omega | (simp -implicitDefEqProofs only [szs, ne_eq] <;> omega) | fail)) only [go_sem, Nat.reduceAdd, Nat.reduceSub, Nat.reduceMul, Nat.reduceLT, Nat.reduceMod, Nat.reduceDiv, Nat.reduceEqDiff, Nat.reduceBEq, Nat.reduceLeDiff, ↓reduceIte, reduceCtorEq, Int.reduceAdd, Int.reduceSub, Int.reduceLT, Int.reduceLE, Int.reduceBEq, Int.reduceEq, Int.reduceToNat, hxx, hbb, undefV]
    exact fin v2 v3 p2 r3 B.w B.na
  by_cases d2 : kd = 2
  · subst d2
    obtain ⟨x, S', B⟩ := hold_both (dd := false) w k1
    simp -implicitDefEqProofs (disch := (first | omega | (simp -implicitDefEqProofs only [szs, ne_eq] <;> omega) | fail)) only [go_sem, Nat.reduceAdd, Nat.reduceSub, Nat.reduceMul, Nat.reduceLT, Nat.reduceMod, Nat.reduceDiv, Nat.reduceEqDiff, Nat.reduceBEq, Nat.reduceLeDiff, ↓reduceIte, reduceCtorEq, Int.reduceAdd, Int.reduceSub, Int.reduceLT, Int.reduceLE, Int.reduceBEq, Int.reduceEq, Int.reduceToNat, ir27, e1, b1, hRn, hdl.1, hdl.2]
    refine GCallD.of (R' := fun _ => True) (W' := fun b => b = L.fb ∨ b = L.ub) (B.p (R := fun _ => True) (W := fun b => b = L.fb ∨ b = L.ub) hp1 (fun _ => trivial) (.inl rfl) (.inr rfl)).kept ?_
    rintro v g2 ⟨⟨rfl, p2⟩, v2⟩
    have vn2 := v2.n
    simp -implicitDefEqProofs (disch := (first | omega | (simp -implicitDefEqProofs only [szs, ne_eq] <;> omega) | fail)) only [go_sem, Nat.reduceAdd, Nat.reduceSub, Nat.reduceMul, Nat.reduceLT, Nat.reduceMod, Nat.reduceDiv, Nat.reduceEqDiff, Nat.reduceBEq, Nat.reduceLeDiff, ↓reduceIte, reduceCtorEq, Int.reduceAdd, Int.reduceSub, Int.reduceLT, Int.reduceLE, Int.reduceBEq, Int.reduceEq, Int.reduceToNat, v2.get h.n (by omega) (by omega), b1, hRn]
    refine GCallD.of (R' := fun _ => True) (W' := fun b => n0 ≤ b) (B.r (R := fun _ => True) (W := fun b => n0 ≤ b) (hr2 v2) (fun _ => trivial) (fun _ h => h)).kept ?_
    rintro v g3 ⟨⟨rfl, bv', r3⟩, v3⟩
    have vn3 := v3.n
    simp -implicitDefEqProofs (disch := (first | omega | (simp -implicitDefEqProofs only [szs, ne_eq] <;> omega) | fail)) only [go_sem, Nat.reduceAdd, Nat.reduceSub, Nat.reduceMul, Nat.reduceLT, Nat.reduceMod, Nat.reduceDiv, Nat.reduceEqDiff, Nat.reduceBEq, Nat.reduceLeDiff, ↓reduceIte, reduceCtorEq, Int.reduceAdd, Int.reduceSub, Int.reduceLT, Int.reduceLE, Int.reduceBEq, Int.reduceEq, Int.reduceToNat, hxx, hbb, undefV]
    refine ⟨?_, ⟨fun b _ _ => .inr (hR b), fun b _ hb => foot2 b hb, fun b _ _ => .inr (hR b), fun b _ hb => foot3 b hb⟩, fin v2 v3 p2 r3 B.w B.na⟩
    simp only [List.not_mem_nil, or_false, false_or, and_false, false_and, false_implies, implies_true, not_false_eq_true, List.mem_singleton, List.mem_cons, and_true, true_and]
    all_goals (try and_intros)
    all_goals (intros; omega)
  by_cases d6 : kd = 6
  · subst d6
    obtain ⟨x, S', B⟩ := copy_both (dd := false) w k1 k2
    simp -implicitDefEqProofs (disch := (first | omega | (simp -implicitDefEqProofs only [szs, ne_eq] <;> omega) | fail)) only [go_sem, Nat.reduceAdd, Nat.reduceSub, Nat.reduceMul, Nat.reduceLT, Nat.reduceMod, Nat.reduceDiv, Nat.reduceEqDiff, Nat.reduceBEq, Nat.reduceLeDiff, ↓reduceIte, reduceCtorEq, Int.reduceAdd, Int.reduceSub, Int.reduceLT, Int.reduceLE, Int.reduceBEq, Int.reduceEq, Int.reduceToNat, ir27, e1, b1, hRn, hdl.1, hdl.2]
    refine GCallD.of (R' := fun _ => True) (W' := fun b => b = L.fb ∨ b = L.ub) (B.p (R := fun _ => True) (W := fun b => b = L.fb ∨ b = L.ub) hp1 (fun _ => trivial) (.inl rfl) (.inr rfl)).kept ?_
    rintro v g2 ⟨⟨rfl, p2⟩, v2⟩
    have vn2 := v2.n
    simp -implicitDefEqProofs (disch := (first | omega | (simp -implicitDefEqProofs only [szs, ne_eq] <;> omega) | fail)) only [go_sem, Nat.reduceAdd, Nat.reduceSub, Nat.reduceMul, Nat.reduceLT, Nat.reduceMod, Nat.reduceDiv, Nat.reduceEqDiff, Nat.reduceBEq, Nat.reduceLeDiff, ↓reduceIte, reduceCtorEq, Int.reduceAdd, Int.reduceSub, Int.reduceLT, Int.reduceLE, Int.reduceBEq, Int.reduceEq, Int.reduceToNat, v2.get h.n (by omega) (by omega), b1, hRn]
    refine GCallD.of (R' := fun _ => True) (W' := fun b => n0 ≤ b) (B.r (R := fun _ => True) (W := fun b => n0 ≤ b) (hr2 v2) (fun _ => trivial) (fun _ h => h)).kept ?_
    rintro v g3 ⟨⟨rfl, bv', r3⟩, v3⟩
    have vn3 := v3.n
    simp -implicitDefEqProofs (disch := (first | omega | (simp -implicitDefEqProofs only [szs, ne_eq] <;> omega) | fail)) only [go_sem, Nat.reduceAdd, Nat.reduceSub, Nat.reduceMul, Nat.reduceLT, Nat.reduceMod, Nat.reduceDiv, Nat.reduceEqDiff, Nat.reduceBEq, Nat.reduceLeDiff, ↓reduceIte, reduceCtorEq, Int.reduceAdd, Int.reduceSub, Int.reduceLT, Int.reduceLE, Int.reduceBEq, Int.reduceEq, Int.reduceToNat, hxx, hbb, undefV]
    refine ⟨?_, ⟨fun b _ _ => .inr (hR b), fun b _ hb => foot2 b hb, fun b _ _ => .inr (hR b), fun b _ hb => foot3 b hb⟩, fin v2 v3 p2 r3 B.w B.na⟩
    simp only [List.not_mem_nil, or_false, false_or, and_false, false_and, false_implies, implies_true, not_false_eq_true, List.mem_singleton, List.mem_cons, and_true, true_and]
    all_goals (try and_intros)
    all_goals (intros; omega)
  by_cases d5 : kd = 5
  · subst d5
    have hbn : ∀ i b y, i < S.n → bv i = .slice (some (b, 0)) 256 256 y → n0 ≤ b ∧ b < h.n := fun i b y hi e => by
      rcases hr.b i hi with ⟨h, _⟩ | ⟨g, ⟨b', x, c', e1, e2, e3, e4⟩, _⟩
      · rw [e] at h; cases h
      · rw [e] at e1; cases e1
        exact ⟨e2, Heap.lt_of_get e3⟩
    obtain ⟨x, S', w', en, ena, P, Q⟩ := put_both (dd := false) w k1 k2 hm8 g
    obtain ⟨rb1, rb2, rb3, _, _⟩ := hr.blocks
    simp -implicitDefEqProofs (disch := (first | omega | (simp -implicitDefEqProofs only [szs, ne_eq] <;> omega) | fail)) only [go_sem, Nat.reduceAdd, Nat.reduceSub, Nat.reduceMul, Nat.reduceLT, Nat.reduceMod, Nat.reduceDiv, Nat.reduceEqDiff, Nat.reduceBEq, Nat.reduceLeDiff, ↓reduceIte, reduceCtorEq, Int.reduceAdd, Int.reduceSub, Int.reduceLT, Int.reduceLE, Int.reduceBEq, Int.reduceEq, Int.reduceToNat, ir27, e1, b1, hRn, hdl.1, hdl.2]
    refine GCall.of (SF.any (lent_ok (hv.oldR fun b hb _ => kk1 b (by have := hRv b hb; omega)) hm8 (fun b => .inr (hR b)))) ?_
    rintro xl g1 ⟨nb, hnb, hl, nn1, kk2⟩
    have hnb' : h.n ≤ nb := by omega
    have kk12 : ∀ b, b < h.n → g1.get b = h.get b := fun b hb => by rw [kk2 b (by omega), kk1 b hb]
    simp -implicitDefEqProofs (disch := (first | omega | (simp -implicitDefEqProofs only [szs, ne_eq] <;> omega) | fail)) only [go_sem, Nat.reduceAdd, Nat.reduceSub, Nat.reduceMul, Nat.reduceLT, Nat.reduceMod, Nat.reduceDiv, Nat.reduceEqDiff, Nat.reduceBEq, Nat.reduceLeDiff, ↓reduceIte, reduceCtorEq, Int.reduceAdd, Int.reduceSub, Int.reduceLT, Int.reduceLE, Int.reduceBEq, Int.reduceEq, Int.reduceToNat, (kk2 h.n (by omega)).trans b1, hRn]
    refine GCallD.of (R' := fun _ => True) (W' := fun b => b = L.fb) (P (R := fun _ => True) (W := fun b => b = L.fb) (hp1.old kk2) hl (fun _ => trivial) rfl).kept ?_
    rintro v g2 ⟨⟨rfl, p2⟩, v2⟩
    have vn2 := v2.n
    have b12 := (v2.get h.n (by omega) (by omega)).trans ((kk2 h.n (by omega)).trans b1)
    have hl2 := hl.old (v2.get nb (Heap.lt_of_get hl.b.choose_spec.1) (by omega))
    have hr2' : RPool g2 n0 rd rl S bv := (hr1.old nn1 kk2).same v2.n fun b hb hb2 => v2.get b hb2 (by omega)
    have hv2 : BytesV g2 Rv d m g := hv.oldR fun b hb hb2 => by rw [v2.get b (by omega) (by have := hRv b hb; omega)]; exact kk12 b hb2
    simp -implicitDefEqProofs (disch := (first | omega | (simp -implicitDefEqProofs only [szs, ne_eq] <;> omega) | fail)) only [go_sem, Nat.reduceAdd, Nat.reduceSub, Nat.reduceMul, Nat.reduceLT, Nat.reduceMod, Nat.reduceDiv, Nat.reduceEqDiff, Nat.reduceBEq, Nat.reduceLeDiff, ↓reduceIte, reduceCtorEq, Int.reduceAdd, Int.reduceSub, Int.reduceLT, Int.reduceLE, Int.reduceBEq, Int.reduceEq, Int.reduceToNat, b12, hRn]
    refine GCallD.of (R' := fun _ => True) (W' := fun b => ∃ i y, i < S.n ∧ bv i = .slice (some (b, 0)) 256 256 y) (Q (R := fun _ => True) (W := fun b => ∃ i y, i < S.n ∧ bv i = .slice (some (b, 0)) 256 256 y) hr2' hv2 (fun b hb => by have := hRv b hb; omega) (fun _ => trivial) (fun i b y hi e => ⟨i, y, hi, e⟩)).kept ?_
    rintro v g3 ⟨⟨rfl, r3⟩, v3⟩
    have vn3 := v3.n
    have nw : ∀ b, (b < n0 ∨ h.n ≤ b) → ¬ ∃ i y, i < S.n ∧ bv i = .slice (some (b, 0)) 256 256 y := fun b hb ⟨i, y, hi, e⟩ => by have := hbn i b y hi e; omega
    have b13 := (v3.get h.n (by omega) (nw _ (.inr (Nat.le_refl _)))).trans b12
    have hnl := Heap.lt_of_get hl2.b.choose_spec.1
    have hl3 := hl2.old (v3.get nb hnl (nw _ (.inr (by omega))))
    have p3 : PoolAt g3 bp L S' := p2.sep v3 (nw _ (.inl hi.1)) (nw _ (.inl hi.2.1)) (nw _ (.inl hi.2.2.1)) (nw _ (.inl hi.2.2.2))
    have hv3 : BytesV g3 Rv d m g := hv2.oldR fun b hb hb2 => v3.get b hb2 (nw _ (.inl (by have := hRv b hb; omega)))
    simp -implicitDefEqProofs (disch := (first | omega | (simp -implicitDefEqProofs only [szs, ne_eq] <;> omega) | fail)) only [go_sem, Nat.reduceAdd, Nat.reduceSub, Nat.reduceMul, Nat.reduceLT, Nat.reduceMod, Nat.reduceDiv, Nat.reduceEqDiff, Nat.reduceBEq, Nat.reduceLeDiff, ↓reduceIte, reduceCtorEq, Int.reduceAdd, Int.reduceSub, Int.reduceLT, Int.reduceLE, Int.reduceBEq, Int.reduceEq, Int.reduceToNat, hxx, hbb, undefV, b13, hRn]
    refine ⟨?_, ⟨fun b _ _ => .inr (hR b), fun b _ hb => foot2 b (.inl hb), fun b _ _ => .inr (hR b), fun b _ ⟨i, y, hi, e⟩ => foot3 b (hbn i b y hi e).1⟩, ?_⟩
    · simp only [List.not_mem_nil, or_false, false_or, and_false, false_and, false_implies, implies_true, not_false_eq_true, List.mem_singleton, List.mem_cons, and_true, true_and]
      all_goals (try and_intros)
      all_goals (intros; omega)
    obtain ⟨bx, be, hbx⟩ : ∃ bx be : Int, (if ¬ (0 ≤ k2 ∧ k2 < 256) then [V.int .u8 0, .int .i64 2] else if ¬ Owned S' k1 then [.int .u8 0, .int .i64 6] else [.int .u8 (S'.byt k1.toNat k2.toNat), .int .i64 0]) = [.int .u8 bx, .int .i64 be] := by
      split
      · exact ⟨_, _, rfl⟩
      · split <;> exact ⟨_, _, rfl⟩
    refine GCall.of (SF.any (byte_uni p3 (fun b => .inr (hR b)) k1 k2)) ?_
    rintro v g4 ⟨rfl, rfl⟩
    rw [hbx]
    simp -implicitDefEqProofs (disch := (first | omega | (simp -implicitDefEqProofs only [szs, ne_eq] <;> omega) | fail)) only [go_sem, Nat.reduceAdd, Nat.reduceSub, Nat.reduceMul, Nat.reduceLT, Nat.reduceMod, Nat.reduceDiv, Nat.reduceEqDiff, Nat.reduceBEq, Nat.reduceLeDiff, ↓reduceIte, reduceCtorEq, Int.reduceAdd, Int.reduceSub, Int.reduceLT, Int.reduceLE, Int.reduceBEq, Int.reduceEq, Int.reduceToNat, b13, hRn]
    refine GCall.of (SF.any (rbyte_ok r3 w' (fun b => .inr (hR b)) k1 k2)) ?_
    rintro v g5 ⟨rfl, rfl⟩
    rw [hbx]
    simp -implicitDefEqProofs (disch := (first | omega | (simp -implicitDefEqProofs only [szs, ne_eq] <;> omega) | fail)) only [go_sem, Nat.reduceAdd, Nat.reduceSub, Nat.reduceMul, Nat.reduceLT, Nat.reduceMod, Nat.reduceDiv, Nat.reduceEqDiff, Nat.reduceBEq, Nat.reduceLeDiff, ↓reduceIte, reduceCtorEq, Int.reduceAdd, Int.reduceSub, Int.reduceLT, Int.reduceLE, Int.reduceBEq, Int.reduceEq, Int.reduceToNat, b13, hRn]
    refine GCall.of (SF.any (left_ok hv3 hm8 hl3 (fun b => .inr (hR b)) (.inl hnb'))) ?_
    rintro v g6 ⟨rfl, n6, k6⟩
    have hxe : ∀ x : Int, (x == x) = true := fun x => by simp
    simp -implicitDefEqProofs (disch := (first | omega | (simp -implicitDefEqProofs only [szs, ne_eq] <;> omega) | fail)) only [go_sem, Nat.reduceAdd, Nat.reduceSub, Nat.reduceMul, Nat.reduceLT, Nat.reduceMod, Nat.reduceDiv, Nat.reduceEqDiff, Nat.reduceBEq, Nat.reduceLeDiff, ↓reduceIte, reduceCtorEq, Int.reduceAdd, Int.reduceSub, Int.reduceLT, Int.reduceLE, Int.reduceBEq, Int.reduceEq, Int.reduceToNat, undefV, hxe]
    have o6 : ∀ b, b < h.n → b ≠ L.fb → (¬ ∃ i y, i < S.n ∧ bv i = .slice (some (b, 0)) 256 256 y) → g6.get b = h.get b := fun b hb h1 h2 => by
      rw [k6 b (by omega), v3.get b (by omega) h2, v2.get b (by omega) h1]; exact kk12 b hb
    refine ⟨by omega, fun b hb => o6 b (by omega) (by omega) (nw b (.inl (by omega))), S', bv, ?_, r3.but n6 (fun b _ hne => k6 b hne) (by omega) (by omega) (by omega) (fun i b y hi e => by have := hbn i b y (by omega) e; omega), w', by omega, lo, hi⟩
    exact p3.same' (k6 _ (by omega)) (k6 _ (by omega)) (k6 _ (by omega)) (k6 _ (by omega))
  have q1 : (kd == 1) = false := by simpa using d1
  have q2 : (kd == 2) = false := by simpa using d2
  have q3 : (kd == 3) = false := by simpa using d3
  have q4 : (kd == 4) = false := by simpa using d4
  have q5 : (kd == 5) = false := by simpa using d5
  have q6 : (kd == 6) = false := by simpa using d6
  simp -implicitDefEqProofs (disch := (first | omega | (simp -implicitDefEqProofs only [szs, ne_eq] <;> omega) | fail)) only [go_sem, Nat.reduceAdd, Nat.reduceSub, Nat.reduceMul, Nat.reduceLT, Nat.reduceMod, Nat.reduceDiv, Nat.reduceEqDiff, Nat.reduceBEq, Nat.reduceLeDiff, ↓reduceIte, reduceCtorEq, Int.reduceAdd, Int.reduceSub, Int.reduceLT, Int.reduceLE, Int.reduceBEq, Int.reduceEq, Int.reduceToNat, ir27, e1, b1, hRn, hdl.1, hdl.2, q1, q2, q3, q4, q5, q6]
  exact ⟨by omega, fun b hb => kk1 b (by omega), S, bv, hp1, hr1, w, hna, lo, hi⟩
end Go.Proofs.Ytfgdpgagcnelpaa
