/- FramesPlay: the loop, the law. -/
import Derived.Test.YtfgdpgagcnelpaaRI
set_option linter.unusedVariables false
set_option linter.unusedSimpArgs false
set_option linter.unusedSimpArgs false
set_option maxRecDepth 100000
set_option linter.unusedVariables false
set_option linter.unusedSimpArgs false
namespace Go.Proofs.Ytfgdpgagcnelpaa
open Go Go.Vm
set_option maxHeartbeats 2000000 in
theorem play_loop {H g : Heap} {Q' : Ex → Fr → Heap → Prop} {t : List It} {v0 : V} {m0 : Nat} {leave : Int} {x y : V} (hv0 : StepsU H v0 m0) (h40 : m0 ≤ 40) (pv : PV g H.n x y) (gn : H.n ≤ g.n) (old : ∀ b, b < H.n → g.get b = H.get b)
    (hk : ∀ (tr : Tr V) g' m u w, OldV g' m u w → m ≤ g'.n → tr.get 3 = some (.int .i64 leave) → tr.get 12 = some u → tr.get 13 = some w → resume ⟨Try.prog, true⟩ (fun _ => True) (fun b => H.n ≤ b ∨ WH H b) none Q' t (.exit 0) ⟨⟨99, tr⟩, []⟩ g')
    {tr : Tr V} (w2 : tr.get 2 = some v0) (w3 : tr.get 3 = some (.int .i64 leave)) (w9 : tr.get 9 = some x) (w11 : tr.get 11 = some y) (w12 : tr.get 12 = some (.ptr none)) (w13 : tr.get 13 = some (.ptr none)) (w14 : tr.get 14 = some (.int .i64 0)) :
    GLoop ⟨Try.prog, true⟩ (fun _ => True) (fun b => H.n ≤ b ∨ WH H b) none Q' ir7_l0 t ⟨⟨99, tr⟩, []⟩ g := by
  have hl0 := hv0.lenV
  have hml := hv0.len
  refine GLoop.inv hm (fun k f g' => f.mks = [] ∧ f.tm.n = 99 ∧ f.tm.get 2 = some v0 ∧ f.tm.get 3 = some (.int .i64 leave) ∧ H.n ≤ g'.n ∧ (∀ b, b < H.n → g'.get b = H.get b) ∧ ∃ (i m : Nat) (x y u w : V), i + k = m0 ∧ f.tm.get 9 = some x ∧ f.tm.get 11 = some y ∧ f.tm.get 12 = some u ∧ f.tm.get 13 = some w ∧ f.tm.get 14 = some (.int .i64 i) ∧ PV g' m x y ∧ OldV g' m u w ∧ H.n ≤ m ∧ m ≤ g'.n) m0 ?_ ?_
  · exact ⟨rfl, rfl, w2, w3, gn, old, 0, H.n, x, y, _, _, by omega, w9, w11, w12, w13, w14, pv, .inl rfl, Nat.le_refl _, gn⟩
  clear w2 w3 w9 w11 w12 w13 w14 pv gn old
  clear tr x y g
  rintro k ⟨⟨n', tr⟩, mks⟩ g ⟨hmk, hn', t2, t3, gn, old, i, m, x, y, u, w, hik, t9, t11, t12, t13, t14, pv, ov, lo, hi⟩
  simp only [Tm.get_mk] at hmk hn' t2 t3 t9 t11 t12 t13 t14
  subst hmk hn'
  by_cases him : i < m0
  · rcases hv0.at' with ⟨h0, _⟩ | ⟨b, o, cap, c, ce, rfl, hb, hsz, hcc⟩
    · omega
    obtain ⟨kd, n1, n2, d, ml, gg, c0, c1, c2, c3, hd, hd8⟩ := hcc i him
    have hbl := Heap.lt_of_get hb
    have hb1 := (old b hbl).trans hb
    have hdl : d.one = true ∧ d.cellsV = [d] := by
      rcases hd.at' with ⟨_, rfl | ⟨a, rfl⟩⟩ | ⟨b, o, cap, c, ce, rfl, _⟩ <;> exact ⟨rfl, rfl⟩
    have i0 : (0 : Int) ≤ (i : Int) := by omega
    have i1 : (i : Int) < (m0 : Nat) := by omega
    have hs0 : o + i * 4 < c.size := by omega
    have hs3 : o + i * 4 + 4 ≤ c.size := by omega
    by_cases h7 : kd = 7
    · subst h7
      simp -implicitDefEqProofs (disch := (first | omega | (simp -implicitDefEqProofs only [szs, ne_eq] <;> omega) | fail)) only [go_sem, Nat.reduceAdd, Nat.reduceSub, Nat.reduceMul, Nat.reduceLT, Nat.reduceMod, Nat.reduceDiv, Nat.reduceEqDiff, Nat.reduceBEq, Nat.reduceLeDiff, ↓reduceIte, reduceCtorEq, Int.reduceAdd, Int.reduceSub, Int.reduceLT, Int.reduceLE, Int.reduceBEq, Int.reduceEq, Int.reduceToNat, ir7_l0, t2, t3, t9, t11, t12, t13, t14, ↓hl0, hb1, c0, c1, c2, c3, i0, i1, hs0]
      refine GCall.of (SF.any (pclone_pv pv (fun _ => trivial))) ?_
      rintro x1 g1 ⟨gn1, k1, hx1⟩
      simp -implicitDefEqProofs (disch := (first | omega | (simp -implicitDefEqProofs only [szs, ne_eq] <;> omega) | fail)) only [go_sem, Nat.reduceAdd, Nat.reduceSub, Nat.reduceMul, Nat.reduceLT, Nat.reduceMod, Nat.reduceDiv, Nat.reduceEqDiff, Nat.reduceBEq, Nat.reduceLeDiff, ↓reduceIte, reduceCtorEq, Int.reduceAdd, Int.reduceSub, Int.reduceLT, Int.reduceLE, Int.reduceBEq, Int.reduceEq, Int.reduceToNat, t2, t3, t9, t11, t12, t13, t14]
      have rc : SF Try.prog 26 [y] g1 (fun _ => True) (fun b => H.n ≤ b ∨ WH H b) fun y' g2 => g1.n ≤ g2.n ∧ (∀ b, b < g1.n → g2.get b = g1.get b) ∧ PV g2 g.n x1 y' := by
        rcases hx1 with ⟨rfl, rfl⟩ | ⟨bp', L', S, n0, rd, rl, bv, rfl, rfl, hp', hr', w', hna, l1, l2, l3, l4⟩
        · refine rclone_nil.mono ?_
          rintro v h' ⟨rfl, rfl⟩
          exact ⟨Nat.le_refl _, fun _ _ => rfl, .inl ⟨rfl, rfl⟩⟩
        · obtain ⟨_, q1, _⟩ := hp'.p
          obtain ⟨_, q2, _⟩ := hp'.f
          obtain ⟨_, q3, _⟩ := hp'.q
          obtain ⟨_, q4, _⟩ := hp'.u
          have q1 := Heap.lt_of_get q1
          have q2 := Heap.lt_of_get q2
          have q3 := Heap.lt_of_get q3
          have q4 := Heap.lt_of_get q4
          refine (rclone_ok (hr'.old gn1 k1) w' hna (fun _ => trivial)).mono ?_
          rintro v h' ⟨rd', rl', bv', rfl, gn2, hr2, k2⟩
          exact ⟨gn2, k2, .inr ⟨bp', g1.n, rd', L', rl', S, bv', rfl, rfl, hp'.old k2, hr2, w', hna, ⟨l1, l2, l3, l4⟩, q1, q2, q3, q4⟩⟩
      refine GCall.of (SF.any rc) ?_
      rintro y1 g2 ⟨gn2, k2, pv2⟩
      have k12 : ∀ b, b < g.n → g2.get b = g.get b := fun b hb => by rw [k2 b (by omega), k1 b hb]
      have hb2 := (k12 b (by omega)).trans hb1
      have ov2 : OldV g2 g.n x y := .inr ⟨g, m, pv, Nat.le_refl _, k12⟩
      have old2 : ∀ b, b < H.n → g2.get b = H.get b := fun b hb => by rw [k12 b (by omega)]; exact old b hb
      simp -implicitDefEqProofs (disch := (first | omega | (simp -implicitDefEqProofs only [szs, ne_eq] <;> omega) | fail)) only [go_sem, Nat.reduceAdd, Nat.reduceSub, Nat.reduceMul, Nat.reduceLT, Nat.reduceMod, Nat.reduceDiv, Nat.reduceEqDiff, Nat.reduceBEq, Nat.reduceLeDiff, ↓reduceIte, reduceCtorEq, Int.reduceAdd, Int.reduceSub, Int.reduceLT, Int.reduceLE, Int.reduceBEq, Int.reduceEq, Int.reduceToNat, t2, t3, t9, t11, t12, t13, t14, hb2, c0, c1, c2, c3, i0, i1, hs0, hdl.1, hdl.2]
      refine GCall.of (does_pv (R := fun _ => True) pv2 (by omega) (fun _ => trivial) (fun b hb => .inl (by omega)) (hd.oldR fun b hb _ => old2 b hb) hd8 (fun b hb => by have hb : b < H.n := hb; omega)) ?_
      rintro v g3 ⟨rfl, gn3, k3, pv3⟩
      simp -implicitDefEqProofs (disch := (first | omega | (simp -implicitDefEqProofs only [szs, ne_eq] <;> omega) | fail)) only [go_sem, Nat.reduceAdd, Nat.reduceSub, Nat.reduceMul, Nat.reduceLT, Nat.reduceMod, Nat.reduceDiv, Nat.reduceEqDiff, Nat.reduceBEq, Nat.reduceLeDiff, ↓reduceIte, reduceCtorEq, Int.reduceAdd, Int.reduceSub, Int.reduceLT, Int.reduceLE, Int.reduceBEq, Int.reduceEq, Int.reduceToNat, undefV, t2, t3, t9, t11, t12, t13, t14]
      refine GCall.of (stands_pv pv3 (fun _ => trivial) leave) ?_
      rintro v g4 ⟨rfl, gn4, k4⟩
      simp -implicitDefEqProofs (disch := (first | omega | (simp -implicitDefEqProofs only [szs, ne_eq] <;> omega) | fail)) only [go_sem, Nat.reduceAdd, Nat.reduceSub, Nat.reduceMul, Nat.reduceLT, Nat.reduceMod, Nat.reduceDiv, Nat.reduceEqDiff, Nat.reduceBEq, Nat.reduceLeDiff, ↓reduceIte, reduceCtorEq, Int.reduceAdd, Int.reduceSub, Int.reduceLT, Int.reduceLE, Int.reduceBEq, Int.reduceEq, Int.reduceToNat, undefV, t2, t3, t9, t11, t12, t13, t14]
      have k34 : ∀ b, b < g.n → g4.get b = g2.get b := fun b hb => by rw [k4 b (by omega), k3 b hb]
      exact ⟨k - 1, by omega, by omega, fun b hb => by rw [k34 b (by omega)]; exact old2 b hb, i + 1, g.n, x1, y1, x, y, by omega, rfl, rfl, rfl, rfl, by simp, pv3.old gn4 k4, ov2.keep (Nat.le_refl _) k34, by omega, by omega⟩
    · have hb7 : (kd == 7) = false := by simpa using h7
      simp -implicitDefEqProofs (disch := (first | omega | (simp -implicitDefEqProofs only [szs, ne_eq] <;> omega) | fail)) only [go_sem, Nat.reduceAdd, Nat.reduceSub, Nat.reduceMul, Nat.reduceLT, Nat.reduceMod, Nat.reduceDiv, Nat.reduceEqDiff, Nat.reduceBEq, Nat.reduceLeDiff, ↓reduceIte, reduceCtorEq, Int.reduceAdd, Int.reduceSub, Int.reduceLT, Int.reduceLE, Int.reduceBEq, Int.reduceEq, Int.reduceToNat, ir7_l0, t2, t3, t9, t11, t12, t13, t14, ↓hl0, hb1, c0, c1, c2, c3, i0, i1, hs0, hb7, hdl.1, hdl.2]
      refine GCall.of (does_pv (R := fun _ => True) pv (by omega) (fun _ => trivial) (fun b hb => .inl (by omega)) (hd.oldR fun b hb _ => old b hb) hd8 (fun b hb => by have hb : b < H.n := hb; omega)) ?_
      rintro v g3 ⟨rfl, gn3, k3, pv3⟩
      simp -implicitDefEqProofs (disch := (first | omega | (simp -implicitDefEqProofs only [szs, ne_eq] <;> omega) | fail)) only [go_sem, Nat.reduceAdd, Nat.reduceSub, Nat.reduceMul, Nat.reduceLT, Nat.reduceMod, Nat.reduceDiv, Nat.reduceEqDiff, Nat.reduceBEq, Nat.reduceLeDiff, ↓reduceIte, reduceCtorEq, Int.reduceAdd, Int.reduceSub, Int.reduceLT, Int.reduceLE, Int.reduceBEq, Int.reduceEq, Int.reduceToNat, undefV, t2, t3, t9, t11, t12, t13, t14]
      refine GCall.of (stands_pv pv3 (fun _ => trivial) leave) ?_
      rintro v g4 ⟨rfl, gn4, k4⟩
      simp -implicitDefEqProofs (disch := (first | omega | (simp -implicitDefEqProofs only [szs, ne_eq] <;> omega) | fail)) only [go_sem, Nat.reduceAdd, Nat.reduceSub, Nat.reduceMul, Nat.reduceLT, Nat.reduceMod, Nat.reduceDiv, Nat.reduceEqDiff, Nat.reduceBEq, Nat.reduceLeDiff, ↓reduceIte, reduceCtorEq, Int.reduceAdd, Int.reduceSub, Int.reduceLT, Int.reduceLE, Int.reduceBEq, Int.reduceEq, Int.reduceToNat, undefV, t2, t3, t9, t11, t12, t13, t14]
      have k34 : ∀ b, b < m → g4.get b = g.get b := fun b hb => by rw [k4 b (by omega), k3 b hb]
      exact ⟨k - 1, by omega, by omega, fun b hb => by rw [k34 b (by omega)]; exact old b hb, i + 1, m, x, y, u, w, by omega, rfl, rfl, rfl, rfl, by simp, pv3.old gn4 k4, ov.keep (Nat.le_refl _) k34, by omega, by omega⟩
  · simp -implicitDefEqProofs (disch := (first | omega | (simp -implicitDefEqProofs only [szs, ne_eq] <;> omega) | fail)) only [go_sem, Nat.reduceAdd, Nat.reduceSub, Nat.reduceMul, Nat.reduceLT, Nat.reduceMod, Nat.reduceDiv, Nat.reduceEqDiff, Nat.reduceBEq, Nat.reduceLeDiff, ↓reduceIte, reduceCtorEq, Int.reduceAdd, Int.reduceSub, Int.reduceLT, Int.reduceLE, Int.reduceBEq, Int.reduceEq, Int.reduceToNat, ir7_l0, t2, t3, t9, t11, t12, t13, t14, ↓hl0]
    exact hk _ g m u w ov hi (by simp -implicitDefEqProofs (disch := (first | omega | (simp -implicitDefEqProofs only [szs, ne_eq] <;> omega) | fail)) only [go_sem, Nat.reduceAdd, Nat.reduceSub, Nat.reduceMul, Nat.reduceLT, Nat.reduceMod, Nat.reduceDiv, Nat.reduceEqDiff, Nat.reduceBEq, Nat.reduceLeDiff, ↓reduceIte, reduceCtorEq, Int.reduceAdd, Int.reduceSub, Int.reduceLT, Int.reduceLE, Int.reduceBEq, Int.reduceEq, Int.reduceToNat, t3]) (by simp -implicitDefEqProofs (disch := (first | omega | (simp -implicitDefEqProofs only [szs, ne_eq] <;> omega) | fail)) only [go_sem, Nat.reduceAdd, Nat.reduceSub, Nat.reduceMul, Nat.reduceLT, Nat.reduceMod, Nat.reduceDiv, Nat.reduceEqDiff, Nat.reduceBEq, Nat.reduceLeDiff, ↓reduceIte, reduceCtorEq, Int.reduceAdd, Int.reduceSub, Int.reduceLT, Int.reduceLE, Int.reduceBEq, Int.reduceEq, Int.reduceToNat, t12]) (by simp -implicitDefEqProofs (disch := (first | omega | (simp -implicitDefEqProofs only [szs, ne_eq] <;> omega) | fail)) only [go_sem, Nat.reduceAdd, Nat.reduceSub, Nat.reduceMul, Nat.reduceLT, Nat.reduceMod, Nat.reduceDiv, Nat.reduceEqDiff, Nat.reduceBEq, Nat.reduceLeDiff, ↓reduceIte, reduceCtorEq, Int.reduceAdd, Int.reduceSub, Int.reduceLT, Int.reduceLE, Int.reduceBEq, Int.reduceEq, Int.reduceToNat, t13])
set_option maxHeartbeats 2000000 in
theorem play_law {H : Heap} {n leave : Int} {vq v0 : V} {mq m0 : Nat} {gq : Nat → Int} (hq : IntsV H vq mq gq) (hv0 : StepsU H v0 m0) :
    SF ⟨Try.prog, true⟩ 7 [.int .i64 n, vq, v0, .int .i64 leave] H (fun _ => True) (WH H) fun v _ => v = .bool true := by
  have hl0 := hv0.lenV
  have hml := hv0.len
  refine SF.go hm Try.func7 ir7_eq ?_
  by_cases h40 : 40 < m0
  · simp -implicitDefEqProofs (disch := (first | omega | (simp -implicitDefEqProofs only [szs, ne_eq] <;> omega) | fail)) only [go_sem, Nat.reduceAdd, Nat.reduceSub, Nat.reduceMul, Nat.reduceLT, Nat.reduceMod, Nat.reduceDiv, Nat.reduceEqDiff, Nat.reduceBEq, Nat.reduceLeDiff, ↓reduceIte, reduceCtorEq, Int.reduceAdd, Int.reduceSub, Int.reduceLT, Int.reduceLE, Int.reduceBEq, Int.reduceEq, Int.reduceToNat, ir7, ↓hl0, undefV]
    refine GCall.of (SF.any (known_ok _ _ _)) ?_
    rintro w g2 ⟨rfl, rfl⟩
    simp -implicitDefEqProofs (disch := (first | omega | (simp -implicitDefEqProofs only [szs, ne_eq] <;> omega) | fail)) only [go_sem, Nat.reduceAdd, Nat.reduceSub, Nat.reduceMul, Nat.reduceLT, Nat.reduceMod, Nat.reduceDiv, Nat.reduceEqDiff, Nat.reduceBEq, Nat.reduceLeDiff, ↓reduceIte, reduceCtorEq, Int.reduceAdd, Int.reduceSub, Int.reduceLT, Int.reduceLE, Int.reduceBEq, Int.reduceEq, Int.reduceToNat]
  simp -implicitDefEqProofs (disch := (first | omega | (simp -implicitDefEqProofs only [szs, ne_eq] <;> omega) | fail)) only [go_sem, Nat.reduceAdd, Nat.reduceSub, Nat.reduceMul, Nat.reduceLT, Nat.reduceMod, Nat.reduceDiv, Nat.reduceEqDiff, Nat.reduceBEq, Nat.reduceLeDiff, ↓reduceIte, reduceCtorEq, Int.reduceAdd, Int.reduceSub, Int.reduceLT, Int.reduceLE, Int.reduceBEq, Int.reduceEq, Int.reduceToNat, ir7, ↓hl0, undefV]
  by_cases hgd : goodN n mq gq
  · refine GCall.of (SF.any ((new_at hq (fun _ => trivial) hgd).kept)) ?_
    rintro v h1 ⟨⟨rfl, hp1⟩, vf1⟩
    have k1 : ∀ b, b < H.n → h1.get b = H.get b := fun b hb => vf1.get b hb (by simp only [WH]; omega)
    have n1 := vf1.n
    have hq1 : IntsV h1 vq mq gq := ⟨hq.int, hq.len, hq.at'.imp id fun ⟨b, o, cap, c, ce, e, hb, r⟩ => ⟨b, o, cap, c, ce, e, by rw [k1 b (Heap.lt_of_get hb)]; exact hb, r⟩⟩
    simp -implicitDefEqProofs (disch := (first | omega | (simp -implicitDefEqProofs only [szs, ne_eq] <;> omega) | fail)) only [go_sem, Nat.reduceAdd, Nat.reduceSub, Nat.reduceMul, Nat.reduceLT, Nat.reduceMod, Nat.reduceDiv, Nat.reduceEqDiff, Nat.reduceBEq, Nat.reduceLeDiff, ↓reduceIte, reduceCtorEq, Int.reduceAdd, Int.reduceSub, Int.reduceLT, Int.reduceLE, Int.reduceBEq, Int.reduceEq, Int.reduceToNat]
    refine GCall.of (SF.any (rnew_ok (n := n) hq1.w (fun _ => trivial))) ?_
    rintro v h2 ⟨n2, k2, ⟨hb, _⟩ | ⟨_, rd, rl, bv, rfl, hr⟩⟩
    · exact absurd hgd hb
    have n0 : 0 ≤ n := by have := hgd.n1; omega
    have pv : PV h2 H.n (.ptr (some (H.n + 4, 0))) (.ptr (some (rd, 0))) := by
      obtain ⟨_, q1, _⟩ := hp1.p
      obtain ⟨_, q2, _⟩ := hp1.f
      obtain ⟨_, q3, _⟩ := hp1.q
      obtain ⟨_, q4, _⟩ := hp1.u
      refine .inr ⟨H.n + 4, h1.n, rd, newL H.n n.toNat mq, rl, _, bv, rfl, rfl, hp1.old k2, hr, WF.new (by have := hgd.n2; omega) hgd.q (by have := hgd.s; omega), ⟨hgd.m1, hgd.m2⟩, ⟨by omega, by simp only [newL]; omega, by simp only [newL]; omega, by simp only [newL]; omega⟩, Heap.lt_of_get q1, Heap.lt_of_get q2, Heap.lt_of_get q3, Heap.lt_of_get q4⟩
    simp -implicitDefEqProofs (disch := (first | omega | (simp -implicitDefEqProofs only [szs, ne_eq] <;> omega) | fail)) only [go_sem, Nat.reduceAdd, Nat.reduceSub, Nat.reduceMul, Nat.reduceLT, Nat.reduceMod, Nat.reduceDiv, Nat.reduceEqDiff, Nat.reduceBEq, Nat.reduceLeDiff, ↓reduceIte, reduceCtorEq, Int.reduceAdd, Int.reduceSub, Int.reduceLT, Int.reduceLE, Int.reduceBEq, Int.reduceEq, Int.reduceToNat, undefV, isn]
    refine GCall.of (stands_pv pv (fun _ => trivial) leave) ?_
    rintro v h3 ⟨rfl, n3, k3⟩
    simp -implicitDefEqProofs (disch := (first | omega | (simp -implicitDefEqProofs only [szs, ne_eq] <;> omega) | fail)) only [go_sem, Nat.reduceAdd, Nat.reduceSub, Nat.reduceMul, Nat.reduceLT, Nat.reduceMod, Nat.reduceDiv, Nat.reduceEqDiff, Nat.reduceBEq, Nat.reduceLeDiff, ↓reduceIte, reduceCtorEq, Int.reduceAdd, Int.reduceSub, Int.reduceLT, Int.reduceLE, Int.reduceBEq, Int.reduceEq, Int.reduceToNat, undefV]
    refine play_loop (leave := leave) hv0 (by omega) (pv.old n3 k3) (by omega) (fun b hb => by rw [k3 b (by omega), k2 b (by omega), k1 b hb]) ?_ (by simp -implicitDefEqProofs (disch := (first | omega | (simp -implicitDefEqProofs only [szs, ne_eq] <;> omega) | fail)) only [go_sem, Nat.reduceAdd, Nat.reduceSub, Nat.reduceMul, Nat.reduceLT, Nat.reduceMod, Nat.reduceDiv, Nat.reduceEqDiff, Nat.reduceBEq, Nat.reduceLeDiff, ↓reduceIte, reduceCtorEq, Int.reduceAdd, Int.reduceSub, Int.reduceLT, Int.reduceLE, Int.reduceBEq, Int.reduceEq, Int.reduceToNat]) (by simp -implicitDefEqProofs (disch := (first | omega | (simp -implicitDefEqProofs only [szs, ne_eq] <;> omega) | fail)) only [go_sem, Nat.reduceAdd, Nat.reduceSub, Nat.reduceMul, Nat.reduceLT, Nat.reduceMod, Nat.reduceDiv, Nat.reduceEqDiff, Nat.reduceBEq, Nat.reduceLeDiff, ↓reduceIte, reduceCtorEq, Int.reduceAdd, Int.reduceSub, Int.reduceLT, Int.reduceLE, Int.reduceBEq, Int.reduceEq, Int.reduceToNat]) (by simp -implicitDefEqProofs (disch := (first | omega | (simp -implicitDefEqProofs only [szs, ne_eq] <;> omega) | fail)) only [go_sem, Nat.reduceAdd, Nat.reduceSub, Nat.reduceMul, Nat.reduceLT, Nat.reduceMod, Nat.reduceDiv, Nat.reduceEqDiff, Nat.reduceBEq, Nat.reduceLeDiff, ↓reduceIte, reduceCtorEq, Int.reduceAdd, Int.reduceSub, Int.reduceLT, Int.reduceLE, Int.reduceBEq, Int.reduceEq, Int.reduceToNat]) (by simp -implicitDefEqProofs (disch := (first | omega | (simp -implicitDefEqProofs only [szs, ne_eq] <;> omega) | fail)) only [go_sem, Nat.reduceAdd, Nat.reduceSub, Nat.reduceMul, Nat.reduceLT, Nat.reduceMod, Nat.reduceDiv, Nat.reduceEqDiff, Nat.reduceBEq, Nat.reduceLeDiff, ↓reduceIte, reduceCtorEq, Int.reduceAdd, Int.reduceSub, Int.reduceLT, Int.reduceLE, Int.reduceBEq, Int.reduceEq, Int.reduceToNat]) (by simp -implicitDefEqProofs (disch := (first | omega | (simp -implicitDefEqProofs only [szs, ne_eq] <;> omega) | fail)) only [go_sem, Nat.reduceAdd, Nat.reduceSub, Nat.reduceMul, Nat.reduceLT, Nat.reduceMod, Nat.reduceDiv, Nat.reduceEqDiff, Nat.reduceBEq, Nat.reduceLeDiff, ↓reduceIte, reduceCtorEq, Int.reduceAdd, Int.reduceSub, Int.reduceLT, Int.reduceLE, Int.reduceBEq, Int.reduceEq, Int.reduceToNat]) (by simp -implicitDefEqProofs (disch := (first | omega | (simp -implicitDefEqProofs only [szs, ne_eq] <;> omega) | fail)) only [go_sem, Nat.reduceAdd, Nat.reduceSub, Nat.reduceMul, Nat.reduceLT, Nat.reduceMod, Nat.reduceDiv, Nat.reduceEqDiff, Nat.reduceBEq, Nat.reduceLeDiff, ↓reduceIte, reduceCtorEq, Int.reduceAdd, Int.reduceSub, Int.reduceLT, Int.reduceLE, Int.reduceBEq, Int.reduceEq, Int.reduceToNat]) (by simp -implicitDefEqProofs (disch := (first | omega | (simp -implicitDefEqProofs only [szs, ne_eq] <;> omega) | fail)) only [go_sem, Nat.reduceAdd, Nat.reduceSub, Nat.reduceMul, Nat.reduceLT, Nat.reduceMod, Nat.reduceDiv, Nat.reduceEqDiff, Nat.reduceBEq, Nat.reduceLeDiff, ↓reduceIte, reduceCtorEq, Int.reduceAdd, Int.reduceSub, Int.reduceLT, Int.reduceLE, Int.reduceBEq, Int.reduceEq, Int.reduceToNat])
    intro tr g m u w ov hmg u3 u12 u13
    rcases ov with rfl | ⟨hc, mm, h1, h2, h3⟩
    · simp -implicitDefEqProofs (disch := (first | omega | (simp -implicitDefEqProofs only [szs, ne_eq] <;> omega) | fail)) only [go_sem, Nat.reduceAdd, Nat.reduceSub, Nat.reduceMul, Nat.reduceLT, Nat.reduceMod, Nat.reduceDiv, Nat.reduceEqDiff, Nat.reduceBEq, Nat.reduceLeDiff, ↓reduceIte, reduceCtorEq, Int.reduceAdd, Int.reduceSub, Int.reduceLT, Int.reduceLE, Int.reduceBEq, Int.reduceEq, Int.reduceToNat, u3, u12, u13, undefV, isn]
      refine GCall.of (SF.any (known_ok _ _ _)) ?_
      rintro w g2 ⟨rfl, rfl⟩
      simp -implicitDefEqProofs (disch := (first | omega | (simp -implicitDefEqProofs only [szs, ne_eq] <;> omega) | fail)) only [go_sem, Nat.reduceAdd, Nat.reduceSub, Nat.reduceMul, Nat.reduceLT, Nat.reduceMod, Nat.reduceDiv, Nat.reduceEqDiff, Nat.reduceBEq, Nat.reduceLeDiff, ↓reduceIte, reduceCtorEq, Int.reduceAdd, Int.reduceSub, Int.reduceLT, Int.reduceLE, Int.reduceBEq, Int.reduceEq, Int.reduceToNat]
    · rcases h1 with ⟨rfl, rfl⟩ | ⟨bp, n0, rd, L, rl, S, bv, rfl, rfl, hpv⟩
      · simp -implicitDefEqProofs (disch := (first | omega | (simp -implicitDefEqProofs only [szs, ne_eq] <;> omega) | fail)) only [go_sem, Nat.reduceAdd, Nat.reduceSub, Nat.reduceMul, Nat.reduceLT, Nat.reduceMod, Nat.reduceDiv, Nat.reduceEqDiff, Nat.reduceBEq, Nat.reduceLeDiff, ↓reduceIte, reduceCtorEq, Int.reduceAdd, Int.reduceSub, Int.reduceLT, Int.reduceLE, Int.reduceBEq, Int.reduceEq, Int.reduceToNat, u3, u12, u13, undefV, isn]
        refine GCall.of (SF.any (known_ok _ _ _)) ?_
        rintro w g2 ⟨rfl, rfl⟩
        simp -implicitDefEqProofs (disch := (first | omega | (simp -implicitDefEqProofs only [szs, ne_eq] <;> omega) | fail)) only [go_sem, Nat.reduceAdd, Nat.reduceSub, Nat.reduceMul, Nat.reduceLT, Nat.reduceMod, Nat.reduceDiv, Nat.reduceEqDiff, Nat.reduceBEq, Nat.reduceLeDiff, ↓reduceIte, reduceCtorEq, Int.reduceAdd, Int.reduceSub, Int.reduceLT, Int.reduceLE, Int.reduceBEq, Int.reduceEq, Int.reduceToNat]
      · simp -implicitDefEqProofs (disch := (first | omega | (simp -implicitDefEqProofs only [szs, ne_eq] <;> omega) | fail)) only [go_sem, Nat.reduceAdd, Nat.reduceSub, Nat.reduceMul, Nat.reduceLT, Nat.reduceMod, Nat.reduceDiv, Nat.reduceEqDiff, Nat.reduceBEq, Nat.reduceLeDiff, ↓reduceIte, reduceCtorEq, Int.reduceAdd, Int.reduceSub, Int.reduceLT, Int.reduceLE, Int.reduceBEq, Int.reduceEq, Int.reduceToNat, u3, u12, u13, undefV, isn]
        refine GCall.of (stands_pv (PV.old (.inr ⟨bp, n0, rd, L, rl, S, bv, rfl, rfl, hpv⟩) (by omega) h3) (fun _ => trivial) leave) ?_
        rintro w g6 ⟨rfl, n6, k6⟩
        simp -implicitDefEqProofs (disch := (first | omega | (simp -implicitDefEqProofs only [szs, ne_eq] <;> omega) | fail)) only [go_sem, Nat.reduceAdd, Nat.reduceSub, Nat.reduceMul, Nat.reduceLT, Nat.reduceMod, Nat.reduceDiv, Nat.reduceEqDiff, Nat.reduceBEq, Nat.reduceLeDiff, ↓reduceIte, reduceCtorEq, Int.reduceAdd, Int.reduceSub, Int.reduceLT, Int.reduceLE, Int.reduceBEq, Int.reduceEq, Int.reduceToNat, u3, u12, u13, undefV]
        refine GCall.of (SF.any (known_ok _ _ _)) ?_
        rintro w g2 ⟨rfl, rfl⟩
        simp -implicitDefEqProofs (disch := (first | omega | (simp -implicitDefEqProofs only [szs, ne_eq] <;> omega) | fail)) only [go_sem, Nat.reduceAdd, Nat.reduceSub, Nat.reduceMul, Nat.reduceLT, Nat.reduceMod, Nat.reduceDiv, Nat.reduceEqDiff, Nat.reduceBEq, Nat.reduceLeDiff, ↓reduceIte, reduceCtorEq, Int.reduceAdd, Int.reduceSub, Int.reduceLT, Int.reduceLE, Int.reduceBEq, Int.reduceEq, Int.reduceToNat]
  · refine GCall.of (SF.any ((new_bad hq (fun _ => trivial) hgd).kept)) ?_
    rintro v h1 ⟨rfl, vf1⟩
    have k1 : ∀ b, b < H.n → h1.get b = H.get b := fun b hb => vf1.get b hb (by simp only [WH]; omega)
    have n1 := vf1.n
    have hq1 : IntsV h1 vq mq gq := ⟨hq.int, hq.len, hq.at'.imp id fun ⟨b, o, cap, c, ce, e, hb, r⟩ => ⟨b, o, cap, c, ce, e, by rw [k1 b (Heap.lt_of_get hb)]; exact hb, r⟩⟩
    simp -implicitDefEqProofs (disch := (first | omega | (simp -implicitDefEqProofs only [szs, ne_eq] <;> omega) | fail)) only [go_sem, Nat.reduceAdd, Nat.reduceSub, Nat.reduceMul, Nat.reduceLT, Nat.reduceMod, Nat.reduceDiv, Nat.reduceEqDiff, Nat.reduceBEq, Nat.reduceLeDiff, ↓reduceIte, reduceCtorEq, Int.reduceAdd, Int.reduceSub, Int.reduceLT, Int.reduceLE, Int.reduceBEq, Int.reduceEq, Int.reduceToNat]
    refine GCall.of (SF.any (rnew_ok (n := n) hq1.w (fun _ => trivial))) ?_
    rintro v h2 ⟨n2, k2, ⟨_, rfl⟩ | ⟨hb, _⟩⟩
    rotate_left
    · exact absurd hb hgd
    have pv : PV h2 H.n (.ptr none) (.ptr none) := .inl ⟨rfl, rfl⟩
    simp -implicitDefEqProofs (disch := (first | omega | (simp -implicitDefEqProofs only [szs, ne_eq] <;> omega) | fail)) only [go_sem, Nat.reduceAdd, Nat.reduceSub, Nat.reduceMul, Nat.reduceLT, Nat.reduceMod, Nat.reduceDiv, Nat.reduceEqDiff, Nat.reduceBEq, Nat.reduceLeDiff, ↓reduceIte, reduceCtorEq, Int.reduceAdd, Int.reduceSub, Int.reduceLT, Int.reduceLE, Int.reduceBEq, Int.reduceEq, Int.reduceToNat, undefV, isn]
    refine GCall.of (stands_pv pv (fun _ => trivial) leave) ?_
    rintro v h3 ⟨rfl, n3, k3⟩
    simp -implicitDefEqProofs (disch := (first | omega | (simp -implicitDefEqProofs only [szs, ne_eq] <;> omega) | fail)) only [go_sem, Nat.reduceAdd, Nat.reduceSub, Nat.reduceMul, Nat.reduceLT, Nat.reduceMod, Nat.reduceDiv, Nat.reduceEqDiff, Nat.reduceBEq, Nat.reduceLeDiff, ↓reduceIte, reduceCtorEq, Int.reduceAdd, Int.reduceSub, Int.reduceLT, Int.reduceLE, Int.reduceBEq, Int.reduceEq, Int.reduceToNat, undefV]
    refine play_loop (leave := leave) hv0 (by omega) (pv.old n3 k3) (by omega) (fun b hb => by rw [k3 b (by omega), k2 b (by omega), k1 b hb]) ?_ (by simp -implicitDefEqProofs (disch := (first | omega | (simp -implicitDefEqProofs only [szs, ne_eq] <;> omega) | fail)) only [go_sem, Nat.reduceAdd, Nat.reduceSub, Nat.reduceMul, Nat.reduceLT, Nat.reduceMod, Nat.reduceDiv, Nat.reduceEqDiff, Nat.reduceBEq, Nat.reduceLeDiff, ↓reduceIte, reduceCtorEq, Int.reduceAdd, Int.reduceSub, Int.reduceLT, Int.reduceLE, Int.reduceBEq, Int.reduceEq, Int.reduceToNat]) (by simp -implicitDefEqProofs (disch := (first | omega | (simp -implicitDefEqProofs only [szs, ne_eq] <;> omega) | fail)) only [go_sem, Nat.reduceAdd, Nat.reduceSub, Nat.reduceMul, Nat.reduceLT, Nat.reduceMod, Nat.reduceDiv, Nat.reduceEqDiff, Nat.reduceBEq, Nat.reduceLeDiff, ↓reduceIte, reduceCtorEq, Int.reduceAdd, Int.reduceSub, Int.reduceLT, Int.reduceLE, Int.reduceBEq, Int.reduceEq, Int.reduceToNat]) (by simp -implicitDefEqProofs (disch := (first | omega | (simp -implicitDefEqProofs only [szs, ne_eq] <;> omega) | fail)) only [go_sem, Nat.reduceAdd, Nat.reduceSub, Nat.reduceMul, Nat.reduceLT, Nat.reduceMod, Nat.reduceDiv, Nat.reduceEqDiff, Nat.reduceBEq, Nat.reduceLeDiff, ↓reduceIte, reduceCtorEq, Int.reduceAdd, Int.reduceSub, Int.reduceLT, Int.reduceLE, Int.reduceBEq, Int.reduceEq, Int.reduceToNat]) (by simp -implicitDefEqProofs (disch := (first | omega | (simp -implicitDefEqProofs only [szs, ne_eq] <;> omega) | fail)) only [go_sem, Nat.reduceAdd, Nat.reduceSub, Nat.reduceMul, Nat.reduceLT, Nat.reduceMod, Nat.reduceDiv, Nat.reduceEqDiff, Nat.reduceBEq, Nat.reduceLeDiff, ↓reduceIte, reduceCtorEq, Int.reduceAdd, Int.reduceSub, Int.reduceLT, Int.reduceLE, Int.reduceBEq, Int.reduceEq, Int.reduceToNat]) (by simp -implicitDefEqProofs (disch := (first | omega | (simp -implicitDefEqProofs only [szs, ne_eq] <;> omega) | fail)) only [go_sem, Nat.reduceAdd, Nat.reduceSub, Nat.reduceMul, Nat.reduceLT, Nat.reduceMod, Nat.reduceDiv, Nat.reduceEqDiff, Nat.reduceBEq, Nat.reduceLeDiff, ↓reduceIte, reduceCtorEq, Int.reduceAdd, Int.reduceSub, Int.reduceLT, Int.reduceLE, Int.reduceBEq, Int.reduceEq, Int.reduceToNat]) (by simp -implicitDefEqProofs (disch := (first | omega | (simp -implicitDefEqProofs only [szs, ne_eq] <;> omega) | fail)) only [go_sem, Nat.reduceAdd, Nat.reduceSub, Nat.reduceMul, Nat.reduceLT, Nat.reduceMod, Nat.reduceDiv, Nat.reduceEqDiff, Nat.reduceBEq, Nat.reduceLeDiff, ↓reduceIte, reduceCtorEq, Int.reduceAdd, Int.reduceSub, Int.reduceLT, Int.reduceLE, Int.reduceBEq, Int.reduceEq, Int.reduceToNat]) (by simp -implicitDefEqProofs (disch := (first | omega | (simp -implicitDefEqProofs only [szs, ne_eq] <;> omega) | fail)) only [go_sem, Nat.reduceAdd, Nat.reduceSub, Nat.reduceMul, Nat.reduceLT, Nat.reduceMod, Nat.reduceDiv, Nat.reduceEqDiff, Nat.reduceBEq, Nat.reduceLeDiff, ↓reduceIte, reduceCtorEq, Int.reduceAdd, Int.reduceSub, Int.reduceLT, Int.reduceLE, Int.reduceBEq, Int.reduceEq, Int.reduceToNat])
    intro tr g m u w ov hmg u3 u12 u13
    rcases ov with rfl | ⟨hc, mm, h1, h2, h3⟩
    · simp -implicitDefEqProofs (disch := (first | omega | (simp -implicitDefEqProofs only [szs, ne_eq] <;> omega) | fail)) only [go_sem, Nat.reduceAdd, Nat.reduceSub, Nat.reduceMul, Nat.reduceLT, Nat.reduceMod, Nat.reduceDiv, Nat.reduceEqDiff, Nat.reduceBEq, Nat.reduceLeDiff, ↓reduceIte, reduceCtorEq, Int.reduceAdd, Int.reduceSub, Int.reduceLT, Int.reduceLE, Int.reduceBEq, Int.reduceEq, Int.reduceToNat, u3, u12, u13, undefV, isn]
      refine GCall.of (SF.any (known_ok _ _ _)) ?_
      rintro w g2 ⟨rfl, rfl⟩
      simp -implicitDefEqProofs (disch := (first | omega | (simp -implicitDefEqProofs only [szs, ne_eq] <;> omega) | fail)) only [go_sem, Nat.reduceAdd, Nat.reduceSub, Nat.reduceMul, Nat.reduceLT, Nat.reduceMod, Nat.reduceDiv, Nat.reduceEqDiff, Nat.reduceBEq, Nat.reduceLeDiff, ↓reduceIte, reduceCtorEq, Int.reduceAdd, Int.reduceSub, Int.reduceLT, Int.reduceLE, Int.reduceBEq, Int.reduceEq, Int.reduceToNat]
    · rcases h1 with ⟨rfl, rfl⟩ | ⟨bp, n0, rd, L, rl, S, bv, rfl, rfl, hpv⟩
      · simp -implicitDefEqProofs (disch := (first | omega | (simp -implicitDefEqProofs only [szs, ne_eq] <;> omega) | fail)) only [go_sem, Nat.reduceAdd, Nat.reduceSub, Nat.reduceMul, Nat.reduceLT, Nat.reduceMod, Nat.reduceDiv, Nat.reduceEqDiff, Nat.reduceBEq, Nat.reduceLeDiff, ↓reduceIte, reduceCtorEq, Int.reduceAdd, Int.reduceSub, Int.reduceLT, Int.reduceLE, Int.reduceBEq, Int.reduceEq, Int.reduceToNat, u3, u12, u13, undefV, isn]
        refine GCall.of (SF.any (known_ok _ _ _)) ?_
        rintro w g2 ⟨rfl, rfl⟩
        simp -implicitDefEqProofs (disch := (first | omega | (simp -implicitDefEqProofs only [szs, ne_eq] <;> omega) | fail)) only [go_sem, Nat.reduceAdd, Nat.reduceSub, Nat.reduceMul, Nat.reduceLT, Nat.reduceMod, Nat.reduceDiv, Nat.reduceEqDiff, Nat.reduceBEq, Nat.reduceLeDiff, ↓reduceIte, reduceCtorEq, Int.reduceAdd, Int.reduceSub, Int.reduceLT, Int.reduceLE, Int.reduceBEq, Int.reduceEq, Int.reduceToNat]
      · simp -implicitDefEqProofs (disch := (first | omega | (simp -implicitDefEqProofs only [szs, ne_eq] <;> omega) | fail)) only [go_sem, Nat.reduceAdd, Nat.reduceSub, Nat.reduceMul, Nat.reduceLT, Nat.reduceMod, Nat.reduceDiv, Nat.reduceEqDiff, Nat.reduceBEq, Nat.reduceLeDiff, ↓reduceIte, reduceCtorEq, Int.reduceAdd, Int.reduceSub, Int.reduceLT, Int.reduceLE, Int.reduceBEq, Int.reduceEq, Int.reduceToNat, u3, u12, u13, undefV, isn]
        refine GCall.of (stands_pv (PV.old (.inr ⟨bp, n0, rd, L, rl, S, bv, rfl, rfl, hpv⟩) (by omega) h3) (fun _ => trivial) leave) ?_
        rintro w g6 ⟨rfl, n6, k6⟩
        simp -implicitDefEqProofs (disch := (first | omega | (simp -implicitDefEqProofs only [szs, ne_eq] <;> omega) | fail)) only [go_sem, Nat.reduceAdd, Nat.reduceSub, Nat.reduceMul, Nat.reduceLT, Nat.reduceMod, Nat.reduceDiv, Nat.reduceEqDiff, Nat.reduceBEq, Nat.reduceLeDiff, ↓reduceIte, reduceCtorEq, Int.reduceAdd, Int.reduceSub, Int.reduceLT, Int.reduceLE, Int.reduceBEq, Int.reduceEq, Int.reduceToNat, u3, u12, u13, undefV]
        refine GCall.of (SF.any (known_ok _ _ _)) ?_
        rintro w g2 ⟨rfl, rfl⟩
        simp -implicitDefEqProofs (disch := (first | omega | (simp -implicitDefEqProofs only [szs, ne_eq] <;> omega) | fail)) only [go_sem, Nat.reduceAdd, Nat.reduceSub, Nat.reduceMul, Nat.reduceLT, Nat.reduceMod, Nat.reduceDiv, Nat.reduceEqDiff, Nat.reduceBEq, Nat.reduceLeDiff, ↓reduceIte, reduceCtorEq, Int.reduceAdd, Int.reduceSub, Int.reduceLT, Int.reduceLE, Int.reduceBEq, Int.reduceEq, Int.reduceToNat]
end Go.Proofs.Ytfgdpgagcnelpaa
