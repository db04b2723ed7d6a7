/- CapsPlay: the law. -/
import Derived.Test.YtehgjkopobkbmaaP3
set_option linter.unusedVariables false
set_option linter.unusedSimpArgs false
set_option linter.unusedSimpArgs false
set_option maxRecDepth 100000
set_option linter.unusedVariables false
set_option linter.unusedSimpArgs false
namespace Go.Proofs.Ytehgjkopobkbmaa
open Go Go.Vm
open Classical
/-- The pair that a Clone left behind, as it was then. -/
def OldV (g : Heap) (m : Nat) (x y : V) : Prop := (x = .ptr none ∧ y = .ptr none) ∨ ∃ hc tb r n0 rd T, x = .ptr (some (tb, 0)) ∧ y = .ptr (some (rd, 0)) ∧ CapAt hc tb r T ∧ RefC hc n0 rd T ∧ GJ T ∧ hc.n ≤ m ∧ ∀ b, b < hc.n → g.get b = hc.get b
theorem OldV.keep {g g' : Heap} {m : Nat} {x y : V} (h : OldV g m x y) (hk : ∀ b, b < m → g'.get b = g.get b) : OldV g' m x y := by
  rcases h with h | ⟨hc, tb, r, n0, rd, T, h1, h2, h3, h4, h5, h6, h7⟩
  · exact .inl h
  · exact .inr ⟨hc, tb, r, n0, rd, T, h1, h2, h3, h4, h5, h6, fun b hb => by rw [hk b (by omega)]; exact h7 b hb⟩
/-- The pair that goes on. -/
structure LP (H g : Heap) (tb r n0 rd m : Nat) (T : CS) : Prop where
  ht : CapAt g tb r T
  hr : RefC g n0 rd T
  hz : GJ T
  sep : tb < n0 ∧ r < n0 ∧ tb ≠ rd ∧ r ≠ rd
  lo : H.n ≤ m ∧ m ≤ tb ∧ m ≤ r ∧ m ≤ n0 ∧ m ≤ rd
  old : ∀ b, b < H.n → g.get b = H.get b
set_option maxHeartbeats 1000000 in
theorem play_loop {H g : Heap} {Q' : Ex → Fr → Heap → Prop} {t : List It} {v0 : V} {m0 : Nat} {S0 : Nat → St} {leave : Int} {tb r n0 rd : Nat} {T : CS} (hv0 : StepsV H v0 m0 S0) (h60 : m0 ≤ 60) (lp : LP H g tb r n0 rd H.n T) (hl : T.last ≤ 0)
    (hk : ∀ (tr : Tr V) g' tb r n0 rd m T x y, LP H g' tb r n0 rd m T → OldV g' m x y → tr.get 1 = some (.int .i64 leave) → tr.get 7 = some x → tr.get 8 = some y → resume ⟨Try.prog, true⟩ (fun _ => True) (fun b => H.n ≤ b ∨ WH H b) none Q' t (.exit 0) ⟨⟨63, tr⟩, []⟩ g')
    {tr : Tr V} (w0 : tr.get 0 = some v0) (w1 : tr.get 1 = some (.int .i64 leave)) (w5 : tr.get 5 = some (.ptr (some (tb, 0)))) (w6 : tr.get 6 = some (.ptr (some (rd, 0)))) (w7 : tr.get 7 = some (.ptr none)) (w8 : tr.get 8 = some (.ptr none)) (w9 : tr.get 9 = some (.int .i64 0)) :
    GLoop ⟨Try.prog, true⟩ (fun _ => True) (fun b => H.n ≤ b ∨ WH H b) none Q' ir7_l0 t ⟨⟨63, tr⟩, []⟩ g := by
  have hl0 := hv0.lenV
  have hml := hv0.len
  refine GLoop.inv hm (fun k f g' => f.mks = [] ∧ f.tm.n = 63 ∧ f.tm.get 0 = some v0 ∧ f.tm.get 1 = some (.int .i64 leave) ∧ ∃ (i tb r n0 rd m : Nat) (T' : CS) (x y : V), i + k = m0 ∧ f.tm.get 5 = some (.ptr (some (tb, 0))) ∧ f.tm.get 6 = some (.ptr (some (rd, 0))) ∧ f.tm.get 7 = some x ∧ f.tm.get 8 = some y ∧ f.tm.get 9 = some (.int .i64 i) ∧ LP H g' tb r n0 rd m T' ∧ OldV g' m x y ∧ T'.last ≤ i) m0 ?_ ?_
  · exact ⟨rfl, rfl, w0, w1, 0, tb, r, n0, rd, H.n, T, _, _, by omega, w5, w6, w7, w8, w9, lp, .inl ⟨rfl, rfl⟩, hl⟩
  clear w0 w1 w5 w6 w7 w8 w9 lp hl
  clear tr T tb r n0 rd g
  rintro k ⟨⟨n', tr⟩, mks⟩ g ⟨hmk, hn', t0, t1, i, tb, r, n0, rd, m, T, x, y, hik, t5, t6, t7, t8, t9, lp, ov, hl⟩
  simp only [Tm.get_mk] at hmk hn' t0 t1 t5 t6 t7 t8 t9
  subst hmk hn'
  obtain ⟨ht, hr, z, sep, lo, old⟩ := lp
  have hltc := ht.lt
  have hltr := hr.lt
  by_cases him : i < m0
  · rcases hv0.at' with ⟨h0, _⟩ | ⟨b, o, cap, c, ce, rfl, hb, hsz, hcc⟩
    · omega
    obtain ⟨c0, c1, c2, c3, c4, c5, c6⟩ := hcc i him
    have hbl := Heap.lt_of_get hb
    have hb1 := (old b hbl).trans hb
    by_cases h6 : (S0 i).k = 6
    · simp -implicitDefEqProofs (disch := (first | omega | (simp -implicitDefEqProofs only [szs, ne_eq] <;> omega) | fail)) only [go_sem, Nat.reduceAdd, Nat.reduceSub, Nat.reduceMul, Nat.reduceLT, Nat.reduceMod, Nat.reduceDiv, Nat.reduceEqDiff, Nat.reduceBEq, Nat.reduceLeDiff, ↓reduceIte, reduceCtorEq, Int.reduceAdd, Int.reduceSub, Int.reduceLT, Int.reduceLE, Int.reduceBEq, Int.reduceEq, Int.reduceToNat, ir7_l0, t0, t1, t5, t6, t7, t8, t9, ↓hl0, hb1, c0, c1, c2, c3, c4, c5, c6, h6]
      refine GCall.of (clone_ok ht (fun _ => trivial)).any ?_
      rintro w g1 ⟨rfl, ht1, n1, k1⟩
      simp -implicitDefEqProofs (disch := (first | omega | (simp -implicitDefEqProofs only [szs, ne_eq] <;> omega) | fail)) only [go_sem, Nat.reduceAdd, Nat.reduceSub, Nat.reduceMul, Nat.reduceLT, Nat.reduceMod, Nat.reduceDiv, Nat.reduceEqDiff, Nat.reduceBEq, Nat.reduceLeDiff, ↓reduceIte, reduceCtorEq, Int.reduceAdd, Int.reduceSub, Int.reduceLT, Int.reduceLE, Int.reduceBEq, Int.reduceEq, Int.reduceToNat, t0, t1, t5, t6, t7, t8, t9]
      refine GCall.of (rclone_ok (hr.old (by omega) k1) z.w (fun _ => trivial)).any ?_
      rintro w g2 ⟨rd', rfl, hrd, hr2, k2⟩
      have hlr2 := hr2.lt
      have ht2 := ht1.old k2
      have k12 : ∀ b, b < g.n → g2.get b = g.get b := fun b hb => by rw [k2 b (by omega), k1 b hb]
      have sep2 : g.n + 1 < g1.n ∧ g.n < g1.n ∧ g.n + 1 ≠ rd' ∧ g.n ≠ rd' := by omega
      have hb2 := (k12 b (Heap.lt_of_get hb1)).trans hb1
      have old2 : ∀ b, b < H.n → g2.get b = H.get b := fun b hb => by rw [k12 b (by omega)]; exact old b hb
      have ov2 : OldV g2 g.n (.ptr (some (tb, 0))) (.ptr (some (rd, 0))) := .inr ⟨g, tb, r, n0, rd, T, rfl, rfl, ht, hr, z, Nat.le_refl _, k12⟩
      simp -implicitDefEqProofs (disch := (first | omega | (simp -implicitDefEqProofs only [szs, ne_eq] <;> omega) | fail)) only [go_sem, Nat.reduceAdd, Nat.reduceSub, Nat.reduceMul, Nat.reduceLT, Nat.reduceMod, Nat.reduceDiv, Nat.reduceEqDiff, Nat.reduceBEq, Nat.reduceLeDiff, ↓reduceIte, reduceCtorEq, Int.reduceAdd, Int.reduceSub, Int.reduceLT, Int.reduceLE, Int.reduceBEq, Int.reduceEq, Int.reduceToNat, t0, t1, t5, t6, t7, t8, t9, hb2, c0, c1, c2, c3, c4, c5, c6]
      obtain ⟨P, hP⟩ : ∃ P : Set', P = fun b => b = (g.n + 1) ∨ b = g.n ∨ b = rd' ∨ g1.n ≤ b := ⟨_, rfl⟩
      refine GCall.of (((does_ok (R := fun _ => True) (W := P) ht2 hr2 z.w sep2 (fun _ => trivial) (fun b hb => by rw [hP]; exact hb) (S0 i)).kept.any).foot (fun _ h => h) (fun b hb => .inl (by rw [hP] at hb; rcases hb with rfl | rfl | rfl | hb <;> omega))) ?_
      rintro w g5 ⟨⟨rfl, hc5, hr5⟩, vf⟩
      have hn5 := vf.n
      have l5 := (oneT_last T (S0 i)).2
      have z5 := z.one (by omega) (S0 i)
      have k5 : ∀ b, b < g.n → g5.get b = g2.get b := fun b hb => vf.get b (by omega) (by rw [hP]; rintro (h | h | h | h) <;> omega)
      simp -implicitDefEqProofs (disch := (first | omega | (simp -implicitDefEqProofs only [szs, ne_eq] <;> omega) | fail)) only [go_sem, Nat.reduceAdd, Nat.reduceSub, Nat.reduceMul, Nat.reduceLT, Nat.reduceMod, Nat.reduceDiv, Nat.reduceEqDiff, Nat.reduceBEq, Nat.reduceLeDiff, ↓reduceIte, reduceCtorEq, Int.reduceAdd, Int.reduceSub, Int.reduceLT, Int.reduceLE, Int.reduceBEq, Int.reduceEq, Int.reduceToNat, undefV, t0, t1, t5, t6, t7, t8, t9]
      refine GCall.of (stands_dem hc5 hr5 z5.w (fun _ => trivial) leave) ?_
      rintro w g6 ⟨rfl, n6, k6⟩
      simp -implicitDefEqProofs (disch := (first | omega | (simp -implicitDefEqProofs only [szs, ne_eq] <;> omega) | fail)) only [go_sem, Nat.reduceAdd, Nat.reduceSub, Nat.reduceMul, Nat.reduceLT, Nat.reduceMod, Nat.reduceDiv, Nat.reduceEqDiff, Nat.reduceBEq, Nat.reduceLeDiff, ↓reduceIte, reduceCtorEq, Int.reduceAdd, Int.reduceSub, Int.reduceLT, Int.reduceLE, Int.reduceBEq, Int.reduceEq, Int.reduceToNat, undefV, t0, t1, t5, t6, t7, t8, t9]
      have k56 : ∀ b, b < g.n → g6.get b = g2.get b := fun b hb => by rw [k6 b (by omega)]; exact k5 b hb
      have lp6 : LP H g6 (g.n + 1) g.n g1.n rd' g.n (oneT T (S0 i)) := ⟨hc5.old k6, hr5.old n6 k6, z5, sep2, by omega, fun b hb => by rw [k56 b (by omega)]; exact old2 b hb⟩
      have ov6 : OldV g6 g.n (.ptr (some (tb, 0))) (.ptr (some (rd, 0))) := OldV.keep ov2 k56
      exact ⟨k - 1, by omega, i + 1, (g.n + 1), g.n, g1.n, rd', g.n, oneT T (S0 i), (.ptr (some (tb, 0))), (.ptr (some (rd, 0))), by omega, rfl, rfl, rfl, rfl, by simp, lp6, ov6, by omega⟩
    · simp -implicitDefEqProofs (disch := (first | omega | (simp -implicitDefEqProofs only [szs, ne_eq] <;> omega) | fail)) only [go_sem, Nat.reduceAdd, Nat.reduceSub, Nat.reduceMul, Nat.reduceLT, Nat.reduceMod, Nat.reduceDiv, Nat.reduceEqDiff, Nat.reduceBEq, Nat.reduceLeDiff, ↓reduceIte, reduceCtorEq, Int.reduceAdd, Int.reduceSub, Int.reduceLT, Int.reduceLE, Int.reduceBEq, Int.reduceEq, Int.reduceToNat, ir7_l0, t0, t1, t5, t6, t7, t8, t9, ↓hl0, hb1, c0, c1, c2, c3, c4, c5, c6, h6]
      obtain ⟨P, hP⟩ : ∃ P : Set', P = fun b => b = tb ∨ b = r ∨ b = rd ∨ n0 ≤ b := ⟨_, rfl⟩
      refine GCall.of (((does_ok (R := fun _ => True) (W := P) ht hr z.w sep (fun _ => trivial) (fun b hb => by rw [hP]; exact hb) (S0 i)).kept.any).foot (fun _ h => h) (fun b hb => .inl (by rw [hP] at hb; rcases hb with rfl | rfl | rfl | hb <;> omega))) ?_
      rintro w g5 ⟨⟨rfl, hc5, hr5⟩, vf⟩
      have hn5 := vf.n
      have l5 := (oneT_last T (S0 i)).2
      have z5 := z.one (by omega) (S0 i)
      have k5 : ∀ b, b < m → g5.get b = g.get b := fun b hb => vf.get b (by omega) (by rw [hP]; rintro (h | h | h | h) <;> omega)
      simp -implicitDefEqProofs (disch := (first | omega | (simp -implicitDefEqProofs only [szs, ne_eq] <;> omega) | fail)) only [go_sem, Nat.reduceAdd, Nat.reduceSub, Nat.reduceMul, Nat.reduceLT, Nat.reduceMod, Nat.reduceDiv, Nat.reduceEqDiff, Nat.reduceBEq, Nat.reduceLeDiff, ↓reduceIte, reduceCtorEq, Int.reduceAdd, Int.reduceSub, Int.reduceLT, Int.reduceLE, Int.reduceBEq, Int.reduceEq, Int.reduceToNat, undefV, t0, t1, t5, t6, t7, t8, t9]
      refine GCall.of (stands_dem hc5 hr5 z5.w (fun _ => trivial) leave) ?_
      rintro w g6 ⟨rfl, n6, k6⟩
      simp -implicitDefEqProofs (disch := (first | omega | (simp -implicitDefEqProofs only [szs, ne_eq] <;> omega) | fail)) only [go_sem, Nat.reduceAdd, Nat.reduceSub, Nat.reduceMul, Nat.reduceLT, Nat.reduceMod, Nat.reduceDiv, Nat.reduceEqDiff, Nat.reduceBEq, Nat.reduceLeDiff, ↓reduceIte, reduceCtorEq, Int.reduceAdd, Int.reduceSub, Int.reduceLT, Int.reduceLE, Int.reduceBEq, Int.reduceEq, Int.reduceToNat, undefV, t0, t1, t5, t6, t7, t8, t9]
      have k56 : ∀ b, b < m → g6.get b = g.get b := fun b hb => by rw [k6 b (by omega)]; exact k5 b hb
      have lp6 : LP H g6 tb r n0 rd m (oneT T (S0 i)) := ⟨hc5.old k6, hr5.old n6 k6, z5, sep, by omega, fun b hb => by rw [k56 b (by omega)]; exact old b hb⟩
      have ov6 : OldV g6 m x y := OldV.keep ov k56
      exact ⟨k - 1, by omega, i + 1, tb, r, n0, rd, m, oneT T (S0 i), x, y, by omega, rfl, rfl, rfl, rfl, by simp, lp6, ov6, by omega⟩
  · simp -implicitDefEqProofs (disch := (first | omega | (simp -implicitDefEqProofs only [szs, ne_eq] <;> omega) | fail)) only [go_sem, Nat.reduceAdd, Nat.reduceSub, Nat.reduceMul, Nat.reduceLT, Nat.reduceMod, Nat.reduceDiv, Nat.reduceEqDiff, Nat.reduceBEq, Nat.reduceLeDiff, ↓reduceIte, reduceCtorEq, Int.reduceAdd, Int.reduceSub, Int.reduceLT, Int.reduceLE, Int.reduceBEq, Int.reduceEq, Int.reduceToNat, ir7_l0, t0, t1, t5, t6, t7, t8, t9, ↓hl0]
    exact hk _ g tb r n0 rd m T x y ⟨ht, hr, z, sep, lo, old⟩ ov (by simp -implicitDefEqProofs (disch := (first | omega | (simp -implicitDefEqProofs only [szs, ne_eq] <;> omega) | fail)) only [go_sem, Nat.reduceAdd, Nat.reduceSub, Nat.reduceMul, Nat.reduceLT, Nat.reduceMod, Nat.reduceDiv, Nat.reduceEqDiff, Nat.reduceBEq, Nat.reduceLeDiff, ↓reduceIte, reduceCtorEq, Int.reduceAdd, Int.reduceSub, Int.reduceLT, Int.reduceLE, Int.reduceBEq, Int.reduceEq, Int.reduceToNat, t1]) (by simp -implicitDefEqProofs (disch := (first | omega | (simp -implicitDefEqProofs only [szs, ne_eq] <;> omega) | fail)) only [go_sem, Nat.reduceAdd, Nat.reduceSub, Nat.reduceMul, Nat.reduceLT, Nat.reduceMod, Nat.reduceDiv, Nat.reduceEqDiff, Nat.reduceBEq, Nat.reduceLeDiff, ↓reduceIte, reduceCtorEq, Int.reduceAdd, Int.reduceSub, Int.reduceLT, Int.reduceLE, Int.reduceBEq, Int.reduceEq, Int.reduceToNat, t7]) (by simp -implicitDefEqProofs (disch := (first | omega | (simp -implicitDefEqProofs only [szs, ne_eq] <;> omega) | fail)) only [go_sem, Nat.reduceAdd, Nat.reduceSub, Nat.reduceMul, Nat.reduceLT, Nat.reduceMod, Nat.reduceDiv, Nat.reduceEqDiff, Nat.reduceBEq, Nat.reduceLeDiff, ↓reduceIte, reduceCtorEq, Int.reduceAdd, Int.reduceSub, Int.reduceLT, Int.reduceLE, Int.reduceBEq, Int.reduceEq, Int.reduceToNat, t8])
set_option maxHeartbeats 1000000 in
theorem play_law {H : Heap} {leave : Int} {v0 : V} {m0 : Nat} {S0 : Nat → St} (hv0 : StepsV H v0 m0 S0) :
    SF ⟨Try.prog, true⟩ 7 [v0, .int .i64 leave] H (fun _ => True) (WH H) fun v _ => v = .bool true := by
  have hl0 := hv0.lenV
  have hml := hv0.len
  refine SF.go hm Try.func7 ir7_eq ?_
  by_cases h60 : 60 < m0
  · simp -implicitDefEqProofs (disch := (first | omega | (simp -implicitDefEqProofs only [szs, ne_eq] <;> omega) | fail)) only [go_sem, Nat.reduceAdd, Nat.reduceSub, Nat.reduceMul, Nat.reduceLT, Nat.reduceMod, Nat.reduceDiv, Nat.reduceEqDiff, Nat.reduceBEq, Nat.reduceLeDiff, ↓reduceIte, reduceCtorEq, Int.reduceAdd, Int.reduceSub, Int.reduceLT, Int.reduceLE, Int.reduceBEq, Int.reduceEq, Int.reduceToNat, ir7, ↓hl0, undefV]
    refine GCall.of (known_ok _ _ _).any ?_
    rintro w g2 ⟨rfl, rfl⟩
    simp -implicitDefEqProofs (disch := (first | omega | (simp -implicitDefEqProofs only [szs, ne_eq] <;> omega) | fail)) only [go_sem, Nat.reduceAdd, Nat.reduceSub, Nat.reduceMul, Nat.reduceLT, Nat.reduceMod, Nat.reduceDiv, Nat.reduceEqDiff, Nat.reduceBEq, Nat.reduceLeDiff, ↓reduceIte, reduceCtorEq, Int.reduceAdd, Int.reduceSub, Int.reduceLT, Int.reduceLE, Int.reduceBEq, Int.reduceEq, Int.reduceToNat]
  simp -implicitDefEqProofs (disch := (first | omega | (simp -implicitDefEqProofs only [szs, ne_eq] <;> omega) | fail)) only [go_sem, Nat.reduceAdd, Nat.reduceSub, Nat.reduceMul, Nat.reduceLT, Nat.reduceMod, Nat.reduceDiv, Nat.reduceEqDiff, Nat.reduceBEq, Nat.reduceLeDiff, ↓reduceIte, reduceCtorEq, Int.reduceAdd, Int.reduceSub, Int.reduceLT, Int.reduceLE, Int.reduceBEq, Int.reduceEq, Int.reduceToNat, ir7, ↓hl0, undefV]
  refine GCall.of new_ok.any ?_
  rintro v h1 ⟨rfl, ht1, n1, k1⟩
  obtain ⟨h2, e2, n2, g2, k2⟩ : ∃ h2, h1.push (O.cells (Blk.of [V.slice none 0 0 true, V.int IntKind.i64 0]) 29) = h2 ∧ h2.n = h1.n + 1 ∧ h2.get (H.n + 2) = some (O.cells (Blk.of [V.slice none 0 0 true, V.int IntKind.i64 0]) 29) ∧ ∀ b, b < h1.n → h2.get b = h1.get b := ⟨_, rfl, by simp, w_push_eq n1.symm _, fun b hb => w_push_ne (by omega) _⟩
  simp -implicitDefEqProofs (disch := (first | omega | (simp -implicitDefEqProofs only [szs, ne_eq] <;> omega) | fail)) only [go_sem, Nat.reduceAdd, Nat.reduceSub, Nat.reduceMul, Nat.reduceLT, Nat.reduceMod, Nat.reduceDiv, Nat.reduceEqDiff, Nat.reduceBEq, Nat.reduceLeDiff, ↓reduceIte, reduceCtorEq, Int.reduceAdd, Int.reduceSub, Int.reduceLT, Int.reduceLE, Int.reduceBEq, Int.reduceEq, Int.reduceToNat, e2, n1]
  have ref0 : RefC h2 (H.n + 3) (H.n + 2) ⟨[], 0⟩ := ⟨⟨by omega, by omega⟩, _, _, g2, rfl, rfl, rfl, rfl, OwnS.nil _ _ _ _⟩
  have gj0 : GJ ⟨[], 0⟩ := ⟨⟨List.Pairwise.nil, fun c hc => (by cases hc), ⟨by show (0 : Int) ≤ 0; omega, by show (0 : Int) ≤ 1000000; omega⟩, fun c hc => (by cases hc)⟩, fun c hc => (by cases hc)⟩
  refine play_loop (leave := leave) hv0 (by omega) ⟨ht1.old k2, ref0, gj0, by omega, by omega, fun b hb => by rw [k2 b (by omega), k1 b hb]⟩ (Int.le_refl _) ?_ (by simp -implicitDefEqProofs (disch := (first | omega | (simp -implicitDefEqProofs only [szs, ne_eq] <;> omega) | fail)) only [go_sem, Nat.reduceAdd, Nat.reduceSub, Nat.reduceMul, Nat.reduceLT, Nat.reduceMod, Nat.reduceDiv, Nat.reduceEqDiff, Nat.reduceBEq, Nat.reduceLeDiff, ↓reduceIte, reduceCtorEq, Int.reduceAdd, Int.reduceSub, Int.reduceLT, Int.reduceLE, Int.reduceBEq, Int.reduceEq, Int.reduceToNat]) (by simp -implicitDefEqProofs (disch := (first | omega | (simp -implicitDefEqProofs only [szs, ne_eq] <;> omega) | fail)) only [go_sem, Nat.reduceAdd, Nat.reduceSub, Nat.reduceMul, Nat.reduceLT, Nat.reduceMod, Nat.reduceDiv, Nat.reduceEqDiff, Nat.reduceBEq, Nat.reduceLeDiff, ↓reduceIte, reduceCtorEq, Int.reduceAdd, Int.reduceSub, Int.reduceLT, Int.reduceLE, Int.reduceBEq, Int.reduceEq, Int.reduceToNat]) (by simp -implicitDefEqProofs (disch := (first | omega | (simp -implicitDefEqProofs only [szs, ne_eq] <;> omega) | fail)) only [go_sem, Nat.reduceAdd, Nat.reduceSub, Nat.reduceMul, Nat.reduceLT, Nat.reduceMod, Nat.reduceDiv, Nat.reduceEqDiff, Nat.reduceBEq, Nat.reduceLeDiff, ↓reduceIte, reduceCtorEq, Int.reduceAdd, Int.reduceSub, Int.reduceLT, Int.reduceLE, Int.reduceBEq, Int.reduceEq, Int.reduceToNat]) (by simp -implicitDefEqProofs (disch := (first | omega | (simp -implicitDefEqProofs only [szs, ne_eq] <;> omega) | fail)) only [go_sem, Nat.reduceAdd, Nat.reduceSub, Nat.reduceMul, Nat.reduceLT, Nat.reduceMod, Nat.reduceDiv, Nat.reduceEqDiff, Nat.reduceBEq, Nat.reduceLeDiff, ↓reduceIte, reduceCtorEq, Int.reduceAdd, Int.reduceSub, Int.reduceLT, Int.reduceLE, Int.reduceBEq, Int.reduceEq, Int.reduceToNat]) (by simp -implicitDefEqProofs (disch := (first | omega | (simp -implicitDefEqProofs only [szs, ne_eq] <;> omega) | fail)) only [go_sem, Nat.reduceAdd, Nat.reduceSub, Nat.reduceMul, Nat.reduceLT, Nat.reduceMod, Nat.reduceDiv, Nat.reduceEqDiff, Nat.reduceBEq, Nat.reduceLeDiff, ↓reduceIte, reduceCtorEq, Int.reduceAdd, Int.reduceSub, Int.reduceLT, Int.reduceLE, Int.reduceBEq, Int.reduceEq, Int.reduceToNat]) (by simp -implicitDefEqProofs (disch := (first | omega | (simp -implicitDefEqProofs only [szs, ne_eq] <;> omega) | fail)) only [go_sem, Nat.reduceAdd, Nat.reduceSub, Nat.reduceMul, Nat.reduceLT, Nat.reduceMod, Nat.reduceDiv, Nat.reduceEqDiff, Nat.reduceBEq, Nat.reduceLeDiff, ↓reduceIte, reduceCtorEq, Int.reduceAdd, Int.reduceSub, Int.reduceLT, Int.reduceLE, Int.reduceBEq, Int.reduceEq, Int.reduceToNat]) (by simp -implicitDefEqProofs (disch := (first | omega | (simp -implicitDefEqProofs only [szs, ne_eq] <;> omega) | fail)) only [go_sem, Nat.reduceAdd, Nat.reduceSub, Nat.reduceMul, Nat.reduceLT, Nat.reduceMod, Nat.reduceDiv, Nat.reduceEqDiff, Nat.reduceBEq, Nat.reduceLeDiff, ↓reduceIte, reduceCtorEq, Int.reduceAdd, Int.reduceSub, Int.reduceLT, Int.reduceLE, Int.reduceBEq, Int.reduceEq, Int.reduceToNat])
  intro tr g tb r n0 rd m T x y lp ov u1 u7 u8
  obtain ⟨ht, hr, z, sep, lo, old⟩ := lp
  have hltc := ht.lt
  rcases ov with ⟨rfl, rfl⟩ | ⟨hc, tb', r', n0', rd', T', rfl, rfl, h1, h2, h3, h4, h5⟩
  · simp -implicitDefEqProofs (disch := (first | omega | (simp -implicitDefEqProofs only [szs, ne_eq] <;> omega) | fail)) only [go_sem, Nat.reduceAdd, Nat.reduceSub, Nat.reduceMul, Nat.reduceLT, Nat.reduceMod, Nat.reduceDiv, Nat.reduceEqDiff, Nat.reduceBEq, Nat.reduceLeDiff, ↓reduceIte, reduceCtorEq, Int.reduceAdd, Int.reduceSub, Int.reduceLT, Int.reduceLE, Int.reduceBEq, Int.reduceEq, Int.reduceToNat, u1, u7, u8, undefV]
    refine GCall.of (known_ok _ _ _).any ?_
    rintro w g2 ⟨rfl, rfl⟩
    simp -implicitDefEqProofs (disch := (first | omega | (simp -implicitDefEqProofs only [szs, ne_eq] <;> omega) | fail)) only [go_sem, Nat.reduceAdd, Nat.reduceSub, Nat.reduceMul, Nat.reduceLT, Nat.reduceMod, Nat.reduceDiv, Nat.reduceEqDiff, Nat.reduceBEq, Nat.reduceLeDiff, ↓reduceIte, reduceCtorEq, Int.reduceAdd, Int.reduceSub, Int.reduceLT, Int.reduceLE, Int.reduceBEq, Int.reduceEq, Int.reduceToNat]
  · simp -implicitDefEqProofs (disch := (first | omega | (simp -implicitDefEqProofs only [szs, ne_eq] <;> omega) | fail)) only [go_sem, Nat.reduceAdd, Nat.reduceSub, Nat.reduceMul, Nat.reduceLT, Nat.reduceMod, Nat.reduceDiv, Nat.reduceEqDiff, Nat.reduceBEq, Nat.reduceLeDiff, ↓reduceIte, reduceCtorEq, Int.reduceAdd, Int.reduceSub, Int.reduceLT, Int.reduceLE, Int.reduceBEq, Int.reduceEq, Int.reduceToNat, u1, u7, u8, undefV]
    refine GCall.of (stands_dem (h1.old h5) (h2.old (by omega) h5) h3.w (fun _ => trivial) leave) ?_
    rintro w g6 ⟨rfl, n6, k6⟩
    simp -implicitDefEqProofs (disch := (first | omega | (simp -implicitDefEqProofs only [szs, ne_eq] <;> omega) | fail)) only [go_sem, Nat.reduceAdd, Nat.reduceSub, Nat.reduceMul, Nat.reduceLT, Nat.reduceMod, Nat.reduceDiv, Nat.reduceEqDiff, Nat.reduceBEq, Nat.reduceLeDiff, ↓reduceIte, reduceCtorEq, Int.reduceAdd, Int.reduceSub, Int.reduceLT, Int.reduceLE, Int.reduceBEq, Int.reduceEq, Int.reduceToNat, u1, u7, u8, undefV]
    refine GCall.of (known_ok _ _ _).any ?_
    rintro w g2 ⟨rfl, rfl⟩
    simp -implicitDefEqProofs (disch := (first | omega | (simp -implicitDefEqProofs only [szs, ne_eq] <;> omega) | fail)) only [go_sem, Nat.reduceAdd, Nat.reduceSub, Nat.reduceMul, Nat.reduceLT, Nat.reduceMod, Nat.reduceDiv, Nat.reduceEqDiff, Nat.reduceBEq, Nat.reduceLeDiff, ↓reduceIte, reduceCtorEq, Int.reduceAdd, Int.reduceSub, Int.reduceLT, Int.reduceLE, Int.reduceBEq, Int.reduceEq, Int.reduceToNat]
end Go.Proofs.Ytehgjkopobkbmaa
