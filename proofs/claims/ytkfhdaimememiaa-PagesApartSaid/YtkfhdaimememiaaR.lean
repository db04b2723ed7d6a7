/- Tables of pages: steps from an argument; grown; PagesSame, PagesSteps, PagesAsks. -/
import Derived.Test.YtkfhdaimememiaaQ
set_option linter.unusedVariables false
set_option linter.unusedSimpArgs false
set_option linter.unusedSimpArgs false
set_option maxRecDepth 100000
set_option linter.unusedVariables false
set_option linter.unusedSimpArgs false
namespace Go.Proofs.Ytkfhdaimememiaa
open Go Go.Vm
/-- A slice of steps. -/
structure StepsV (h : Heap) (v : V) (m : Nat) (S : Nat → St) : Prop where
  len : m ≤ 9223372036854775807
  at' : (m = 0 ∧ (v = .slice none 0 0 true ∨ ∃ a, v = .esl a)) ∨ ∃ b o cap c ce, v = .slice (some (b, o)) m cap true ∧ h.get b = some (.cells c ce) ∧ o + m * 6 ≤ c.size ∧ ∀ i, i < m → c.get (o + i * 6) = .int .i64 (S i).k ∧ c.get (o + i * 6 + 1) = .int .i64 (S i).a ∧ c.get (o + i * 6 + 2) = .int .i64 (S i).b ∧ c.get (o + i * 6 + 3) = .int .i64 (S i).c ∧ c.get (o + i * 6 + 4) = .int .i64 (S i).d ∧ c.get (o + i * 6 + 5) = .int .u32 (S i).ad ∧ 0 ≤ (S i).ad ∧ (S i).ad ≤ 4294967295
theorem StepsV.lenV {h : Heap} {v : V} {m : Nat} {S : Nat → St} (hv : StepsV h v m S) (g : Heap) : lenV Try.prog 22 v g = some (m, []) := by
  rcases hv.at' with ⟨rfl, rfl | ⟨a, rfl⟩⟩ | ⟨b, o, cap, c, ce, rfl, _⟩ <;> simp [Vm.lenV, Try.underlying22]
structure PI (H g : Heap) (tb r rd : Nat) (T : Tb) : Prop where
  t : TabAt g tb r T
  p : RefP g rd T
  w : WT T
  lo : H.n ≤ tb ∧ H.n ≤ r ∧ H.n ≤ rd
  n : H.n ≤ g.n
  old : ∀ b, b < H.n → g.get b = H.get b
theorem PI.do {H g : Heap} {R W : Set'} {tb r rd : Nat} {T : Tb} (z : PI H g tb r rd T) (hR : ∀ b, R b) (hW : ∀ b, H.n ≤ b → W b) (x : St) (had : 0 ≤ x.ad ∧ x.ad ≤ 4294967295) :
    SF ⟨Try.prog, true⟩ 11 [.ptr (some (tb, 0)), .ptr (some (rd, 0)), .agg x.l] g R W fun v g' => ∃ tb' r', v = .tuple [.ptr (some (tb', 0)), .ptr (some (rd, 0)), .bool true] ∧ PI H g' tb' r' rd (stT T x) := by
  have hlo := z.lo
  refine SF.mono (SF.foot ((do_dem (R := R) (W := fun b => b = tb ∨ b = r ∨ b = rd) z.t z.p z.w hR (fun _ h => h) x had).kept) (fun _ h => h) (fun b hb => hW b (by omega))) ?_
  rintro v g' ⟨⟨tb', r', ok, rfl, ht, hr, hok, htb⟩, vf⟩
  rw [hok rfl]
  have hn := z.n
  have hvn := vf.n
  exact ⟨tb', r', rfl, ht, hr, z.w.st x, by omega, by omega, fun b hb => by rw [vf.get b (by omega) (by omega)]; exact z.old b hb⟩
theorem PI.old' {H g g' : Heap} {tb r rd : Nat} {T : Tb} (z : PI H g tb r rd T) (hn : g.n ≤ g'.n) (hk : ∀ b, b < g.n → g'.get b = g.get b) : PI H g' tb r rd T :=
  ⟨z.t.old hk, z.p.old hk, z.w, z.lo, by have := z.n; omega, fun b hb => by rw [hk b (by have := z.n; omega)]; exact z.old b hb⟩
theorem grow0 {H h1 h2 : Heap} (ht : TabAt h1 (H.n + 1) H.n T0) (n1 : h1.n = H.n + 2) (k1 : ∀ b, b < H.n → h1.get b = H.get b) (hr : RefP h2 h1.n T0) (n2 : h2.n = h1.n + 1) (k2 : ∀ b, b < h1.n → h2.get b = h1.get b) : PI H h2 (H.n + 1) H.n h1.n T0 :=
  ⟨ht.old k2, hr, wk0, by omega, by omega, fun b hb => by rw [k2 b (by omega), k1 b hb]⟩
set_option maxHeartbeats 2000000 in
theorem grown_dem {H : Heap} {R W : Set'} {v0 : V} {m0 : Nat} {S0 : Nat → St} (hv0 : StepsV H v0 m0 S0) (hR : ∀ b, R b) (hW : ∀ b, H.n ≤ b → W b) :
    SF ⟨Try.prog, true⟩ 9 [v0] H R W fun v g => ∃ tb r rd T, v = .tuple [.ptr (some (tb, 0)), .ptr (some (rd, 0)), .bool true] ∧ PI H g tb r rd T := by
  have hl0 := hv0.lenV
  have hml := hv0.len
  refine SF.go hm Try.func9 ir9_eq ?_
  simp -implicitDefEqProofs (disch := (first | omega | (simp -implicitDefEqProofs only [szs, ne_eq] <;> omega) | fail)) only [go_sem, Nat.reduceAdd, Nat.reduceSub, Nat.reduceMul, Nat.reduceLT, Nat.reduceMod, Nat.reduceDiv, Nat.reduceEqDiff, Nat.reduceBEq, Nat.reduceLeDiff, ↓reduceIte, reduceCtorEq, Int.reduceAdd, Int.reduceSub, Int.reduceLT, Int.reduceLE, Int.reduceBEq, Int.reduceEq, Int.reduceToNat, ir9]
  refine GCall.of new_ok.any ?_
  rintro v h1 ⟨rfl, ht1, n1, k1⟩
  simp -implicitDefEqProofs (disch := (first | omega | (simp -implicitDefEqProofs only [szs, ne_eq] <;> omega) | fail)) only [go_sem, Nat.reduceAdd, Nat.reduceSub, Nat.reduceMul, Nat.reduceLT, Nat.reduceMod, Nat.reduceDiv, Nat.reduceEqDiff, Nat.reduceBEq, Nat.reduceLeDiff, ↓reduceIte, reduceCtorEq, Int.reduceAdd, Int.reduceSub, Int.reduceLT, Int.reduceLE, Int.reduceBEq, Int.reduceEq, Int.reduceToNat]
  refine GCall.of rnew_ok.any ?_
  rintro v h2 ⟨rfl, hr2, n2, k2⟩
  simp -implicitDefEqProofs (disch := (first | omega | (simp -implicitDefEqProofs only [szs, ne_eq] <;> omega) | fail)) only [go_sem, Nat.reduceAdd, Nat.reduceSub, Nat.reduceMul, Nat.reduceLT, Nat.reduceMod, Nat.reduceDiv, Nat.reduceEqDiff, Nat.reduceBEq, Nat.reduceLeDiff, ↓reduceIte, reduceCtorEq, Int.reduceAdd, Int.reduceSub, Int.reduceLT, Int.reduceLE, Int.reduceBEq, Int.reduceEq, Int.reduceToNat, undefV]
  refine GLoop.inv hm (fun k f g => f.mks = [] ∧ f.tm.n = 40 ∧ f.tm.get 0 = some v0 ∧ f.tm.get 7 = some (.bool true) ∧ ∃ (i tb r rd : Nat) (T : Tb), i + k = m0 ∧ f.tm.get 8 = some (.int .i64 i) ∧ f.tm.get 5 = some (.ptr (some (tb, 0))) ∧ f.tm.get 6 = some (.ptr (some (rd, 0))) ∧ PI H g tb r rd T) m0 ?_ ?_
  · exact ⟨rfl, rfl, by simp -implicitDefEqProofs (disch := (first | omega | (simp -implicitDefEqProofs only [szs, ne_eq] <;> omega) | fail)) only [go_sem, Nat.reduceAdd, Nat.reduceSub, Nat.reduceMul, Nat.reduceLT, Nat.reduceMod, Nat.reduceDiv, Nat.reduceEqDiff, Nat.reduceBEq, Nat.reduceLeDiff, ↓reduceIte, reduceCtorEq, Int.reduceAdd, Int.reduceSub, Int.reduceLT, Int.reduceLE, Int.reduceBEq, Int.reduceEq, Int.reduceToNat], by simp -implicitDefEqProofs (disch := (first | omega | (simp -implicitDefEqProofs only [szs, ne_eq] <;> omega) | fail)) only [go_sem, Nat.reduceAdd, Nat.reduceSub, Nat.reduceMul, Nat.reduceLT, Nat.reduceMod, Nat.reduceDiv, Nat.reduceEqDiff, Nat.reduceBEq, Nat.reduceLeDiff, ↓reduceIte, reduceCtorEq, Int.reduceAdd, Int.reduceSub, Int.reduceLT, Int.reduceLE, Int.reduceBEq, Int.reduceEq, Int.reduceToNat], 0, H.n + 1, H.n, h1.n, T0, by omega, by simp -implicitDefEqProofs (disch := (first | omega | (simp -implicitDefEqProofs only [szs, ne_eq] <;> omega) | fail)) only [go_sem, Nat.reduceAdd, Nat.reduceSub, Nat.reduceMul, Nat.reduceLT, Nat.reduceMod, Nat.reduceDiv, Nat.reduceEqDiff, Nat.reduceBEq, Nat.reduceLeDiff, ↓reduceIte, reduceCtorEq, Int.reduceAdd, Int.reduceSub, Int.reduceLT, Int.reduceLE, Int.reduceBEq, Int.reduceEq, Int.reduceToNat]; rfl, by simp -implicitDefEqProofs (disch := (first | omega | (simp -implicitDefEqProofs only [szs, ne_eq] <;> omega) | fail)) only [go_sem, Nat.reduceAdd, Nat.reduceSub, Nat.reduceMul, Nat.reduceLT, Nat.reduceMod, Nat.reduceDiv, Nat.reduceEqDiff, Nat.reduceBEq, Nat.reduceLeDiff, ↓reduceIte, reduceCtorEq, Int.reduceAdd, Int.reduceSub, Int.reduceLT, Int.reduceLE, Int.reduceBEq, Int.reduceEq, Int.reduceToNat], by simp -implicitDefEqProofs (disch := (first | omega | (simp -implicitDefEqProofs only [szs, ne_eq] <;> omega) | fail)) only [go_sem, Nat.reduceAdd, Nat.reduceSub, Nat.reduceMul, Nat.reduceLT, Nat.reduceMod, Nat.reduceDiv, Nat.reduceEqDiff, Nat.reduceBEq, Nat.reduceLeDiff, ↓reduceIte, reduceCtorEq, Int.reduceAdd, Int.reduceSub, Int.reduceLT, Int.reduceLE, Int.reduceBEq, Int.reduceEq, Int.reduceToNat], grow0 ht1 n1 k1 hr2 n2 k2⟩
  rintro k ⟨⟨n', tr⟩, mks⟩ g ⟨hmk, hn', t0, t7, i, tb, r, rd, T, hik, t8, t5, t6, z⟩
  simp only [Tm.get_mk] at hmk hn' t0 t7 t8 t5 t6
  subst hmk hn'
  by_cases hi : i < m0
  · have p1 : (i : Int) < (m0 : Int) := by omega
    by_cases h60 : i < 60
    · have p2 : (i : Int) < 60 := by omega
      rcases hv0.at' with ⟨h0, _⟩ | ⟨b, o, cap, c, ce, rfl, hb, hsz, hcc⟩
      · omega
      obtain ⟨c0, c1, c2, c3, c4, c5, c6⟩ := hcc i hi
      have hb1 := (z.old b (Heap.lt_of_get hb)).trans hb
      have hRb := hR b
      have p0 : (0 : Int) ≤ (i : Int) := by omega
      simp -implicitDefEqProofs (disch := (first | omega | (simp -implicitDefEqProofs only [szs, ne_eq] <;> omega) | fail)) only [go_sem, Nat.reduceAdd, Nat.reduceSub, Nat.reduceMul, Nat.reduceLT, Nat.reduceMod, Nat.reduceDiv, Nat.reduceEqDiff, Nat.reduceBEq, Nat.reduceLeDiff, ↓reduceIte, reduceCtorEq, Int.reduceAdd, Int.reduceSub, Int.reduceLT, Int.reduceLE, Int.reduceBEq, Int.reduceEq, Int.reduceToNat, ir9_l0, t0, t5, t6, t7, t8, ↓hl0, p0, p1, p2, undefV, hb1, hRb, c0, c1, c2, c3, c4, c5]
      refine GCall.of (z.do (fun b => .inr (hR b)) (fun b hb => .inl hb) (S0 i) c6) ?_
      rintro v g' ⟨tb', r', rfl, z'⟩
      simp -implicitDefEqProofs (disch := (first | omega | (simp -implicitDefEqProofs only [szs, ne_eq] <;> omega) | fail)) only [go_sem, Nat.reduceAdd, Nat.reduceSub, Nat.reduceMul, Nat.reduceLT, Nat.reduceMod, Nat.reduceDiv, Nat.reduceEqDiff, Nat.reduceBEq, Nat.reduceLeDiff, ↓reduceIte, reduceCtorEq, Int.reduceAdd, Int.reduceSub, Int.reduceLT, Int.reduceLE, Int.reduceBEq, Int.reduceEq, Int.reduceToNat, t0, t5, t6, t7, t8]
      exact ⟨k - 1, by omega, i + 1, tb', r', rd, _, by omega, by simp, rfl, rfl, z'⟩
    · have p2 : ¬ (i : Int) < 60 := by omega
      simp -implicitDefEqProofs (disch := (first | omega | (simp -implicitDefEqProofs only [szs, ne_eq] <;> omega) | fail)) only [go_sem, Nat.reduceAdd, Nat.reduceSub, Nat.reduceMul, Nat.reduceLT, Nat.reduceMod, Nat.reduceDiv, Nat.reduceEqDiff, Nat.reduceBEq, Nat.reduceLeDiff, ↓reduceIte, reduceCtorEq, Int.reduceAdd, Int.reduceSub, Int.reduceLT, Int.reduceLE, Int.reduceBEq, Int.reduceEq, Int.reduceToNat, ir9_l0, t0, t5, t6, t7, t8, ↓hl0, p1, p2, undefV]
      exact ⟨tb, r, rd, T, rfl, z⟩
  · have p1 : ¬ (i : Int) < (m0 : Int) := by omega
    simp -implicitDefEqProofs (disch := (first | omega | (simp -implicitDefEqProofs only [szs, ne_eq] <;> omega) | fail)) only [go_sem, Nat.reduceAdd, Nat.reduceSub, Nat.reduceMul, Nat.reduceLT, Nat.reduceMod, Nat.reduceDiv, Nat.reduceEqDiff, Nat.reduceBEq, Nat.reduceLeDiff, ↓reduceIte, reduceCtorEq, Int.reduceAdd, Int.reduceSub, Int.reduceLT, Int.reduceLE, Int.reduceBEq, Int.reduceEq, Int.reduceToNat, ir9_l0, t0, t5, t6, t7, t8, ↓hl0, p1, undefV]
    exact ⟨tb, r, rd, T, rfl, z⟩
theorem StepsV.old {h g : Heap} {v : V} {m : Nat} {S : Nat → St} (hv : StepsV h v m S) (hk : ∀ b, b < h.n → g.get b = h.get b) : StepsV g v m S := by
  refine ⟨hv.len, hv.at'.imp id ?_⟩
  rintro ⟨b, o, cap, c, ce, e, hb, h2⟩
  exact ⟨b, o, cap, c, ce, e, (hk b (Heap.lt_of_get hb)).trans hb, h2⟩
def WH (H : Heap) : Set' := fun b => H.n ≤ b
set_option maxHeartbeats 2000000 in
theorem same_law {H : Heap} {v0 v1 : V} {m0 m1 : Nat} {S0 S1 : Nat → St} (hv0 : StepsV H v0 m0 S0) (hv1 : StepsV H v1 m1 S1) :
    SF ⟨Try.prog, true⟩ 4 [v0, v1] H (fun _ => True) (WH H) fun v _ => v = .bool true := by
  refine SF.go hm Try.func4 ir4_eq ?_
  simp -implicitDefEqProofs (disch := (first | omega | (simp -implicitDefEqProofs only [szs, ne_eq] <;> omega) | fail)) only [go_sem, Nat.reduceAdd, Nat.reduceSub, Nat.reduceMul, Nat.reduceLT, Nat.reduceMod, Nat.reduceDiv, Nat.reduceEqDiff, Nat.reduceBEq, Nat.reduceLeDiff, ↓reduceIte, reduceCtorEq, Int.reduceAdd, Int.reduceSub, Int.reduceLT, Int.reduceLE, Int.reduceBEq, Int.reduceEq, Int.reduceToNat, ir4]
  refine GCall.of (grown_dem hv0 (fun _ => trivial) (fun b hb => .inl hb)) ?_
  rintro v g1 ⟨tb, r, rd, T, rfl, z⟩
  simp -implicitDefEqProofs (disch := (first | omega | (simp -implicitDefEqProofs only [szs, ne_eq] <;> omega) | fail)) only [go_sem, Nat.reduceAdd, Nat.reduceSub, Nat.reduceMul, Nat.reduceLT, Nat.reduceMod, Nat.reduceDiv, Nat.reduceEqDiff, Nat.reduceBEq, Nat.reduceLeDiff, ↓reduceIte, reduceCtorEq, Int.reduceAdd, Int.reduceSub, Int.reduceLT, Int.reduceLE, Int.reduceBEq, Int.reduceEq, Int.reduceToNat]
  refine GCall.of ((grown_dem (R := fun _ => True) (W := fun b => g1.n ≤ b) (hv1.old z.old) (fun _ => trivial) (fun b hb => hb)).kept.foot (fun _ _ => trivial) (fun b hb => .inl (by have := z.n; omega))) ?_
  rintro v g2 ⟨⟨tb2, r2, rd2, T2, rfl, z2⟩, vf⟩
  have z1 := z.old' vf.n (fun b hb => vf.get b hb (by omega))
  simp -implicitDefEqProofs (disch := (first | omega | (simp -implicitDefEqProofs only [szs, ne_eq] <;> omega) | fail)) only [go_sem, Nat.reduceAdd, Nat.reduceSub, Nat.reduceMul, Nat.reduceLT, Nat.reduceMod, Nat.reduceDiv, Nat.reduceEqDiff, Nat.reduceBEq, Nat.reduceLeDiff, ↓reduceIte, reduceCtorEq, Int.reduceAdd, Int.reduceSub, Int.reduceLT, Int.reduceLE, Int.reduceBEq, Int.reduceEq, Int.reduceToNat, undefV]
  refine GCall.of (same_ok z1.t z2.t (fun _ => trivial)).any ?_
  rintro v g3 ⟨rfl, rfl⟩
  simp -implicitDefEqProofs (disch := (first | omega | (simp -implicitDefEqProofs only [szs, ne_eq] <;> omega) | fail)) only [go_sem, Nat.reduceAdd, Nat.reduceSub, Nat.reduceMul, Nat.reduceLT, Nat.reduceMod, Nat.reduceDiv, Nat.reduceEqDiff, Nat.reduceBEq, Nat.reduceLeDiff, ↓reduceIte, reduceCtorEq, Int.reduceAdd, Int.reduceSub, Int.reduceLT, Int.reduceLE, Int.reduceBEq, Int.reduceEq, Int.reduceToNat, undefV]
  refine GCall.of (rsame_ok z1.p z2.p (fun _ => trivial)).any ?_
  rintro v g4 ⟨rfl, rfl⟩
  have hbb : (decide (sameT T T2) == decide (sameT T T2)) = true := by simp
  simp -implicitDefEqProofs (disch := (first | omega | (simp -implicitDefEqProofs only [szs, ne_eq] <;> omega) | fail)) only [go_sem, Nat.reduceAdd, Nat.reduceSub, Nat.reduceMul, Nat.reduceLT, Nat.reduceMod, Nat.reduceDiv, Nat.reduceEqDiff, Nat.reduceBEq, Nat.reduceLeDiff, ↓reduceIte, reduceCtorEq, Int.reduceAdd, Int.reduceSub, Int.reduceLT, Int.reduceLE, Int.reduceBEq, Int.reduceEq, Int.reduceToNat, undefV, hbb]
  refine GCall.of (same_ok z1.t z1.t (fun _ => trivial)).any ?_
  rintro v g5 ⟨rfl, rfl⟩
  rw [decide_eq_true (show sameT T T from fun s _ p _ => rfl)]
  simp -implicitDefEqProofs (disch := (first | omega | (simp -implicitDefEqProofs only [szs, ne_eq] <;> omega) | fail)) only [go_sem, Nat.reduceAdd, Nat.reduceSub, Nat.reduceMul, Nat.reduceLT, Nat.reduceMod, Nat.reduceDiv, Nat.reduceEqDiff, Nat.reduceBEq, Nat.reduceLeDiff, ↓reduceIte, reduceCtorEq, Int.reduceAdd, Int.reduceSub, Int.reduceLT, Int.reduceLE, Int.reduceBEq, Int.reduceEq, Int.reduceToNat, undefV]
  refine GCall.of (known_dem (fun _ => trivial)) ?_
  rintro v g6 rfl
  simp -implicitDefEqProofs (disch := (first | omega | (simp -implicitDefEqProofs only [szs, ne_eq] <;> omega) | fail)) only [go_sem, Nat.reduceAdd, Nat.reduceSub, Nat.reduceMul, Nat.reduceLT, Nat.reduceMod, Nat.reduceDiv, Nat.reduceEqDiff, Nat.reduceBEq, Nat.reduceLeDiff, ↓reduceIte, reduceCtorEq, Int.reduceAdd, Int.reduceSub, Int.reduceLT, Int.reduceLE, Int.reduceBEq, Int.reduceEq, Int.reduceToNat, undefV]
theorem remI (i : Nat) : intBin .rem .i64 (i : Int) 9 = some (.int .i64 ((i % 9 : Nat) : Int)) := by
  have h : (i : Int).tmod 9 = ((i % 9 : Nat) : Int) := by rw [Int.tmod_eq_emod_of_nonneg (by omega)]; omega
  show (if (9 : Int) = 0 then none else some (V.int .i64 ((i : Int).tmod 9))) = _
  rw [if_neg (by omega), h]
set_option maxHeartbeats 2000000 in
theorem steps_law {H : Heap} {v0 : V} {m0 : Nat} {S0 : Nat → St} {leave : Int} (hv0 : StepsV H v0 m0 S0) :
    SF ⟨Try.prog, true⟩ 6 [v0, .int .i64 leave] H (fun _ => True) (WH H) fun v _ => v = .bool true := by
  have hl0 := hv0.lenV
  have hml := hv0.len
  refine SF.go hm Try.func6 ir6_eq ?_
  simp -implicitDefEqProofs (disch := (first | omega | (simp -implicitDefEqProofs only [szs, ne_eq] <;> omega) | fail)) only [go_sem, Nat.reduceAdd, Nat.reduceSub, Nat.reduceMul, Nat.reduceLT, Nat.reduceMod, Nat.reduceDiv, Nat.reduceEqDiff, Nat.reduceBEq, Nat.reduceLeDiff, ↓reduceIte, reduceCtorEq, Int.reduceAdd, Int.reduceSub, Int.reduceLT, Int.reduceLE, Int.reduceBEq, Int.reduceEq, Int.reduceToNat, ir6]
  refine GCall.of new_ok.any ?_
  rintro v h1 ⟨rfl, ht1, n1, k1⟩
  simp -implicitDefEqProofs (disch := (first | omega | (simp -implicitDefEqProofs only [szs, ne_eq] <;> omega) | fail)) only [go_sem, Nat.reduceAdd, Nat.reduceSub, Nat.reduceMul, Nat.reduceLT, Nat.reduceMod, Nat.reduceDiv, Nat.reduceEqDiff, Nat.reduceBEq, Nat.reduceLeDiff, ↓reduceIte, reduceCtorEq, Int.reduceAdd, Int.reduceSub, Int.reduceLT, Int.reduceLE, Int.reduceBEq, Int.reduceEq, Int.reduceToNat]
  refine GCall.of rnew_ok.any ?_
  rintro v h2 ⟨rfl, hr2, n2, k2⟩
  have z0 := grow0 ht1 n1 k1 hr2 n2 k2
  simp -implicitDefEqProofs (disch := (first | omega | (simp -implicitDefEqProofs only [szs, ne_eq] <;> omega) | fail)) only [go_sem, Nat.reduceAdd, Nat.reduceSub, Nat.reduceMul, Nat.reduceLT, Nat.reduceMod, Nat.reduceDiv, Nat.reduceEqDiff, Nat.reduceBEq, Nat.reduceLeDiff, ↓reduceIte, reduceCtorEq, Int.reduceAdd, Int.reduceSub, Int.reduceLT, Int.reduceLE, Int.reduceBEq, Int.reduceEq, Int.reduceToNat, undefV]
  refine GCall.of (stands_dem z0.t z0.p (fun _ => trivial) leave) ?_
  rintro v h3 ⟨rfl, n3, k3⟩
  have z0 := z0.old' n3 k3
  simp -implicitDefEqProofs (disch := (first | omega | (simp -implicitDefEqProofs only [szs, ne_eq] <;> omega) | fail)) only [go_sem, Nat.reduceAdd, Nat.reduceSub, Nat.reduceMul, Nat.reduceLT, Nat.reduceMod, Nat.reduceDiv, Nat.reduceEqDiff, Nat.reduceBEq, Nat.reduceLeDiff, ↓reduceIte, reduceCtorEq, Int.reduceAdd, Int.reduceSub, Int.reduceLT, Int.reduceLE, Int.reduceBEq, Int.reduceEq, Int.reduceToNat, undefV]
  refine GLoop.inv hm (fun k f g => f.mks = [] ∧ f.tm.n = 62 ∧ f.tm.get 0 = some v0 ∧ f.tm.get 1 = some (.int .i64 leave) ∧ ∃ (i tb r rd : Nat) (T : Tb), i + k = m0 ∧ f.tm.get 7 = some (.int .i64 i) ∧ f.tm.get 5 = some (.ptr (some (tb, 0))) ∧ f.tm.get 6 = some (.ptr (some (rd, 0))) ∧ PI H g tb r rd T) m0 ?_ ?_
  · exact ⟨rfl, rfl, by simp -implicitDefEqProofs (disch := (first | omega | (simp -implicitDefEqProofs only [szs, ne_eq] <;> omega) | fail)) only [go_sem, Nat.reduceAdd, Nat.reduceSub, Nat.reduceMul, Nat.reduceLT, Nat.reduceMod, Nat.reduceDiv, Nat.reduceEqDiff, Nat.reduceBEq, Nat.reduceLeDiff, ↓reduceIte, reduceCtorEq, Int.reduceAdd, Int.reduceSub, Int.reduceLT, Int.reduceLE, Int.reduceBEq, Int.reduceEq, Int.reduceToNat], by simp -implicitDefEqProofs (disch := (first | omega | (simp -implicitDefEqProofs only [szs, ne_eq] <;> omega) | fail)) only [go_sem, Nat.reduceAdd, Nat.reduceSub, Nat.reduceMul, Nat.reduceLT, Nat.reduceMod, Nat.reduceDiv, Nat.reduceEqDiff, Nat.reduceBEq, Nat.reduceLeDiff, ↓reduceIte, reduceCtorEq, Int.reduceAdd, Int.reduceSub, Int.reduceLT, Int.reduceLE, Int.reduceBEq, Int.reduceEq, Int.reduceToNat], 0, H.n + 1, H.n, h1.n, T0, by omega, by simp -implicitDefEqProofs (disch := (first | omega | (simp -implicitDefEqProofs only [szs, ne_eq] <;> omega) | fail)) only [go_sem, Nat.reduceAdd, Nat.reduceSub, Nat.reduceMul, Nat.reduceLT, Nat.reduceMod, Nat.reduceDiv, Nat.reduceEqDiff, Nat.reduceBEq, Nat.reduceLeDiff, ↓reduceIte, reduceCtorEq, Int.reduceAdd, Int.reduceSub, Int.reduceLT, Int.reduceLE, Int.reduceBEq, Int.reduceEq, Int.reduceToNat]; rfl, by simp -implicitDefEqProofs (disch := (first | omega | (simp -implicitDefEqProofs only [szs, ne_eq] <;> omega) | fail)) only [go_sem, Nat.reduceAdd, Nat.reduceSub, Nat.reduceMul, Nat.reduceLT, Nat.reduceMod, Nat.reduceDiv, Nat.reduceEqDiff, Nat.reduceBEq, Nat.reduceLeDiff, ↓reduceIte, reduceCtorEq, Int.reduceAdd, Int.reduceSub, Int.reduceLT, Int.reduceLE, Int.reduceBEq, Int.reduceEq, Int.reduceToNat], by simp -implicitDefEqProofs (disch := (first | omega | (simp -implicitDefEqProofs only [szs, ne_eq] <;> omega) | fail)) only [go_sem, Nat.reduceAdd, Nat.reduceSub, Nat.reduceMul, Nat.reduceLT, Nat.reduceMod, Nat.reduceDiv, Nat.reduceEqDiff, Nat.reduceBEq, Nat.reduceLeDiff, ↓reduceIte, reduceCtorEq, Int.reduceAdd, Int.reduceSub, Int.reduceLT, Int.reduceLE, Int.reduceBEq, Int.reduceEq, Int.reduceToNat], z0⟩
  rintro k ⟨⟨n', tr⟩, mks⟩ g ⟨hmk, hn', t0, u1, i, tb, r, rd, T, hik, t7, t5, t6, z⟩
  simp only [Tm.get_mk] at hmk hn' t0 u1 t7 t5 t6
  subst hmk hn'
  have fin : ∀ {tr : Tr V} {g : Heap} {tb r rd : Nat} {T : Tb}, PI H g tb r rd T → True := fun _ => trivial
  by_cases hi : i < m0 ∧ i < 100
  · have p1 : (i : Int) < (m0 : Int) := by omega
    have p2 : (i : Int) < 100 := by omega
    rcases hv0.at' with ⟨h0, _⟩ | ⟨b, o, cap, c, ce, rfl, hb, hsz, hcc⟩
    · omega
    obtain ⟨c0, c1, c2, c3, c4, c5, c6⟩ := hcc i hi.1
    have hb1 := (z.old b (Heap.lt_of_get hb)).trans hb
    have p0 : (0 : Int) ≤ (i : Int) := by omega
    simp -implicitDefEqProofs (disch := (first | omega | (simp -implicitDefEqProofs only [szs, ne_eq] <;> omega) | fail)) only [go_sem, Nat.reduceAdd, Nat.reduceSub, Nat.reduceMul, Nat.reduceLT, Nat.reduceMod, Nat.reduceDiv, Nat.reduceEqDiff, Nat.reduceBEq, Nat.reduceLeDiff, ↓reduceIte, reduceCtorEq, Int.reduceAdd, Int.reduceSub, Int.reduceLT, Int.reduceLE, Int.reduceBEq, Int.reduceEq, Int.reduceToNat, ir6_l0, t0, u1, t5, t6, t7, ↓hl0, p0, p1, p2, undefV, hb1, c0, c1, c2, c3, c4, c5]
    refine GCall.of (z.do (fun b => trivial) (fun b hb => .inl hb) (S0 i) c6) ?_
    rintro v g' ⟨tb', r', rfl, z'⟩
    by_cases h9 : i % 9 = 0
    · have hr9 := remI i
      rw [h9] at hr9
      simp -implicitDefEqProofs (disch := (first | omega | (simp -implicitDefEqProofs only [szs, ne_eq] <;> omega) | fail)) only [go_sem, Nat.reduceAdd, Nat.reduceSub, Nat.reduceMul, Nat.reduceLT, Nat.reduceMod, Nat.reduceDiv, Nat.reduceEqDiff, Nat.reduceBEq, Nat.reduceLeDiff, ↓reduceIte, reduceCtorEq, Int.reduceAdd, Int.reduceSub, Int.reduceLT, Int.reduceLE, Int.reduceBEq, Int.reduceEq, Int.reduceToNat, t0, u1, t5, t6, t7, undefV, ↓hr9]
      refine GCall.of (stands_dem z'.t z'.p (fun _ => trivial) leave) ?_
      rintro v g3 ⟨rfl, n3, k3⟩
      simp -implicitDefEqProofs (disch := (first | omega | (simp -implicitDefEqProofs only [szs, ne_eq] <;> omega) | fail)) only [go_sem, Nat.reduceAdd, Nat.reduceSub, Nat.reduceMul, Nat.reduceLT, Nat.reduceMod, Nat.reduceDiv, Nat.reduceEqDiff, Nat.reduceBEq, Nat.reduceLeDiff, ↓reduceIte, reduceCtorEq, Int.reduceAdd, Int.reduceSub, Int.reduceLT, Int.reduceLE, Int.reduceBEq, Int.reduceEq, Int.reduceToNat, t0, u1, t5, t6, t7, undefV]
      exact ⟨k - 1, by omega, i + 1, tb', r', rd, _, by omega, by simp, rfl, rfl, z'.old' n3 k3⟩
    · have hr9 := remI i
      have hq : (((i % 9 : Nat) : Int) == 0) = false := by simpa using (show ((i % 9 : Nat) : Int) ≠ 0 by omega)
      simp -implicitDefEqProofs (disch := (first | omega | (simp -implicitDefEqProofs only [szs, ne_eq] <;> omega) | fail)) only [go_sem, Nat.reduceAdd, Nat.reduceSub, Nat.reduceMul, Nat.reduceLT, Nat.reduceMod, Nat.reduceDiv, Nat.reduceEqDiff, Nat.reduceBEq, Nat.reduceLeDiff, ↓reduceIte, reduceCtorEq, Int.reduceAdd, Int.reduceSub, Int.reduceLT, Int.reduceLE, Int.reduceBEq, Int.reduceEq, Int.reduceToNat, t0, u1, t5, t6, t7, undefV, ↓hr9, hq]
      exact ⟨k - 1, by omega, i + 1, tb', r', rd, _, by omega, by simp, rfl, rfl, z'⟩
  · by_cases hi1 : i < m0
    · have p1 : (i : Int) < (m0 : Int) := by omega
      have p2 : ¬ (i : Int) < 100 := by omega
      simp -implicitDefEqProofs (disch := (first | omega | (simp -implicitDefEqProofs only [szs, ne_eq] <;> omega) | fail)) only [go_sem, Nat.reduceAdd, Nat.reduceSub, Nat.reduceMul, Nat.reduceLT, Nat.reduceMod, Nat.reduceDiv, Nat.reduceEqDiff, Nat.reduceBEq, Nat.reduceLeDiff, ↓reduceIte, reduceCtorEq, Int.reduceAdd, Int.reduceSub, Int.reduceLT, Int.reduceLE, Int.reduceBEq, Int.reduceEq, Int.reduceToNat, ir6_l0, t0, u1, t5, t6, t7, ↓hl0, p1, p2, undefV]
      refine GCall.of (stands_dem z.t z.p (fun _ => trivial) leave) ?_
      rintro v g3 ⟨rfl, n3, k3⟩
      simp -implicitDefEqProofs (disch := (first | omega | (simp -implicitDefEqProofs only [szs, ne_eq] <;> omega) | fail)) only [go_sem, Nat.reduceAdd, Nat.reduceSub, Nat.reduceMul, Nat.reduceLT, Nat.reduceMod, Nat.reduceDiv, Nat.reduceEqDiff, Nat.reduceBEq, Nat.reduceLeDiff, ↓reduceIte, reduceCtorEq, Int.reduceAdd, Int.reduceSub, Int.reduceLT, Int.reduceLE, Int.reduceBEq, Int.reduceEq, Int.reduceToNat, undefV]
      refine GCall.of (known_dem (fun _ => trivial)) ?_
      rintro v g6 rfl
      simp -implicitDefEqProofs (disch := (first | omega | (simp -implicitDefEqProofs only [szs, ne_eq] <;> omega) | fail)) only [go_sem, Nat.reduceAdd, Nat.reduceSub, Nat.reduceMul, Nat.reduceLT, Nat.reduceMod, Nat.reduceDiv, Nat.reduceEqDiff, Nat.reduceBEq, Nat.reduceLeDiff, ↓reduceIte, reduceCtorEq, Int.reduceAdd, Int.reduceSub, Int.reduceLT, Int.reduceLE, Int.reduceBEq, Int.reduceEq, Int.reduceToNat, undefV]
    · have p1 : ¬ (i : Int) < (m0 : Int) := by omega
      simp -implicitDefEqProofs (disch := (first | omega | (simp -implicitDefEqProofs only [szs, ne_eq] <;> omega) | fail)) only [go_sem, Nat.reduceAdd, Nat.reduceSub, Nat.reduceMul, Nat.reduceLT, Nat.reduceMod, Nat.reduceDiv, Nat.reduceEqDiff, Nat.reduceBEq, Nat.reduceLeDiff, ↓reduceIte, reduceCtorEq, Int.reduceAdd, Int.reduceSub, Int.reduceLT, Int.reduceLE, Int.reduceBEq, Int.reduceEq, Int.reduceToNat, ir6_l0, t0, u1, t5, t6, t7, ↓hl0, p1, undefV]
      refine GCall.of (stands_dem z.t z.p (fun _ => trivial) leave) ?_
      rintro v g3 ⟨rfl, n3, k3⟩
      simp -implicitDefEqProofs (disch := (first | omega | (simp -implicitDefEqProofs only [szs, ne_eq] <;> omega) | fail)) only [go_sem, Nat.reduceAdd, Nat.reduceSub, Nat.reduceMul, Nat.reduceLT, Nat.reduceMod, Nat.reduceDiv, Nat.reduceEqDiff, Nat.reduceBEq, Nat.reduceLeDiff, ↓reduceIte, reduceCtorEq, Int.reduceAdd, Int.reduceSub, Int.reduceLT, Int.reduceLE, Int.reduceBEq, Int.reduceEq, Int.reduceToNat, undefV]
      refine GCall.of (known_dem (fun _ => trivial)) ?_
      rintro v g6 rfl
      simp -implicitDefEqProofs (disch := (first | omega | (simp -implicitDefEqProofs only [szs, ne_eq] <;> omega) | fail)) only [go_sem, Nat.reduceAdd, Nat.reduceSub, Nat.reduceMul, Nat.reduceLT, Nat.reduceMod, Nat.reduceDiv, Nat.reduceEqDiff, Nat.reduceBEq, Nat.reduceLeDiff, ↓reduceIte, reduceCtorEq, Int.reduceAdd, Int.reduceSub, Int.reduceLT, Int.reduceLE, Int.reduceBEq, Int.reduceEq, Int.reduceToNat, undefV]
end Go.Proofs.Ytkfhdaimememiaa
