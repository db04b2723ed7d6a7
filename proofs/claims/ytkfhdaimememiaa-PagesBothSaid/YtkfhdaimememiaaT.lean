/- Tables of pages: PagesBoth. -/
import Derived.Test.YtkfhdaimememiaaR
import Derived.Test.YtkfhdaimememiaaIr3
set_option linter.unusedVariables false
set_option linter.unusedSimpArgs false
set_option linter.unusedSimpArgs false
set_option maxRecDepth 100000
set_option linter.unusedVariables false
set_option linter.unusedSimpArgs false
namespace Go.Proofs.Ytkfhdaimememiaa
open Go Go.Vm
/-- How many entries stand at the first n places. -/
def cntA (T : Tb) (n : Nat) : Nat := ((List.range n).filter fun i => (T (i / 32) (i % 32)).isSome).length
/-- How many places the first m frames have, of the first n. -/
def cntF (T : Tb) : Nat → Nat → Nat
  | 0, _ => 0
  | m + 1, n => cntF T m n + (spots T (m : Int) n).length
theorem cntA_succ (T : Tb) (n : Nat) : cntA T (n + 1) = cntA T n + if (T (n / 32) (n % 32)).isSome then 1 else 0 := by
  unfold cntA
  rw [List.range_succ, List.filter_append, List.length_append]
  cases h : (T (n / 32) (n % 32)).isSome <;> simp [List.filter_cons, h]
theorem cntA_le (T : Tb) (n : Nat) : cntA T n ≤ n := by
  have := List.length_filter_le (fun i => (T (i / 32) (i % 32)).isSome) (List.range n)
  rw [List.length_range] at this
  exact this
theorem cntF_zero (T : Tb) : ∀ m, cntF T m 0 = 0
  | 0 => rfl
  | m + 1 => by unfold cntF; rw [cntF_zero T m]; rfl
theorem cntF_le (T : Tb) : ∀ m n, cntF T m n ≤ m * n
  | 0, n => by simp [cntF]
  | m + 1, n => by
    have h1 := cntF_le T m n
    have h2 := spots_len T (m : Int) n
    unfold cntF
    rw [Nat.succ_mul]; omega
theorem cntF_none {T : Tb} {n : Nat} (h : T (n / 32) (n % 32) = none) : ∀ m, cntF T m (n + 1) = cntF T m n
  | 0 => rfl
  | m + 1 => by
    unfold cntF
    rw [cntF_none h m, spots_succ, h, if_neg (by simp)]
theorem cntF_some {T : Tb} {n : Nat} {e : En} (h : T (n / 32) (n % 32) = some e) : ∀ m, cntF T m (n + 1) = cntF T m n + if 0 ≤ e.f ∧ e.f < m then 1 else 0
  | 0 => by rw [if_neg (by omega)]; rfl
  | m + 1 => by
    unfold cntF
    rw [cntF_some h m, spots_succ, h]
    by_cases h1 : e.f = (m : Int)
    · rw [if_pos (show (some e).map En.f = some (m : Int) by simp [h1]), if_neg (by omega), if_pos (by omega), List.length_append]
      simp; omega
    · rw [if_neg (show ¬ (some e).map En.f = some (m : Int) by simpa using h1)]
      by_cases h2 : 0 ≤ e.f ∧ e.f < m
      · rw [if_pos h2, if_pos (by omega)]; omega
      · rw [if_neg h2, if_neg (by omega)]; omega
theorem cnt_same {T : Tb} (w : WT T) : ∀ n, cntF T 256 n = cntA T n
  | 0 => cntF_zero T 256
  | n + 1 => by
    rw [cntA_succ, ← cnt_same w n]
    cases h : T (n / 32) (n % 32) with
    | none => rw [cntF_none h]; simp
    | some e =>
      have hf := (w _ _ _ h).1
      unfold okF at hf
      rw [cntF_some h, if_pos (by omega)]; simp
theorem andN_tab : ∀ n : Fin 8, (andN (n.val : Int) 1 = 0 ∨ andN (n.val : Int) 1 = 1) ∧ (andN (n.val : Int) 2 = 0 ∨ andN (n.val : Int) 2 = 2) ∧ (andN (n.val : Int) 4 = 0 ∨ andN (n.val : Int) 4 = 4) := by decide +kernel
theorem andN_bit {r rt : Int} (h0 : 0 ≤ r) (h7 : r ≤ 7) (hr : okR rt) : andN r rt = 0 ∨ andN r rt = rt := by
  have h := andN_tab ⟨r.toNat, by omega⟩
  have e : ((⟨r.toNat, by omega⟩ : Fin 8).val : Int) = r := by simp; omega
  rw [e] at h
  rcases hr with rfl | rfl | rfl
  · exact h.1
  · exact h.2.1
  · exact h.2.2
theorem cv3_28 {M : MP} {R W : Set'} {tm : Tm} {h : Heap} {K : V → Heap → Prop} (x : Operand) : LOp M R W tm h (.convert 3 28 x) K = onO (evV tm x) fun a => onO (convV M.P 3 28 a h) fun r => allB R r.2 ∧ K r.1 h := by
  apply LOp_convert; decide
theorem c3_28 (h : Heap) {n : Int} (hn : 0 ≤ n ∧ n ≤ 4294967295) : convV Try.prog 3 28 (.int .i64 n) h = some (.int .u32 n, []) := by
  have e : IntKind.u32.wrap n = n := by simp [IntKind.wrap, IntKind.bits, IntKind.signed]; omega
  have : convV Try.prog 3 28 (.int .i64 n) h = some (.int .u32 (IntKind.u32.wrap n), []) := by simp only [convV, Try.underlying28, Try.underlying3]
  rw [this, e]
theorem rights_at {j : Nat} (hj : j < 3) : ∃ rt, okR rt ∧ indexV Try.prog 41 (.agg [.int .i64 1, .int .i64 2, .int .i64 4]) (j : Int) = some (.int .i64 rt) := by
  match j, hj with
  | 0, _ => exact ⟨1, .inl rfl, by kernel_rfl⟩
  | 1, _ => exact ⟨2, .inr (.inl rfl), by kernel_rfl⟩
  | 2, _ => exact ⟨4, .inr (.inr rfl), by kernel_rfl⟩
theorem ask_at (T : Tb) {s p : Nat} (hs : s < 16) (hp : p < 32) {rt : Int} (hr : okR rt) : askE T (s : Int) (256 * (p : Int) + 7) rt = askM (getC T (s : Int) (p : Int)) rt ∧ askO T (s : Int) (256 * (p : Int) + 7) rt = (if askM (getC T (s : Int) (p : Int)) rt = 0 then 7 else 0) ∧ askF T (s : Int) (256 * (p : Int) + 7) rt = (if askM (getC T (s : Int) (p : Int)) rt = 0 then (getC T (s : Int) (p : Int)).f else 0) := by
  have h1 : (256 * (p : Int) + 7) / 256 = p := by omega
  have h2 : (256 * (p : Int) + 7) % 256 = 7 := by omega
  have e : askE T (s : Int) (256 * (p : Int) + 7) rt = askM (getC T (s : Int) (p : Int)) rt := by rw [askE, h1, if_neg (fun h => h ⟨⟨by omega, by omega⟩, hr⟩)]
  refine ⟨e, ?_, ?_⟩
  · rw [askO, e, h2]
  · rw [askF, e, h1]
set_option maxHeartbeats 4000000 in
theorem both_l0 {H : Heap} {Q : Ex → Fr → Heap → Prop} {t : List It} {tb r bx : Nat} {dx : Blk} {T : Tb} (ht : TabAt H tb r T) (w : WT T) {W : Set'} (hW : ∀ b, H.n ≤ b → W b) {s p : Nat} (hs : s < 16) (hp : p < 32) (hbx : H.get bx = some (.cells dx 34)) (hds : dx.size = 4) (hd0 : dx.get 0 = .int .i64 (getC T (s : Int) (p : Int)).f) (hd1 : dx.get 1 = .int .i64 (getC T (s : Int) (p : Int)).r) (ent cnt : Int) {tr : Tr V} {mks : List Nat}
    (u3 : tr.get 3 = some (.ptr (some (tb, 0)))) (u6 : tr.get 6 = some (.int .i64 ent)) (u7 : tr.get 7 = some (.int .i64 cnt)) (u8 : tr.get 8 = some (.int .i64 s)) (u9 : tr.get 9 = some (.int .i64 p)) (u10 : tr.get 10 = some (.ptr (some (bx, 0)))) (u11 : tr.get 11 = some (.bool (getC T (s : Int) (p : Int)).isSome)) (u50 : tr.get 50 = some (.agg [.int .i64 1, .int .i64 2, .int .i64 4])) (u51 : tr.get 51 = some (.int .i64 0))
    (hk : ∀ (tr : Tr V) g', H.n ≤ g'.n → (∀ b, b < H.n → g'.get b = H.get b) → tr.get 3 = some (.ptr (some (tb, 0))) → tr.get 6 = some (.int .i64 ent) → tr.get 7 = some (.int .i64 cnt) → tr.get 8 = some (.int .i64 s) → tr.get 9 = some (.int .i64 p) → resume ⟨Try.prog, true⟩ (fun _ => True) W none Q t (.exit 4) ⟨⟨148, tr⟩, mks⟩ g') :
    GLoop ⟨Try.prog, true⟩ (fun _ => True) W none Q ir5_l0 t ⟨⟨148, tr⟩, mks⟩ H := by
  refine GLoop.inv hm (fun k f g => f.mks = mks ∧ f.tm.n = 148 ∧ f.tm.get 3 = some (.ptr (some (tb, 0))) ∧ f.tm.get 6 = some (.int .i64 ent) ∧ f.tm.get 7 = some (.int .i64 cnt) ∧ f.tm.get 8 = some (.int .i64 s) ∧ f.tm.get 9 = some (.int .i64 p) ∧ f.tm.get 10 = some (.ptr (some (bx, 0))) ∧ f.tm.get 11 = some (.bool (getC T (s : Int) (p : Int)).isSome) ∧ f.tm.get 50 = some (.agg [.int .i64 1, .int .i64 2, .int .i64 4]) ∧ H.n ≤ g.n ∧ (∀ b, b < H.n → g.get b = H.get b) ∧ ∃ j : Nat, j + k = 3 ∧ f.tm.get 51 = some (.int .i64 j)) 3 ?_ ?_
  · exact ⟨rfl, rfl, u3, u6, u7, u8, u9, u10, u11, u50, Nat.le_refl _, fun _ _ => rfl, 0, by omega, u51⟩
  clear u3 u6 u7 u8 u9 u10 u11 u50 u51
  clear tr
  rintro k ⟨⟨n', tr⟩, mks'⟩ g ⟨hmk, hn', t3, t6, t7, t8, t9, t10, t11, t50, gn, hold, j, hjk, t51⟩
  simp only [Tm.get_mk] at hmk hn' t3 t6 t7 t8 t9 t10 t11 t50 t51
  subst hmk hn'
  by_cases hj : j < 3
  · have h1 : (j : Int) < 3 := by omega
    obtain ⟨rt, hrt, hidx⟩ := rights_at hj
    have had : 0 ≤ 256 * (p : Int) + 7 ∧ 256 * (p : Int) + 7 ≤ 4294967295 := by omega
    have hcv := fun h => c3_28 h had
    have hbl := Heap.lt_of_get hbx
    have hlt := ht.lt
    simp -implicitDefEqProofs (disch := (first | omega | (simp -implicitDefEqProofs only [szs, ne_eq] <;> omega) | fail)) only [go_sem, Nat.reduceAdd, Nat.reduceSub, Nat.reduceMul, Nat.reduceLT, Nat.reduceMod, Nat.reduceDiv, Nat.reduceEqDiff, Nat.reduceBEq, Nat.reduceLeDiff, ↓reduceIte, reduceCtorEq, Int.reduceAdd, Int.reduceSub, Int.reduceLT, Int.reduceLE, Int.reduceBEq, Int.reduceEq, Int.reduceToNat, ir5_l0, t3, t6, t7, t8, t9, t10, t11, t50, t51, h1, ↓hidx]
    refine GCall.of (copy_dem (ht.old hold) (fun _ => trivial)) ?_
    rintro v g1 ⟨rfl, hc1, n1, k1⟩
    simp -implicitDefEqProofs (disch := (first | omega | (simp -implicitDefEqProofs only [szs, ne_eq] <;> omega) | fail)) only [go_sem, Nat.reduceAdd, Nat.reduceSub, Nat.reduceMul, Nat.reduceLT, Nat.reduceMod, Nat.reduceDiv, Nat.reduceEqDiff, Nat.reduceBEq, Nat.reduceLeDiff, ↓reduceIte, reduceCtorEq, Int.reduceAdd, Int.reduceSub, Int.reduceLT, Int.reduceLE, Int.reduceBEq, Int.reduceEq, Int.reduceToNat, t3, t6, t7, t8, t9, t10, t11, t50, t51, ↓cv3_28, ↓hcv]
    refine GCall.of (((ask_ok (R := fun b => b = g.n + 1 ∨ b = g.n) (W := fun b => b = g.n + 1 ∨ b = g.n) hc1 (.inl rfl) (.inl rfl) (s : Int) (256 * (p : Int) + 7) rt had).kept.any).foot (fun _ _ => trivial) (fun b hb => hW b (by omega))) ?_
    rintro v g2 ⟨⟨rfl, _⟩, vf⟩
    have n2 := vf.n
    have hold2 : ∀ b, b < H.n → g2.get b = H.get b := fun b hb => by rw [vf.get b (by omega) (by omega), k1 b (by omega)]; exact hold b hb
    have hb2 := (hold2 bx hbl).trans hbx
    obtain ⟨eE, eO, eF⟩ := ask_at T hs hp hrt
    rw [eE, eO, eF]
    have hrt0 : rt ≠ 0 := by rcases hrt with rfl | rfl | rfl <;> omega
    have fin : ∃ k', k' < k ∧ H.n ≤ g2.n ∧ (∀ b, b < H.n → g2.get b = H.get b) ∧ ∃ j' : Nat, j' + k' = 3 ∧ V.int .i64 ((j : Int) + 1) = V.int .i64 (j' : Int) := ⟨k - 1, by omega, by omega, hold2, j + 1, by omega, by simp⟩
    cases hx : getC T (s : Int) (p : Int) with
    | none =>
      rw [hx] at t11 hd0 hd1
      simp only [Option.isSome_none] at t11
      rw [show askM none rt = 10 from rfl]
      simp -implicitDefEqProofs (disch := (first | omega | (simp -implicitDefEqProofs only [szs, ne_eq] <;> omega) | fail)) only [go_sem, Nat.reduceAdd, Nat.reduceSub, Nat.reduceMul, Nat.reduceLT, Nat.reduceMod, Nat.reduceDiv, Nat.reduceEqDiff, Nat.reduceBEq, Nat.reduceLeDiff, ↓reduceIte, reduceCtorEq, Int.reduceAdd, Int.reduceSub, Int.reduceLT, Int.reduceLE, Int.reduceBEq, Int.reduceEq, Int.reduceToNat, t3, t6, t7, t8, t9, t10, t11, t50, t51, undefV]
      refine GCall.of (num_ok _).any ?_
      rintro v g3 ⟨rfl, rfl⟩
      simp -implicitDefEqProofs (disch := (first | omega | (simp -implicitDefEqProofs only [szs, ne_eq] <;> omega) | fail)) only [go_sem, Nat.reduceAdd, Nat.reduceSub, Nat.reduceMul, Nat.reduceLT, Nat.reduceMod, Nat.reduceDiv, Nat.reduceEqDiff, Nat.reduceBEq, Nat.reduceLeDiff, ↓reduceIte, reduceCtorEq, Int.reduceAdd, Int.reduceSub, Int.reduceLT, Int.reduceLE, Int.reduceBEq, Int.reduceEq, Int.reduceToNat, t3, t6, t7, t8, t9, t10, t11, t50, t51, undefV]
      refine GCall.of (num_ok _).any ?_
      rintro v g3 ⟨rfl, rfl⟩
      simp -implicitDefEqProofs (disch := (first | omega | (simp -implicitDefEqProofs only [szs, ne_eq] <;> omega) | fail)) only [go_sem, Nat.reduceAdd, Nat.reduceSub, Nat.reduceMul, Nat.reduceLT, Nat.reduceMod, Nat.reduceDiv, Nat.reduceEqDiff, Nat.reduceBEq, Nat.reduceLeDiff, ↓reduceIte, reduceCtorEq, Int.reduceAdd, Int.reduceSub, Int.reduceLT, Int.reduceLE, Int.reduceBEq, Int.reduceEq, Int.reduceToNat, t3, t6, t7, t8, t9, t10, t11, t50, t51, undefV]
      obtain ⟨k', f1, f2, f3, f4⟩ := fin
      exact ⟨k', f1, rfl, f2, f3, f4⟩
    | some e =>
      rw [hx] at t11 hd0 hd1
      simp only [Option.isSome_some] at t11
      have hwe : 0 ≤ e.r ∧ e.r ≤ 7 := by
        have : T s p = some e := by rw [getC, if_pos ⟨⟨by omega, by omega⟩, by omega, by omega⟩, Int.toNat_natCast, Int.toNat_natCast] at hx; exact hx
        exact (w _ _ _ this).2
      have hd0' : dx.get 0 = .int .i64 e.f := hd0
      have hd1' : dx.get 1 = .int .i64 e.r := hd1
      rcases andN_bit hwe.1 hwe.2 hrt with ha | ha
      · have hm0 : askM (some e) rt = 8 := if_pos ha
        have hq : ((0 : Int) == rt) = false := by simpa using fun e : (0 : Int) = rt => hrt0 e.symm
        rw [hm0]
        simp -implicitDefEqProofs (disch := (first | omega | (simp -implicitDefEqProofs only [szs, ne_eq] <;> omega) | fail)) only [go_sem, Nat.reduceAdd, Nat.reduceSub, Nat.reduceMul, Nat.reduceLT, Nat.reduceMod, Nat.reduceDiv, Nat.reduceEqDiff, Nat.reduceBEq, Nat.reduceLeDiff, ↓reduceIte, reduceCtorEq, Int.reduceAdd, Int.reduceSub, Int.reduceLT, Int.reduceLE, Int.reduceBEq, Int.reduceEq, Int.reduceToNat, t3, t6, t7, t8, t9, t10, t11, t50, t51, undefV]
        refine GCall.of (num_ok _).any ?_
        rintro v g3 ⟨rfl, rfl⟩
        simp -implicitDefEqProofs (disch := (first | omega | (simp -implicitDefEqProofs only [szs, ne_eq] <;> omega) | fail)) only [go_sem, Nat.reduceAdd, Nat.reduceSub, Nat.reduceMul, Nat.reduceLT, Nat.reduceMod, Nat.reduceDiv, Nat.reduceEqDiff, Nat.reduceBEq, Nat.reduceLeDiff, ↓reduceIte, reduceCtorEq, Int.reduceAdd, Int.reduceSub, Int.reduceLT, Int.reduceLE, Int.reduceBEq, Int.reduceEq, Int.reduceToNat, t3, t6, t7, t8, t9, t10, t11, t50, t51, undefV, hb2, hds, hd0', hd1', ↓andN_op, ha, hq]
        refine GCall.of (num_ok _).any ?_
        rintro v g4 ⟨rfl, rfl⟩
        simp -implicitDefEqProofs (disch := (first | omega | (simp -implicitDefEqProofs only [szs, ne_eq] <;> omega) | fail)) only [go_sem, Nat.reduceAdd, Nat.reduceSub, Nat.reduceMul, Nat.reduceLT, Nat.reduceMod, Nat.reduceDiv, Nat.reduceEqDiff, Nat.reduceBEq, Nat.reduceLeDiff, ↓reduceIte, reduceCtorEq, Int.reduceAdd, Int.reduceSub, Int.reduceLT, Int.reduceLE, Int.reduceBEq, Int.reduceEq, Int.reduceToNat, t3, t6, t7, t8, t9, t10, t11, t50, t51, undefV]
        obtain ⟨k', f1, f2, f3, f4⟩ := fin
        exact ⟨k', f1, rfl, f2, f3, f4⟩
      · have hm0 : askM (some e) rt = 0 := if_neg (by rw [ha]; exact hrt0)
        have hq : (rt == rt) = true := by simp
        have hff : Ce.f (some e) = e.f := rfl
        have hfe : (e.f != e.f) = false := by simp
        rw [hm0, if_pos rfl, if_pos rfl]
        simp -implicitDefEqProofs (disch := (first | omega | (simp -implicitDefEqProofs only [szs, ne_eq] <;> omega) | fail)) only [go_sem, Nat.reduceAdd, Nat.reduceSub, Nat.reduceMul, Nat.reduceLT, Nat.reduceMod, Nat.reduceDiv, Nat.reduceEqDiff, Nat.reduceBEq, Nat.reduceLeDiff, ↓reduceIte, reduceCtorEq, Int.reduceAdd, Int.reduceSub, Int.reduceLT, Int.reduceLE, Int.reduceBEq, Int.reduceEq, Int.reduceToNat, t3, t6, t7, t8, t9, t10, t11, t50, t51, undefV]
        refine GCall.of (num_ok _).any ?_
        rintro v g3 ⟨rfl, rfl⟩
        simp -implicitDefEqProofs (disch := (first | omega | (simp -implicitDefEqProofs only [szs, ne_eq] <;> omega) | fail)) only [go_sem, Nat.reduceAdd, Nat.reduceSub, Nat.reduceMul, Nat.reduceLT, Nat.reduceMod, Nat.reduceDiv, Nat.reduceEqDiff, Nat.reduceBEq, Nat.reduceLeDiff, ↓reduceIte, reduceCtorEq, Int.reduceAdd, Int.reduceSub, Int.reduceLT, Int.reduceLE, Int.reduceBEq, Int.reduceEq, Int.reduceToNat, t3, t6, t7, t8, t9, t10, t11, t50, t51, undefV, hb2, hds, hd0', hd1', ↓andN_op, ha, hq]
        refine GCall.of (num_ok _).any ?_
        rintro v g4 ⟨rfl, rfl⟩
        simp -implicitDefEqProofs (disch := (first | omega | (simp -implicitDefEqProofs only [szs, ne_eq] <;> omega) | fail)) only [go_sem, Nat.reduceAdd, Nat.reduceSub, Nat.reduceMul, Nat.reduceLT, Nat.reduceMod, Nat.reduceDiv, Nat.reduceEqDiff, Nat.reduceBEq, Nat.reduceLeDiff, ↓reduceIte, reduceCtorEq, Int.reduceAdd, Int.reduceSub, Int.reduceLT, Int.reduceLE, Int.reduceBEq, Int.reduceEq, Int.reduceToNat, t3, t6, t7, t8, t9, t10, t11, t50, t51, undefV, hb2, hds, hd0', hd1', hff, hfe]
        obtain ⟨k', f1, f2, f3, f4⟩ := fin
        exact ⟨k', f1, rfl, f2, f3, f4⟩
  · have h1 : ¬ (j : Int) < 3 := by omega
    simp -implicitDefEqProofs (disch := (first | omega | (simp -implicitDefEqProofs only [szs, ne_eq] <;> omega) | fail)) only [go_sem, Nat.reduceAdd, Nat.reduceSub, Nat.reduceMul, Nat.reduceLT, Nat.reduceMod, Nat.reduceDiv, Nat.reduceEqDiff, Nat.reduceBEq, Nat.reduceLeDiff, ↓reduceIte, reduceCtorEq, Int.reduceAdd, Int.reduceSub, Int.reduceLT, Int.reduceLE, Int.reduceBEq, Int.reduceEq, Int.reduceToNat, ir5_l0, t3, t6, t7, t8, t9, t10, t11, t50, t51, h1]
    exact hk _ _ gn hold (by simp -implicitDefEqProofs (disch := (first | omega | (simp -implicitDefEqProofs only [szs, ne_eq] <;> omega) | fail)) only [go_sem, Nat.reduceAdd, Nat.reduceSub, Nat.reduceMul, Nat.reduceLT, Nat.reduceMod, Nat.reduceDiv, Nat.reduceEqDiff, Nat.reduceBEq, Nat.reduceLeDiff, ↓reduceIte, reduceCtorEq, Int.reduceAdd, Int.reduceSub, Int.reduceLT, Int.reduceLE, Int.reduceBEq, Int.reduceEq, Int.reduceToNat, t3]) (by simp -implicitDefEqProofs (disch := (first | omega | (simp -implicitDefEqProofs only [szs, ne_eq] <;> omega) | fail)) only [go_sem, Nat.reduceAdd, Nat.reduceSub, Nat.reduceMul, Nat.reduceLT, Nat.reduceMod, Nat.reduceDiv, Nat.reduceEqDiff, Nat.reduceBEq, Nat.reduceLeDiff, ↓reduceIte, reduceCtorEq, Int.reduceAdd, Int.reduceSub, Int.reduceLT, Int.reduceLE, Int.reduceBEq, Int.reduceEq, Int.reduceToNat, t6]) (by simp -implicitDefEqProofs (disch := (first | omega | (simp -implicitDefEqProofs only [szs, ne_eq] <;> omega) | fail)) only [go_sem, Nat.reduceAdd, Nat.reduceSub, Nat.reduceMul, Nat.reduceLT, Nat.reduceMod, Nat.reduceDiv, Nat.reduceEqDiff, Nat.reduceBEq, Nat.reduceLeDiff, ↓reduceIte, reduceCtorEq, Int.reduceAdd, Int.reduceSub, Int.reduceLT, Int.reduceLE, Int.reduceBEq, Int.reduceEq, Int.reduceToNat, t7]) (by simp -implicitDefEqProofs (disch := (first | omega | (simp -implicitDefEqProofs only [szs, ne_eq] <;> omega) | fail)) only [go_sem, Nat.reduceAdd, Nat.reduceSub, Nat.reduceMul, Nat.reduceLT, Nat.reduceMod, Nat.reduceDiv, Nat.reduceEqDiff, Nat.reduceBEq, Nat.reduceLeDiff, ↓reduceIte, reduceCtorEq, Int.reduceAdd, Int.reduceSub, Int.reduceLT, Int.reduceLE, Int.reduceBEq, Int.reduceEq, Int.reduceToNat, t8]) (by simp -implicitDefEqProofs (disch := (first | omega | (simp -implicitDefEqProofs only [szs, ne_eq] <;> omega) | fail)) only [go_sem, Nat.reduceAdd, Nat.reduceSub, Nat.reduceMul, Nat.reduceLT, Nat.reduceMod, Nat.reduceDiv, Nat.reduceEqDiff, Nat.reduceBEq, Nat.reduceLeDiff, ↓reduceIte, reduceCtorEq, Int.reduceAdd, Int.reduceSub, Int.reduceLT, Int.reduceLE, Int.reduceBEq, Int.reduceEq, Int.reduceToNat, t9])
theorem bz_41 : builtV Try.prog 41 [(0, .int .i64 1), (1, .int .i64 2), (2, .int .i64 4)] = some [.int .i64 1, .int .i64 2, .int .i64 4] := by kernel_rfl
set_option maxHeartbeats 4000000 in
theorem both_l1 {H g : Heap} {Q : Ex → Fr → Heap → Prop} {t : List It} {tb r : Nat} {T : Tb} (ht : TabAt H tb r T) (w : WT T) {W : Set'} (hW : ∀ b, H.n ≤ b → W b) {s : Nat} (hs : s < 16) (cnt : Int) {tr : Tr V} {mks : List Nat} (gn : H.n ≤ g.n) (hold : ∀ b, b < H.n → g.get b = H.get b)
    (u3 : tr.get 3 = some (.ptr (some (tb, 0)))) (u6 : tr.get 6 = some (.int .i64 (cntA T (s * 32) : Nat))) (u7 : tr.get 7 = some (.int .i64 cnt)) (u8 : tr.get 8 = some (.int .i64 s)) (u9 : tr.get 9 = some (.int .i64 0))
    (hk : ∀ (tr : Tr V) g', H.n ≤ g'.n → (∀ b, b < H.n → g'.get b = H.get b) → tr.get 3 = some (.ptr (some (tb, 0))) → tr.get 6 = some (.int .i64 (cntA T (s * 32 + 32) : Nat)) → tr.get 7 = some (.int .i64 cnt) → tr.get 8 = some (.int .i64 s) → resume ⟨Try.prog, true⟩ (fun _ => True) W none Q t (.exit 2) ⟨⟨148, tr⟩, mks⟩ g') :
    GLoop ⟨Try.prog, true⟩ (fun _ => True) W none Q ir5_l1 t ⟨⟨148, tr⟩, mks⟩ g := by
  refine GLoop.inv hm (fun k f g => f.mks = mks ∧ f.tm.n = 148 ∧ f.tm.get 3 = some (.ptr (some (tb, 0))) ∧ f.tm.get 7 = some (.int .i64 cnt) ∧ f.tm.get 8 = some (.int .i64 s) ∧ H.n ≤ g.n ∧ (∀ b, b < H.n → g.get b = H.get b) ∧ ∃ p : Nat, p + k = 32 ∧ f.tm.get 9 = some (.int .i64 p) ∧ f.tm.get 6 = some (.int .i64 (cntA T (s * 32 + p) : Nat))) 32 ?_ ?_
  · exact ⟨rfl, rfl, u3, u7, u8, gn, hold, 0, by omega, u9, u6⟩
  clear u3 u6 u7 u8 u9 gn hold
  clear g tr
  rintro k ⟨⟨n', tr⟩, mks'⟩ g ⟨hmk, hn', t3, t7, t8, gn, hold, p, hpk, t9, t6⟩
  simp only [Tm.get_mk] at hmk hn' t3 t7 t8 t9 t6
  subst hmk hn'
  by_cases hp : p < 32
  · have h1 : (p : Int) < 32 := by omega
    have hg := ht.old hold
    have hlt := ht.lt
    simp -implicitDefEqProofs (disch := (first | omega | (simp -implicitDefEqProofs only [szs, ne_eq] <;> omega) | fail)) only [go_sem, Nat.reduceAdd, Nat.reduceSub, Nat.reduceMul, Nat.reduceLT, Nat.reduceMod, Nat.reduceDiv, Nat.reduceEqDiff, Nat.reduceBEq, Nat.reduceLeDiff, ↓reduceIte, reduceCtorEq, Int.reduceAdd, Int.reduceSub, Int.reduceLT, Int.reduceLE, Int.reduceBEq, Int.reduceEq, Int.reduceToNat, ir5_l1, t3, t6, t7, t8, t9, h1]
    refine GCall.of (get_ok hg trivial (s : Int) (p : Int)).any ?_
    rintro v g1 ⟨rfl, n1, k1⟩
    obtain ⟨g2, e2, n2, ⟨d, b2, db, d0, d1, d2, d3⟩, k2⟩ := ent_heap g1 (getC T (s : Int) (p : Int))
    have hW1 := hW g1.n (by omega)
    have hold2 : ∀ b, b < H.n → g2.get b = H.get b := fun b hb => by rw [k2 b (by omega), k1 b (by omega)]; exact hold b hb
    have ht2 := ht.old hold2
    have hsuc := cntA_succ T (s * 32 + p)
    have hle := cntA_le T (s * 32 + p)
    rw [show (s * 32 + p) / 32 = s by omega, show (s * 32 + p) % 32 = p by omega] at hsuc
    have hgc : getC T (s : Int) (p : Int) = T s p := by rw [getC, if_pos ⟨⟨by omega, by omega⟩, by omega, by omega⟩, Int.toNat_natCast, Int.toNat_natCast]
    cases hx : (getC T (s : Int) (p : Int)).isSome with
    | false =>
      rw [← hgc, hx] at hsuc
      simp -implicitDefEqProofs (disch := (first | omega | (simp -implicitDefEqProofs only [szs, ne_eq] <;> omega) | fail)) only [go_sem, Nat.reduceAdd, Nat.reduceSub, Nat.reduceMul, Nat.reduceLT, Nat.reduceMod, Nat.reduceDiv, Nat.reduceEqDiff, Nat.reduceBEq, Nat.reduceLeDiff, ↓reduceIte, reduceCtorEq, Int.reduceAdd, Int.reduceSub, Int.reduceLT, Int.reduceLE, Int.reduceBEq, Int.reduceEq, Int.reduceToNat, Ce.v, e2, hW1, t3, t6, t7, t8, t9, ↓bz_41]
      refine both_l0 ht2 w (fun b hb => hW b (by omega)) hs hp b2 db d0 d1 (cntA T (s * 32 + p) : Nat) cnt (by simp -implicitDefEqProofs (disch := (first | omega | (simp -implicitDefEqProofs only [szs, ne_eq] <;> omega) | fail)) only [go_sem, Nat.reduceAdd, Nat.reduceSub, Nat.reduceMul, Nat.reduceLT, Nat.reduceMod, Nat.reduceDiv, Nat.reduceEqDiff, Nat.reduceBEq, Nat.reduceLeDiff, ↓reduceIte, reduceCtorEq, Int.reduceAdd, Int.reduceSub, Int.reduceLT, Int.reduceLE, Int.reduceBEq, Int.reduceEq, Int.reduceToNat, t3]) (by simp -implicitDefEqProofs (disch := (first | omega | (simp -implicitDefEqProofs only [szs, ne_eq] <;> omega) | fail)) only [go_sem, Nat.reduceAdd, Nat.reduceSub, Nat.reduceMul, Nat.reduceLT, Nat.reduceMod, Nat.reduceDiv, Nat.reduceEqDiff, Nat.reduceBEq, Nat.reduceLeDiff, ↓reduceIte, reduceCtorEq, Int.reduceAdd, Int.reduceSub, Int.reduceLT, Int.reduceLE, Int.reduceBEq, Int.reduceEq, Int.reduceToNat, t6]) (by simp -implicitDefEqProofs (disch := (first | omega | (simp -implicitDefEqProofs only [szs, ne_eq] <;> omega) | fail)) only [go_sem, Nat.reduceAdd, Nat.reduceSub, Nat.reduceMul, Nat.reduceLT, Nat.reduceMod, Nat.reduceDiv, Nat.reduceEqDiff, Nat.reduceBEq, Nat.reduceLeDiff, ↓reduceIte, reduceCtorEq, Int.reduceAdd, Int.reduceSub, Int.reduceLT, Int.reduceLE, Int.reduceBEq, Int.reduceEq, Int.reduceToNat, t7]) (by simp -implicitDefEqProofs (disch := (first | omega | (simp -implicitDefEqProofs only [szs, ne_eq] <;> omega) | fail)) only [go_sem, Nat.reduceAdd, Nat.reduceSub, Nat.reduceMul, Nat.reduceLT, Nat.reduceMod, Nat.reduceDiv, Nat.reduceEqDiff, Nat.reduceBEq, Nat.reduceLeDiff, ↓reduceIte, reduceCtorEq, Int.reduceAdd, Int.reduceSub, Int.reduceLT, Int.reduceLE, Int.reduceBEq, Int.reduceEq, Int.reduceToNat, t8]) (by simp -implicitDefEqProofs (disch := (first | omega | (simp -implicitDefEqProofs only [szs, ne_eq] <;> omega) | fail)) only [go_sem, Nat.reduceAdd, Nat.reduceSub, Nat.reduceMul, Nat.reduceLT, Nat.reduceMod, Nat.reduceDiv, Nat.reduceEqDiff, Nat.reduceBEq, Nat.reduceLeDiff, ↓reduceIte, reduceCtorEq, Int.reduceAdd, Int.reduceSub, Int.reduceLT, Int.reduceLE, Int.reduceBEq, Int.reduceEq, Int.reduceToNat, t9]) (by simp -implicitDefEqProofs (disch := (first | omega | (simp -implicitDefEqProofs only [szs, ne_eq] <;> omega) | fail)) only [go_sem, Nat.reduceAdd, Nat.reduceSub, Nat.reduceMul, Nat.reduceLT, Nat.reduceMod, Nat.reduceDiv, Nat.reduceEqDiff, Nat.reduceBEq, Nat.reduceLeDiff, ↓reduceIte, reduceCtorEq, Int.reduceAdd, Int.reduceSub, Int.reduceLT, Int.reduceLE, Int.reduceBEq, Int.reduceEq, Int.reduceToNat]) (by rw [hx]; simp -implicitDefEqProofs (disch := (first | omega | (simp -implicitDefEqProofs only [szs, ne_eq] <;> omega) | fail)) only [go_sem, Nat.reduceAdd, Nat.reduceSub, Nat.reduceMul, Nat.reduceLT, Nat.reduceMod, Nat.reduceDiv, Nat.reduceEqDiff, Nat.reduceBEq, Nat.reduceLeDiff, ↓reduceIte, reduceCtorEq, Int.reduceAdd, Int.reduceSub, Int.reduceLT, Int.reduceLE, Int.reduceBEq, Int.reduceEq, Int.reduceToNat]) (by simp -implicitDefEqProofs (disch := (first | omega | (simp -implicitDefEqProofs only [szs, ne_eq] <;> omega) | fail)) only [go_sem, Nat.reduceAdd, Nat.reduceSub, Nat.reduceMul, Nat.reduceLT, Nat.reduceMod, Nat.reduceDiv, Nat.reduceEqDiff, Nat.reduceBEq, Nat.reduceLeDiff, ↓reduceIte, reduceCtorEq, Int.reduceAdd, Int.reduceSub, Int.reduceLT, Int.reduceLE, Int.reduceBEq, Int.reduceEq, Int.reduceToNat]) (by simp -implicitDefEqProofs (disch := (first | omega | (simp -implicitDefEqProofs only [szs, ne_eq] <;> omega) | fail)) only [go_sem, Nat.reduceAdd, Nat.reduceSub, Nat.reduceMul, Nat.reduceLT, Nat.reduceMod, Nat.reduceDiv, Nat.reduceEqDiff, Nat.reduceBEq, Nat.reduceLeDiff, ↓reduceIte, reduceCtorEq, Int.reduceAdd, Int.reduceSub, Int.reduceLT, Int.reduceLE, Int.reduceBEq, Int.reduceEq, Int.reduceToNat]) ?_
      clear t3 t6 t7 t8 t9
      intro tr g3 n3 k3 t3 t6 t7 t8 t9
      simp -implicitDefEqProofs (disch := (first | omega | (simp -implicitDefEqProofs only [szs, ne_eq] <;> omega) | fail)) only [go_sem, Nat.reduceAdd, Nat.reduceSub, Nat.reduceMul, Nat.reduceLT, Nat.reduceMod, Nat.reduceDiv, Nat.reduceEqDiff, Nat.reduceBEq, Nat.reduceLeDiff, ↓reduceIte, reduceCtorEq, Int.reduceAdd, Int.reduceSub, Int.reduceLT, Int.reduceLE, Int.reduceBEq, Int.reduceEq, Int.reduceToNat, t3, t6, t7, t8, t9]
      exact ⟨k - 1, by omega, by omega, fun b hb => by rw [k3 b (by omega)]; exact hold2 b hb, p + 1, by omega, by simp, by rw [← Nat.add_assoc, hsuc]; rfl⟩
    | true =>
      rw [← hgc, hx] at hsuc
      simp -implicitDefEqProofs (disch := (first | omega | (simp -implicitDefEqProofs only [szs, ne_eq] <;> omega) | fail)) only [go_sem, Nat.reduceAdd, Nat.reduceSub, Nat.reduceMul, Nat.reduceLT, Nat.reduceMod, Nat.reduceDiv, Nat.reduceEqDiff, Nat.reduceBEq, Nat.reduceLeDiff, ↓reduceIte, reduceCtorEq, Int.reduceAdd, Int.reduceSub, Int.reduceLT, Int.reduceLE, Int.reduceBEq, Int.reduceEq, Int.reduceToNat, Ce.v, e2, hW1, t3, t6, t7, t8, t9, ↓bz_41]
      refine both_l0 ht2 w (fun b hb => hW b (by omega)) hs hp b2 db d0 d1 ((cntA T (s * 32 + p) : Nat) + 1) cnt (by simp -implicitDefEqProofs (disch := (first | omega | (simp -implicitDefEqProofs only [szs, ne_eq] <;> omega) | fail)) only [go_sem, Nat.reduceAdd, Nat.reduceSub, Nat.reduceMul, Nat.reduceLT, Nat.reduceMod, Nat.reduceDiv, Nat.reduceEqDiff, Nat.reduceBEq, Nat.reduceLeDiff, ↓reduceIte, reduceCtorEq, Int.reduceAdd, Int.reduceSub, Int.reduceLT, Int.reduceLE, Int.reduceBEq, Int.reduceEq, Int.reduceToNat, t3]) (by simp -implicitDefEqProofs (disch := (first | omega | (simp -implicitDefEqProofs only [szs, ne_eq] <;> omega) | fail)) only [go_sem, Nat.reduceAdd, Nat.reduceSub, Nat.reduceMul, Nat.reduceLT, Nat.reduceMod, Nat.reduceDiv, Nat.reduceEqDiff, Nat.reduceBEq, Nat.reduceLeDiff, ↓reduceIte, reduceCtorEq, Int.reduceAdd, Int.reduceSub, Int.reduceLT, Int.reduceLE, Int.reduceBEq, Int.reduceEq, Int.reduceToNat, t6]) (by simp -implicitDefEqProofs (disch := (first | omega | (simp -implicitDefEqProofs only [szs, ne_eq] <;> omega) | fail)) only [go_sem, Nat.reduceAdd, Nat.reduceSub, Nat.reduceMul, Nat.reduceLT, Nat.reduceMod, Nat.reduceDiv, Nat.reduceEqDiff, Nat.reduceBEq, Nat.reduceLeDiff, ↓reduceIte, reduceCtorEq, Int.reduceAdd, Int.reduceSub, Int.reduceLT, Int.reduceLE, Int.reduceBEq, Int.reduceEq, Int.reduceToNat, t7]) (by simp -implicitDefEqProofs (disch := (first | omega | (simp -implicitDefEqProofs only [szs, ne_eq] <;> omega) | fail)) only [go_sem, Nat.reduceAdd, Nat.reduceSub, Nat.reduceMul, Nat.reduceLT, Nat.reduceMod, Nat.reduceDiv, Nat.reduceEqDiff, Nat.reduceBEq, Nat.reduceLeDiff, ↓reduceIte, reduceCtorEq, Int.reduceAdd, Int.reduceSub, Int.reduceLT, Int.reduceLE, Int.reduceBEq, Int.reduceEq, Int.reduceToNat, t8]) (by simp -implicitDefEqProofs (disch := (first | omega | (simp -implicitDefEqProofs only [szs, ne_eq] <;> omega) | fail)) only [go_sem, Nat.reduceAdd, Nat.reduceSub, Nat.reduceMul, Nat.reduceLT, Nat.reduceMod, Nat.reduceDiv, Nat.reduceEqDiff, Nat.reduceBEq, Nat.reduceLeDiff, ↓reduceIte, reduceCtorEq, Int.reduceAdd, Int.reduceSub, Int.reduceLT, Int.reduceLE, Int.reduceBEq, Int.reduceEq, Int.reduceToNat, t9]) (by simp -implicitDefEqProofs (disch := (first | omega | (simp -implicitDefEqProofs only [szs, ne_eq] <;> omega) | fail)) only [go_sem, Nat.reduceAdd, Nat.reduceSub, Nat.reduceMul, Nat.reduceLT, Nat.reduceMod, Nat.reduceDiv, Nat.reduceEqDiff, Nat.reduceBEq, Nat.reduceLeDiff, ↓reduceIte, reduceCtorEq, Int.reduceAdd, Int.reduceSub, Int.reduceLT, Int.reduceLE, Int.reduceBEq, Int.reduceEq, Int.reduceToNat]) (by rw [hx]; simp -implicitDefEqProofs (disch := (first | omega | (simp -implicitDefEqProofs only [szs, ne_eq] <;> omega) | fail)) only [go_sem, Nat.reduceAdd, Nat.reduceSub, Nat.reduceMul, Nat.reduceLT, Nat.reduceMod, Nat.reduceDiv, Nat.reduceEqDiff, Nat.reduceBEq, Nat.reduceLeDiff, ↓reduceIte, reduceCtorEq, Int.reduceAdd, Int.reduceSub, Int.reduceLT, Int.reduceLE, Int.reduceBEq, Int.reduceEq, Int.reduceToNat]) (by simp -implicitDefEqProofs (disch := (first | omega | (simp -implicitDefEqProofs only [szs, ne_eq] <;> omega) | fail)) only [go_sem, Nat.reduceAdd, Nat.reduceSub, Nat.reduceMul, Nat.reduceLT, Nat.reduceMod, Nat.reduceDiv, Nat.reduceEqDiff, Nat.reduceBEq, Nat.reduceLeDiff, ↓reduceIte, reduceCtorEq, Int.reduceAdd, Int.reduceSub, Int.reduceLT, Int.reduceLE, Int.reduceBEq, Int.reduceEq, Int.reduceToNat]) (by simp -implicitDefEqProofs (disch := (first | omega | (simp -implicitDefEqProofs only [szs, ne_eq] <;> omega) | fail)) only [go_sem, Nat.reduceAdd, Nat.reduceSub, Nat.reduceMul, Nat.reduceLT, Nat.reduceMod, Nat.reduceDiv, Nat.reduceEqDiff, Nat.reduceBEq, Nat.reduceLeDiff, ↓reduceIte, reduceCtorEq, Int.reduceAdd, Int.reduceSub, Int.reduceLT, Int.reduceLE, Int.reduceBEq, Int.reduceEq, Int.reduceToNat]) ?_
      clear t3 t6 t7 t8 t9
      intro tr g3 n3 k3 t3 t6 t7 t8 t9
      simp -implicitDefEqProofs (disch := (first | omega | (simp -implicitDefEqProofs only [szs, ne_eq] <;> omega) | fail)) only [go_sem, Nat.reduceAdd, Nat.reduceSub, Nat.reduceMul, Nat.reduceLT, Nat.reduceMod, Nat.reduceDiv, Nat.reduceEqDiff, Nat.reduceBEq, Nat.reduceLeDiff, ↓reduceIte, reduceCtorEq, Int.reduceAdd, Int.reduceSub, Int.reduceLT, Int.reduceLE, Int.reduceBEq, Int.reduceEq, Int.reduceToNat, t3, t6, t7, t8, t9]
      exact ⟨k - 1, by omega, by omega, fun b hb => by rw [k3 b (by omega)]; exact hold2 b hb, p + 1, by omega, by simp, by rw [← Nat.add_assoc, hsuc]; simp⟩
  · obtain rfl : p = 32 := by omega
    simp -implicitDefEqProofs (disch := (first | omega | (simp -implicitDefEqProofs only [szs, ne_eq] <;> omega) | fail)) only [go_sem, Nat.reduceAdd, Nat.reduceSub, Nat.reduceMul, Nat.reduceLT, Nat.reduceMod, Nat.reduceDiv, Nat.reduceEqDiff, Nat.reduceBEq, Nat.reduceLeDiff, ↓reduceIte, reduceCtorEq, Int.reduceAdd, Int.reduceSub, Int.reduceLT, Int.reduceLE, Int.reduceBEq, Int.reduceEq, Int.reduceToNat, ir5_l1, t3, t6, t7, t8, t9]
    exact hk _ _ gn hold (by simp -implicitDefEqProofs (disch := (first | omega | (simp -implicitDefEqProofs only [szs, ne_eq] <;> omega) | fail)) only [go_sem, Nat.reduceAdd, Nat.reduceSub, Nat.reduceMul, Nat.reduceLT, Nat.reduceMod, Nat.reduceDiv, Nat.reduceEqDiff, Nat.reduceBEq, Nat.reduceLeDiff, ↓reduceIte, reduceCtorEq, Int.reduceAdd, Int.reduceSub, Int.reduceLT, Int.reduceLE, Int.reduceBEq, Int.reduceEq, Int.reduceToNat, t3]) (by simp -implicitDefEqProofs (disch := (first | omega | (simp -implicitDefEqProofs only [szs, ne_eq] <;> omega) | fail)) only [go_sem, Nat.reduceAdd, Nat.reduceSub, Nat.reduceMul, Nat.reduceLT, Nat.reduceMod, Nat.reduceDiv, Nat.reduceEqDiff, Nat.reduceBEq, Nat.reduceLeDiff, ↓reduceIte, reduceCtorEq, Int.reduceAdd, Int.reduceSub, Int.reduceLT, Int.reduceLE, Int.reduceBEq, Int.reduceEq, Int.reduceToNat, t6]) (by simp -implicitDefEqProofs (disch := (first | omega | (simp -implicitDefEqProofs only [szs, ne_eq] <;> omega) | fail)) only [go_sem, Nat.reduceAdd, Nat.reduceSub, Nat.reduceMul, Nat.reduceLT, Nat.reduceMod, Nat.reduceDiv, Nat.reduceEqDiff, Nat.reduceBEq, Nat.reduceLeDiff, ↓reduceIte, reduceCtorEq, Int.reduceAdd, Int.reduceSub, Int.reduceLT, Int.reduceLE, Int.reduceBEq, Int.reduceEq, Int.reduceToNat, t7]) (by simp -implicitDefEqProofs (disch := (first | omega | (simp -implicitDefEqProofs only [szs, ne_eq] <;> omega) | fail)) only [go_sem, Nat.reduceAdd, Nat.reduceSub, Nat.reduceMul, Nat.reduceLT, Nat.reduceMod, Nat.reduceDiv, Nat.reduceEqDiff, Nat.reduceBEq, Nat.reduceLeDiff, ↓reduceIte, reduceCtorEq, Int.reduceAdd, Int.reduceSub, Int.reduceLT, Int.reduceLE, Int.reduceBEq, Int.reduceEq, Int.reduceToNat, t8])
set_option maxHeartbeats 4000000 in
theorem both_l3 {H g : Heap} {S1 : Set'} {Q : Ex → Fr → Heap → Prop} {t : List It} {tb r fr : Nat} {T : Tb} {lv : V} (ht : TabAt H tb r T) {W : Set'} (hW : ∀ b, H.n ≤ b → W b) (hl : LRs 2 H S1 lv (spots T (fr : Int) 512).length (spV (spots T (fr : Int) 512))) (ent cnt : Int) {tr : Tr V} {mks : List Nat} (gn : H.n ≤ g.n) (hold : ∀ b, b < H.n → g.get b = H.get b)
    (u3 : tr.get 3 = some (.ptr (some (tb, 0)))) (u6 : tr.get 6 = some (.int .i64 ent)) (u7 : tr.get 7 = some (.int .i64 cnt)) (u17 : tr.get 17 = some (.int .i64 fr)) (u18 : tr.get 18 = some lv) (u19 : tr.get 19 = some (.int .i64 0))
    (hk : ∀ (tr : Tr V) g', H.n ≤ g'.n → (∀ b, b < H.n → g'.get b = H.get b) → tr.get 3 = some (.ptr (some (tb, 0))) → tr.get 6 = some (.int .i64 ent) → tr.get 7 = some (.int .i64 cnt) → tr.get 17 = some (.int .i64 fr) → resume ⟨Try.prog, true⟩ (fun _ => True) W none Q t (.exit 8) ⟨⟨148, tr⟩, mks⟩ g') :
    GLoop ⟨Try.prog, true⟩ (fun _ => True) W none Q ir5_l3 t ⟨⟨148, tr⟩, mks⟩ g := by
  have hl1 := hl.lenV Try.underlying46
  have hsl := spots_len T (fr : Int) 512
  refine GLoop.inv hm (fun k f g => f.mks = mks ∧ f.tm.n = 148 ∧ f.tm.get 3 = some (.ptr (some (tb, 0))) ∧ f.tm.get 6 = some (.int .i64 ent) ∧ f.tm.get 7 = some (.int .i64 cnt) ∧ f.tm.get 17 = some (.int .i64 fr) ∧ f.tm.get 18 = some lv ∧ H.n ≤ g.n ∧ (∀ b, b < H.n → g.get b = H.get b) ∧ ∃ i : Nat, i + k = (spots T (fr : Int) 512).length ∧ f.tm.get 19 = some (.int .i64 i)) (spots T (fr : Int) 512).length ?_ ?_
  · exact ⟨rfl, rfl, u3, u6, u7, u17, u18, gn, hold, 0, by omega, u19⟩
  clear u3 u6 u7 u17 u18 u19 gn hold
  clear g tr
  rintro k ⟨⟨n', tr⟩, mks'⟩ g ⟨hmk, hn', t3, t6, t7, t17, t18, gn, hold, i, hik, t19⟩
  simp only [Tm.get_mk] at hmk hn' t3 t6 t7 t17 t18 t19
  subst hmk hn'
  by_cases hi : i < (spots T (fr : Int) 512).length
  · have p1 : (i : Int) < ((spots T (fr : Int) 512).length : Int) := by omega
    have p0 : (0 : Int) ≤ (i : Int) := by omega
    obtain ⟨b, o, cap, ex, c, ce, rfl, hb1, i1, j1, l1⟩ := hl.get (by omega)
    have hat := spV_at hi
    have a1 := l1 (i * 2) (by omega)
    have a2 := l1 (i * 2 + 1) (by omega)
    rw [hat.1] at a1
    rw [hat.2, ← Nat.add_assoc] at a2
    have hbl := Heap.lt_of_get i1
    have i2 := (hold b hbl).trans i1
    have hmem := spots_mem.1 (List.getElem_mem hi)
    generalize hq : (spots T (fr : Int) 512)[i] = q at *
    have hg := ht.old hold
    have hlt := ht.lt
    have hgc : getC T ((q / 32 : Nat) : Int) ((q % 32 : Nat) : Int) = T (q / 32) (q % 32) := by rw [getC, if_pos ⟨⟨by omega, by omega⟩, by omega, by omega⟩, Int.toNat_natCast, Int.toNat_natCast]
    obtain ⟨e, hT, hef⟩ : ∃ e, T (q / 32) (q % 32) = some e ∧ e.f = (fr : Int) := by
      cases hT : T (q / 32) (q % 32) with
      | none => rw [hT] at hmem; cases hmem.2
      | some e => rw [hT] at hmem; exact ⟨e, rfl, Option.some.inj hmem.2⟩
    rw [hT] at hgc
    simp -implicitDefEqProofs (disch := (first | omega | (simp -implicitDefEqProofs only [szs, ne_eq] <;> omega) | fail)) only [go_sem, Nat.reduceAdd, Nat.reduceSub, Nat.reduceMul, Nat.reduceLT, Nat.reduceMod, Nat.reduceDiv, Nat.reduceEqDiff, Nat.reduceBEq, Nat.reduceLeDiff, ↓reduceIte, reduceCtorEq, Int.reduceAdd, Int.reduceSub, Int.reduceLT, Int.reduceLE, Int.reduceBEq, Int.reduceEq, Int.reduceToNat, ir5_l3, t3, t6, t7, t17, t18, t19, ↓hl1, p0, p1, i2, a1, a2]
    refine GCallD.of (R' := fun _ => True) (W' := fun _ => False) (get_ok hg trivial ((q / 32 : Nat) : Int) ((q % 32 : Nat) : Int)) ?_
    rintro v g1 ⟨rfl, n1, k1⟩
    rw [hgc]
    obtain ⟨g2, e2, n2, ⟨d, b2, db, d0, d1, d2, d3⟩, k2⟩ := ent_heap g1 (some e)
    have d0' : d.get 0 = .int .i64 fr := by rw [d0]; exact congrArg _ hef
    have hold2 : ∀ b, b < H.n → g2.get b = H.get b := fun b hb => by rw [k2 b (by omega), k1 b (by omega)]; exact hold b hb
    have hff : ((fr : Int) != fr) = false := by simp
    simp -implicitDefEqProofs (disch := (first | omega | (simp -implicitDefEqProofs only [szs, ne_eq] <;> omega) | fail)) only [go_sem, Nat.reduceAdd, Nat.reduceSub, Nat.reduceMul, Nat.reduceLT, Nat.reduceMod, Nat.reduceDiv, Nat.reduceEqDiff, Nat.reduceBEq, Nat.reduceLeDiff, ↓reduceIte, reduceCtorEq, Int.reduceAdd, Int.reduceSub, Int.reduceLT, Int.reduceLE, Int.reduceBEq, Int.reduceEq, Int.reduceToNat, Ce.v, Option.isSome_some, e2, t3, t6, t7, t17, t18, t19, b2, db, d0', undefV, hff]
    refine ⟨?_, ⟨fun _ _ h => h.elim, fun h => by omega⟩, GCall.of (count_dem (ht.old hold2) (fun _ => trivial) (fr : Int)) ?_⟩
    · simp only [List.not_mem_nil, or_false, false_or, and_false, false_and, false_implies, implies_true, not_false_eq_true, List.mem_singleton, List.mem_cons, and_true, true_and]
      all_goals (try and_intros)
      all_goals (intros; omega)
    rintro v g3 ⟨rfl, n3, k3⟩
    have hne : ((((spots T (fr : Int) 512).length : Nat) : Int) != ((spots T (fr : Int) 512).length : Nat)) = false := by simp
    simp -implicitDefEqProofs (disch := (first | omega | (simp -implicitDefEqProofs only [szs, ne_eq] <;> omega) | fail)) only [go_sem, Nat.reduceAdd, Nat.reduceSub, Nat.reduceMul, Nat.reduceLT, Nat.reduceMod, Nat.reduceDiv, Nat.reduceEqDiff, Nat.reduceBEq, Nat.reduceLeDiff, ↓reduceIte, reduceCtorEq, Int.reduceAdd, Int.reduceSub, Int.reduceLT, Int.reduceLE, Int.reduceBEq, Int.reduceEq, Int.reduceToNat, t3, t6, t7, t17, t18, t19, ↓hl1, hne, undefV]
    exact ⟨k - 1, by omega, by omega, fun b hb => by rw [k3 b (by omega)]; exact hold2 b hb, i + 1, by omega, by simp⟩
  · have p1 : ¬ (i : Int) < ((spots T (fr : Int) 512).length : Int) := by omega
    simp -implicitDefEqProofs (disch := (first | omega | (simp -implicitDefEqProofs only [szs, ne_eq] <;> omega) | fail)) only [go_sem, Nat.reduceAdd, Nat.reduceSub, Nat.reduceMul, Nat.reduceLT, Nat.reduceMod, Nat.reduceDiv, Nat.reduceEqDiff, Nat.reduceBEq, Nat.reduceLeDiff, ↓reduceIte, reduceCtorEq, Int.reduceAdd, Int.reduceSub, Int.reduceLT, Int.reduceLE, Int.reduceBEq, Int.reduceEq, Int.reduceToNat, ir5_l3, t3, t6, t7, t17, t18, t19, ↓hl1, p1]
    exact hk _ _ gn hold (by simp -implicitDefEqProofs (disch := (first | omega | (simp -implicitDefEqProofs only [szs, ne_eq] <;> omega) | fail)) only [go_sem, Nat.reduceAdd, Nat.reduceSub, Nat.reduceMul, Nat.reduceLT, Nat.reduceMod, Nat.reduceDiv, Nat.reduceEqDiff, Nat.reduceBEq, Nat.reduceLeDiff, ↓reduceIte, reduceCtorEq, Int.reduceAdd, Int.reduceSub, Int.reduceLT, Int.reduceLE, Int.reduceBEq, Int.reduceEq, Int.reduceToNat, t3]) (by simp -implicitDefEqProofs (disch := (first | omega | (simp -implicitDefEqProofs only [szs, ne_eq] <;> omega) | fail)) only [go_sem, Nat.reduceAdd, Nat.reduceSub, Nat.reduceMul, Nat.reduceLT, Nat.reduceMod, Nat.reduceDiv, Nat.reduceEqDiff, Nat.reduceBEq, Nat.reduceLeDiff, ↓reduceIte, reduceCtorEq, Int.reduceAdd, Int.reduceSub, Int.reduceLT, Int.reduceLE, Int.reduceBEq, Int.reduceEq, Int.reduceToNat, t6]) (by simp -implicitDefEqProofs (disch := (first | omega | (simp -implicitDefEqProofs only [szs, ne_eq] <;> omega) | fail)) only [go_sem, Nat.reduceAdd, Nat.reduceSub, Nat.reduceMul, Nat.reduceLT, Nat.reduceMod, Nat.reduceDiv, Nat.reduceEqDiff, Nat.reduceBEq, Nat.reduceLeDiff, ↓reduceIte, reduceCtorEq, Int.reduceAdd, Int.reduceSub, Int.reduceLT, Int.reduceLE, Int.reduceBEq, Int.reduceEq, Int.reduceToNat, t7]) (by simp -implicitDefEqProofs (disch := (first | omega | (simp -implicitDefEqProofs only [szs, ne_eq] <;> omega) | fail)) only [go_sem, Nat.reduceAdd, Nat.reduceSub, Nat.reduceMul, Nat.reduceLT, Nat.reduceMod, Nat.reduceDiv, Nat.reduceEqDiff, Nat.reduceBEq, Nat.reduceLeDiff, ↓reduceIte, reduceCtorEq, Int.reduceAdd, Int.reduceSub, Int.reduceLT, Int.reduceLE, Int.reduceBEq, Int.reduceEq, Int.reduceToNat, t17])
set_option maxHeartbeats 4000000 in
theorem both_law {H : Heap} {v0 : V} {m0 : Nat} {S0 : Nat → St} (hv0 : StepsV H v0 m0 S0) :
    SF ⟨Try.prog, true⟩ 5 [v0] H (fun _ => True) (WH H) fun v _ => v = .bool true := by
  refine SF.go hm Try.func5 ir5_eq ?_
  simp -implicitDefEqProofs (disch := (first | omega | (simp -implicitDefEqProofs only [szs, ne_eq] <;> omega) | fail)) only [go_sem, Nat.reduceAdd, Nat.reduceSub, Nat.reduceMul, Nat.reduceLT, Nat.reduceMod, Nat.reduceDiv, Nat.reduceEqDiff, Nat.reduceBEq, Nat.reduceLeDiff, ↓reduceIte, reduceCtorEq, Int.reduceAdd, Int.reduceSub, Int.reduceLT, Int.reduceLE, Int.reduceBEq, Int.reduceEq, Int.reduceToNat, ir5]
  refine GCall.of (known_dem (R := fun _ => True) (W := fun b => H.n ≤ b ∨ WH H b) (fun _ => trivial)).kept ?_
  rintro v g0 ⟨rfl, vf⟩
  have hold0 : ∀ b, b < H.n → g0.get b = H.get b := fun b hb => vf.get b hb (fun h => by rcases h with h | h <;> (try unfold WH at h) <;> omega)
  have hn0 := vf.n
  simp -implicitDefEqProofs (disch := (first | omega | (simp -implicitDefEqProofs only [szs, ne_eq] <;> omega) | fail)) only [go_sem, Nat.reduceAdd, Nat.reduceSub, Nat.reduceMul, Nat.reduceLT, Nat.reduceMod, Nat.reduceDiv, Nat.reduceEqDiff, Nat.reduceBEq, Nat.reduceLeDiff, ↓reduceIte, reduceCtorEq, Int.reduceAdd, Int.reduceSub, Int.reduceLT, Int.reduceLE, Int.reduceBEq, Int.reduceEq, Int.reduceToNat, undefV]
  refine GCall.of (grown_dem (hv0.old hold0) (fun _ => trivial) (fun b hb => .inl (by omega))) ?_
  rintro v g1 ⟨tb, r, rd, T, rfl, z⟩
  have hzn := z.n
  have ht := z.t
  have w := z.w
  have hlt := ht.lt
  simp -implicitDefEqProofs (disch := (first | omega | (simp -implicitDefEqProofs only [szs, ne_eq] <;> omega) | fail)) only [go_sem, Nat.reduceAdd, Nat.reduceSub, Nat.reduceMul, Nat.reduceLT, Nat.reduceMod, Nat.reduceDiv, Nat.reduceEqDiff, Nat.reduceBEq, Nat.reduceLeDiff, ↓reduceIte, reduceCtorEq, Int.reduceAdd, Int.reduceSub, Int.reduceLT, Int.reduceLE, Int.reduceBEq, Int.reduceEq, Int.reduceToNat, undefV]
  refine GLoop.inv hm (fun k f g => f.mks = [] ∧ f.tm.n = 148 ∧ f.tm.get 3 = some (.ptr (some (tb, 0))) ∧ f.tm.get 7 = some (.int .i64 0) ∧ g1.n ≤ g.n ∧ (∀ b, b < g1.n → g.get b = g1.get b) ∧ ∃ s : Nat, s + k = 16 ∧ f.tm.get 8 = some (.int .i64 s) ∧ f.tm.get 6 = some (.int .i64 (cntA T (s * 32) : Nat))) 16 ?_ ?_
  · exact ⟨rfl, rfl, by simp -implicitDefEqProofs (disch := (first | omega | (simp -implicitDefEqProofs only [szs, ne_eq] <;> omega) | fail)) only [go_sem, Nat.reduceAdd, Nat.reduceSub, Nat.reduceMul, Nat.reduceLT, Nat.reduceMod, Nat.reduceDiv, Nat.reduceEqDiff, Nat.reduceBEq, Nat.reduceLeDiff, ↓reduceIte, reduceCtorEq, Int.reduceAdd, Int.reduceSub, Int.reduceLT, Int.reduceLE, Int.reduceBEq, Int.reduceEq, Int.reduceToNat], by simp -implicitDefEqProofs (disch := (first | omega | (simp -implicitDefEqProofs only [szs, ne_eq] <;> omega) | fail)) only [go_sem, Nat.reduceAdd, Nat.reduceSub, Nat.reduceMul, Nat.reduceLT, Nat.reduceMod, Nat.reduceDiv, Nat.reduceEqDiff, Nat.reduceBEq, Nat.reduceLeDiff, ↓reduceIte, reduceCtorEq, Int.reduceAdd, Int.reduceSub, Int.reduceLT, Int.reduceLE, Int.reduceBEq, Int.reduceEq, Int.reduceToNat], Nat.le_refl _, fun _ _ => rfl, 0, by omega, by simp -implicitDefEqProofs (disch := (first | omega | (simp -implicitDefEqProofs only [szs, ne_eq] <;> omega) | fail)) only [go_sem, Nat.reduceAdd, Nat.reduceSub, Nat.reduceMul, Nat.reduceLT, Nat.reduceMod, Nat.reduceDiv, Nat.reduceEqDiff, Nat.reduceBEq, Nat.reduceLeDiff, ↓reduceIte, reduceCtorEq, Int.reduceAdd, Int.reduceSub, Int.reduceLT, Int.reduceLE, Int.reduceBEq, Int.reduceEq, Int.reduceToNat]; rfl, by simp -implicitDefEqProofs (disch := (first | omega | (simp -implicitDefEqProofs only [szs, ne_eq] <;> omega) | fail)) only [go_sem, Nat.reduceAdd, Nat.reduceSub, Nat.reduceMul, Nat.reduceLT, Nat.reduceMod, Nat.reduceDiv, Nat.reduceEqDiff, Nat.reduceBEq, Nat.reduceLeDiff, ↓reduceIte, reduceCtorEq, Int.reduceAdd, Int.reduceSub, Int.reduceLT, Int.reduceLE, Int.reduceBEq, Int.reduceEq, Int.reduceToNat]; rfl⟩
  rintro k ⟨⟨n', tr⟩, mks⟩ g ⟨hmk, hn', t3, t7, gn, hold, s, hsk, t8, t6⟩
  simp only [Tm.get_mk] at hmk hn' t3 t7 t8 t6
  subst hmk hn'
  by_cases hs : s < 16
  · have h1 : (s : Int) < 16 := by omega
    simp -implicitDefEqProofs (disch := (first | omega | (simp -implicitDefEqProofs only [szs, ne_eq] <;> omega) | fail)) only [go_sem, Nat.reduceAdd, Nat.reduceSub, Nat.reduceMul, Nat.reduceLT, Nat.reduceMod, Nat.reduceDiv, Nat.reduceEqDiff, Nat.reduceBEq, Nat.reduceLeDiff, ↓reduceIte, reduceCtorEq, Int.reduceAdd, Int.reduceSub, Int.reduceLT, Int.reduceLE, Int.reduceBEq, Int.reduceEq, Int.reduceToNat, ir5_l2, t3, t6, t7, t8, h1]
    refine both_l1 ht w (fun b hb => .inl (by omega)) hs 0 gn hold (by simp -implicitDefEqProofs (disch := (first | omega | (simp -implicitDefEqProofs only [szs, ne_eq] <;> omega) | fail)) only [go_sem, Nat.reduceAdd, Nat.reduceSub, Nat.reduceMul, Nat.reduceLT, Nat.reduceMod, Nat.reduceDiv, Nat.reduceEqDiff, Nat.reduceBEq, Nat.reduceLeDiff, ↓reduceIte, reduceCtorEq, Int.reduceAdd, Int.reduceSub, Int.reduceLT, Int.reduceLE, Int.reduceBEq, Int.reduceEq, Int.reduceToNat, t3]) (by simp -implicitDefEqProofs (disch := (first | omega | (simp -implicitDefEqProofs only [szs, ne_eq] <;> omega) | fail)) only [go_sem, Nat.reduceAdd, Nat.reduceSub, Nat.reduceMul, Nat.reduceLT, Nat.reduceMod, Nat.reduceDiv, Nat.reduceEqDiff, Nat.reduceBEq, Nat.reduceLeDiff, ↓reduceIte, reduceCtorEq, Int.reduceAdd, Int.reduceSub, Int.reduceLT, Int.reduceLE, Int.reduceBEq, Int.reduceEq, Int.reduceToNat, t6]) (by simp -implicitDefEqProofs (disch := (first | omega | (simp -implicitDefEqProofs only [szs, ne_eq] <;> omega) | fail)) only [go_sem, Nat.reduceAdd, Nat.reduceSub, Nat.reduceMul, Nat.reduceLT, Nat.reduceMod, Nat.reduceDiv, Nat.reduceEqDiff, Nat.reduceBEq, Nat.reduceLeDiff, ↓reduceIte, reduceCtorEq, Int.reduceAdd, Int.reduceSub, Int.reduceLT, Int.reduceLE, Int.reduceBEq, Int.reduceEq, Int.reduceToNat, t7]) (by simp -implicitDefEqProofs (disch := (first | omega | (simp -implicitDefEqProofs only [szs, ne_eq] <;> omega) | fail)) only [go_sem, Nat.reduceAdd, Nat.reduceSub, Nat.reduceMul, Nat.reduceLT, Nat.reduceMod, Nat.reduceDiv, Nat.reduceEqDiff, Nat.reduceBEq, Nat.reduceLeDiff, ↓reduceIte, reduceCtorEq, Int.reduceAdd, Int.reduceSub, Int.reduceLT, Int.reduceLE, Int.reduceBEq, Int.reduceEq, Int.reduceToNat, t8]) (by simp -implicitDefEqProofs (disch := (first | omega | (simp -implicitDefEqProofs only [szs, ne_eq] <;> omega) | fail)) only [go_sem, Nat.reduceAdd, Nat.reduceSub, Nat.reduceMul, Nat.reduceLT, Nat.reduceMod, Nat.reduceDiv, Nat.reduceEqDiff, Nat.reduceBEq, Nat.reduceLeDiff, ↓reduceIte, reduceCtorEq, Int.reduceAdd, Int.reduceSub, Int.reduceLT, Int.reduceLE, Int.reduceBEq, Int.reduceEq, Int.reduceToNat]) ?_
    clear t3 t6 t7 t8
    intro tr g3 n3 k3 t3 t6 t7 t8
    simp -implicitDefEqProofs (disch := (first | omega | (simp -implicitDefEqProofs only [szs, ne_eq] <;> omega) | fail)) only [go_sem, Nat.reduceAdd, Nat.reduceSub, Nat.reduceMul, Nat.reduceLT, Nat.reduceMod, Nat.reduceDiv, Nat.reduceEqDiff, Nat.reduceBEq, Nat.reduceLeDiff, ↓reduceIte, reduceCtorEq, Int.reduceAdd, Int.reduceSub, Int.reduceLT, Int.reduceLE, Int.reduceBEq, Int.reduceEq, Int.reduceToNat, t3, t6, t7, t8]
    exact ⟨k - 1, by omega, n3, k3, s + 1, by omega, by simp, by rw [show (s + 1) * 32 = s * 32 + 32 by omega]⟩
  · obtain rfl : s = 16 := by omega
    simp -implicitDefEqProofs (disch := (first | omega | (simp -implicitDefEqProofs only [szs, ne_eq] <;> omega) | fail)) only [go_sem, Nat.reduceAdd, Nat.reduceSub, Nat.reduceMul, Nat.reduceLT, Nat.reduceMod, Nat.reduceDiv, Nat.reduceEqDiff, Nat.reduceBEq, Nat.reduceLeDiff, ↓reduceIte, reduceCtorEq, Int.reduceAdd, Int.reduceSub, Int.reduceLT, Int.reduceLE, Int.reduceBEq, Int.reduceEq, Int.reduceToNat, ir5_l2, t3, t6, t7, t8]
    refine GLoop.inv hm (fun k f g => f.mks = [] ∧ f.tm.n = 148 ∧ f.tm.get 3 = some (.ptr (some (tb, 0))) ∧ f.tm.get 6 = some (.int .i64 (cntA T 512 : Nat)) ∧ g1.n ≤ g.n ∧ (∀ b, b < g1.n → g.get b = g1.get b) ∧ ∃ fr : Nat, fr + k = 256 ∧ f.tm.get 17 = some (.int .i64 fr) ∧ f.tm.get 7 = some (.int .i64 (cntF T fr 512 : Nat))) 256 ?_ ?_
    · exact ⟨rfl, rfl, by simp -implicitDefEqProofs (disch := (first | omega | (simp -implicitDefEqProofs only [szs, ne_eq] <;> omega) | fail)) only [go_sem, Nat.reduceAdd, Nat.reduceSub, Nat.reduceMul, Nat.reduceLT, Nat.reduceMod, Nat.reduceDiv, Nat.reduceEqDiff, Nat.reduceBEq, Nat.reduceLeDiff, ↓reduceIte, reduceCtorEq, Int.reduceAdd, Int.reduceSub, Int.reduceLT, Int.reduceLE, Int.reduceBEq, Int.reduceEq, Int.reduceToNat, t3], by simp -implicitDefEqProofs (disch := (first | omega | (simp -implicitDefEqProofs only [szs, ne_eq] <;> omega) | fail)) only [go_sem, Nat.reduceAdd, Nat.reduceSub, Nat.reduceMul, Nat.reduceLT, Nat.reduceMod, Nat.reduceDiv, Nat.reduceEqDiff, Nat.reduceBEq, Nat.reduceLeDiff, ↓reduceIte, reduceCtorEq, Int.reduceAdd, Int.reduceSub, Int.reduceLT, Int.reduceLE, Int.reduceBEq, Int.reduceEq, Int.reduceToNat, t6], gn, hold, 0, by omega, by simp -implicitDefEqProofs (disch := (first | omega | (simp -implicitDefEqProofs only [szs, ne_eq] <;> omega) | fail)) only [go_sem, Nat.reduceAdd, Nat.reduceSub, Nat.reduceMul, Nat.reduceLT, Nat.reduceMod, Nat.reduceDiv, Nat.reduceEqDiff, Nat.reduceBEq, Nat.reduceLeDiff, ↓reduceIte, reduceCtorEq, Int.reduceAdd, Int.reduceSub, Int.reduceLT, Int.reduceLE, Int.reduceBEq, Int.reduceEq, Int.reduceToNat]; rfl, by simp -implicitDefEqProofs (disch := (first | omega | (simp -implicitDefEqProofs only [szs, ne_eq] <;> omega) | fail)) only [go_sem, Nat.reduceAdd, Nat.reduceSub, Nat.reduceMul, Nat.reduceLT, Nat.reduceMod, Nat.reduceDiv, Nat.reduceEqDiff, Nat.reduceBEq, Nat.reduceLeDiff, ↓reduceIte, reduceCtorEq, Int.reduceAdd, Int.reduceSub, Int.reduceLT, Int.reduceLE, Int.reduceBEq, Int.reduceEq, Int.reduceToNat, t7]; rfl⟩
    clear t3 t6 t7 t8 gn hold hs hsk
    clear tr g k
    rintro k ⟨⟨n', tr⟩, mks⟩ g ⟨hmk, hn', t3, t6, gn, hold, fr, hfk, t17, t7⟩
    simp only [Tm.get_mk] at hmk hn' t3 t6 t17 t7
    subst hmk hn'
    by_cases hf : fr < 256
    · have h1 : (fr : Int) < 256 := by omega
      simp -implicitDefEqProofs (disch := (first | omega | (simp -implicitDefEqProofs only [szs, ne_eq] <;> omega) | fail)) only [go_sem, Nat.reduceAdd, Nat.reduceSub, Nat.reduceMul, Nat.reduceLT, Nat.reduceMod, Nat.reduceDiv, Nat.reduceEqDiff, Nat.reduceBEq, Nat.reduceLeDiff, ↓reduceIte, reduceCtorEq, Int.reduceAdd, Int.reduceSub, Int.reduceLT, Int.reduceLE, Int.reduceBEq, Int.reduceEq, Int.reduceToNat, ir5_l4, t3, t6, t7, t17, h1]
      refine GCall.of (where_dem (ht.old hold) (fun _ => trivial) (fr : Int)) ?_
      rintro lv g2 ⟨o2, n2, k2⟩
      have hold2 : ∀ b, b < g1.n → g2.get b = g1.get b := fun b hb => by rw [k2 b (by omega)]; exact hold b hb
      simp -implicitDefEqProofs (disch := (first | omega | (simp -implicitDefEqProofs only [szs, ne_eq] <;> omega) | fail)) only [go_sem, Nat.reduceAdd, Nat.reduceSub, Nat.reduceMul, Nat.reduceLT, Nat.reduceMod, Nat.reduceDiv, Nat.reduceEqDiff, Nat.reduceBEq, Nat.reduceLeDiff, ↓reduceIte, reduceCtorEq, Int.reduceAdd, Int.reduceSub, Int.reduceLT, Int.reduceLE, Int.reduceBEq, Int.reduceEq, Int.reduceToNat, t3, t6, t7, t17]
      refine GCall.of (count_dem (ht.old hold2) (fun _ => trivial) (fr : Int)) ?_
      rintro v g3 ⟨rfl, n3, k3⟩
      have hold3 : ∀ b, b < g1.n → g3.get b = g1.get b := fun b hb => by rw [k3 b (by omega)]; exact hold2 b hb
      have hle := cntF_le T fr 512
      have hsl := spots_len T (fr : Int) 512
      simp -implicitDefEqProofs (disch := (first | omega | (simp -implicitDefEqProofs only [szs, ne_eq] <;> omega) | fail)) only [go_sem, Nat.reduceAdd, Nat.reduceSub, Nat.reduceMul, Nat.reduceLT, Nat.reduceMod, Nat.reduceDiv, Nat.reduceEqDiff, Nat.reduceBEq, Nat.reduceLeDiff, ↓reduceIte, reduceCtorEq, Int.reduceAdd, Int.reduceSub, Int.reduceLT, Int.reduceLE, Int.reduceBEq, Int.reduceEq, Int.reduceToNat, t3, t6, t7, t17]
      refine both_l3 ((ht.old hold3)) (fun b hb => .inl (by omega)) (o2.lr.old k3) (cntA T 512 : Nat) ((cntF T fr 512 : Nat) + ((spots T (fr : Int) 512).length : Nat)) (Nat.le_refl _) (fun _ _ => rfl) (by simp -implicitDefEqProofs (disch := (first | omega | (simp -implicitDefEqProofs only [szs, ne_eq] <;> omega) | fail)) only [go_sem, Nat.reduceAdd, Nat.reduceSub, Nat.reduceMul, Nat.reduceLT, Nat.reduceMod, Nat.reduceDiv, Nat.reduceEqDiff, Nat.reduceBEq, Nat.reduceLeDiff, ↓reduceIte, reduceCtorEq, Int.reduceAdd, Int.reduceSub, Int.reduceLT, Int.reduceLE, Int.reduceBEq, Int.reduceEq, Int.reduceToNat, t3]) (by simp -implicitDefEqProofs (disch := (first | omega | (simp -implicitDefEqProofs only [szs, ne_eq] <;> omega) | fail)) only [go_sem, Nat.reduceAdd, Nat.reduceSub, Nat.reduceMul, Nat.reduceLT, Nat.reduceMod, Nat.reduceDiv, Nat.reduceEqDiff, Nat.reduceBEq, Nat.reduceLeDiff, ↓reduceIte, reduceCtorEq, Int.reduceAdd, Int.reduceSub, Int.reduceLT, Int.reduceLE, Int.reduceBEq, Int.reduceEq, Int.reduceToNat, t6]) (by simp -implicitDefEqProofs (disch := (first | omega | (simp -implicitDefEqProofs only [szs, ne_eq] <;> omega) | fail)) only [go_sem, Nat.reduceAdd, Nat.reduceSub, Nat.reduceMul, Nat.reduceLT, Nat.reduceMod, Nat.reduceDiv, Nat.reduceEqDiff, Nat.reduceBEq, Nat.reduceLeDiff, ↓reduceIte, reduceCtorEq, Int.reduceAdd, Int.reduceSub, Int.reduceLT, Int.reduceLE, Int.reduceBEq, Int.reduceEq, Int.reduceToNat]) (by simp -implicitDefEqProofs (disch := (first | omega | (simp -implicitDefEqProofs only [szs, ne_eq] <;> omega) | fail)) only [go_sem, Nat.reduceAdd, Nat.reduceSub, Nat.reduceMul, Nat.reduceLT, Nat.reduceMod, Nat.reduceDiv, Nat.reduceEqDiff, Nat.reduceBEq, Nat.reduceLeDiff, ↓reduceIte, reduceCtorEq, Int.reduceAdd, Int.reduceSub, Int.reduceLT, Int.reduceLE, Int.reduceBEq, Int.reduceEq, Int.reduceToNat, t17]) (by simp -implicitDefEqProofs (disch := (first | omega | (simp -implicitDefEqProofs only [szs, ne_eq] <;> omega) | fail)) only [go_sem, Nat.reduceAdd, Nat.reduceSub, Nat.reduceMul, Nat.reduceLT, Nat.reduceMod, Nat.reduceDiv, Nat.reduceEqDiff, Nat.reduceBEq, Nat.reduceLeDiff, ↓reduceIte, reduceCtorEq, Int.reduceAdd, Int.reduceSub, Int.reduceLT, Int.reduceLE, Int.reduceBEq, Int.reduceEq, Int.reduceToNat]) (by simp -implicitDefEqProofs (disch := (first | omega | (simp -implicitDefEqProofs only [szs, ne_eq] <;> omega) | fail)) only [go_sem, Nat.reduceAdd, Nat.reduceSub, Nat.reduceMul, Nat.reduceLT, Nat.reduceMod, Nat.reduceDiv, Nat.reduceEqDiff, Nat.reduceBEq, Nat.reduceLeDiff, ↓reduceIte, reduceCtorEq, Int.reduceAdd, Int.reduceSub, Int.reduceLT, Int.reduceLE, Int.reduceBEq, Int.reduceEq, Int.reduceToNat]) ?_
      clear t3 t6 t7 t17
      intro tr g4 n4 k4 t3 t6 t7 t17
      simp -implicitDefEqProofs (disch := (first | omega | (simp -implicitDefEqProofs only [szs, ne_eq] <;> omega) | fail)) only [go_sem, Nat.reduceAdd, Nat.reduceSub, Nat.reduceMul, Nat.reduceLT, Nat.reduceMod, Nat.reduceDiv, Nat.reduceEqDiff, Nat.reduceBEq, Nat.reduceLeDiff, ↓reduceIte, reduceCtorEq, Int.reduceAdd, Int.reduceSub, Int.reduceLT, Int.reduceLE, Int.reduceBEq, Int.reduceEq, Int.reduceToNat, t3, t6, t7, t17]
      exact ⟨k - 1, by omega, by omega, fun b hb => by rw [k4 b (by omega)]; exact hold3 b hb, fr + 1, by omega, by simp, by simp [cntF]⟩
    · obtain rfl : fr = 256 := by omega
      have hc := cnt_same w 512
      simp -implicitDefEqProofs (disch := (first | omega | (simp -implicitDefEqProofs only [szs, ne_eq] <;> omega) | fail)) only [go_sem, Nat.reduceAdd, Nat.reduceSub, Nat.reduceMul, Nat.reduceLT, Nat.reduceMod, Nat.reduceDiv, Nat.reduceEqDiff, Nat.reduceBEq, Nat.reduceLeDiff, ↓reduceIte, reduceCtorEq, Int.reduceAdd, Int.reduceSub, Int.reduceLT, Int.reduceLE, Int.reduceBEq, Int.reduceEq, Int.reduceToNat, ir5_l4, t3, t6, t7, t17]
      try rw [hc]
end Go.Proofs.Ytkfhdaimememiaa
