/- PortsOrder: the law. -/
import Derived.Test.YtmimialblhlklaaG7
set_option linter.unusedVariables false
set_option linter.unusedSimpArgs false
set_option linter.unusedSimpArgs false
set_option maxRecDepth 100000
set_option linter.unusedVariables false
set_option linter.unusedSimpArgs false
namespace Go.Proofs.Ytmimialblhlklaa
open Go Go.Vm
variable {R W : Set'}
def OS9 (hb g : Heap) (pp : Nat) (v12 v13 : V) (r : Nat) : Prop := ∃ M X came got, PX g M pp [1] (one X) ∧ (∀ k, M k → hb.n ≤ k) ∧ OwnS 1 hb.n g v12 came.length (strV came) 9 ∧ OwnS 1 hb.n g v13 got.length (strV got) 9 ∧ Dis v12 v13 ∧ ¬ M (sblk v12) ∧ ¬ M (sblk v13) ∧ came = got ++ X.ring.map strB ∧ came.length ≤ 100 ∧ X.ring.length + r ≤ 9 ∧ hb.n ≤ g.n ∧ ∀ k, k < hb.n → g.get k = hb.get k
set_option maxHeartbeats 4000000 in
theorem order_l1 {Q : Ex → Fr → Heap → Prop} {t : List It} {hb g0 : Heap} {pp : Nat} {u12 u13 : V} {tr0 : Tr V} (h0 : 0 < hb.n) (hR : ∀ b, R b) (hW : ∀ b, hb.n ≤ b → W b)
    (t7 : tr0.get 7 = some (.ptr (some (pp, 0)))) (t12 : tr0.get 12 = some u12) (t13 : tr0.get 13 = some u13) (t19 : tr0.get 19 = some (.int .i64 0)) (hs : OS9 hb g0 pp u12 u13 0)
    (hk : ∀ tr g v12 v13, tr.get 12 = some v12 → tr.get 13 = some v13 → OS9 hb g pp v12 v13 9 → resume ⟨Try.prog, true⟩ R W none Q t (.exit 2) ⟨⟨163, tr⟩, []⟩ g) : GLoop ⟨Try.prog, true⟩ R W none Q ir3_l1 t ⟨⟨163, tr0⟩, []⟩ g0 := by
  refine GLoop.inv hm (fun k f g => f.mks = [] ∧ f.tm.n = 163 ∧ f.tm.get 7 = some (.ptr (some (pp, 0))) ∧ ∃ (i : Nat) (v12 v13 : V), i + k = 9 ∧ f.tm.get 12 = some v12 ∧ f.tm.get 13 = some v13 ∧ f.tm.get 19 = some (.int .i64 (i : Int)) ∧ OS9 hb g pp v12 v13 i) 9 ?_ ?_
  · exact ⟨rfl, rfl, t7, 0, u12, u13, by omega, t12, t13, t19, hs⟩
  clear t7 t12 t13 t19 hs
  rintro k ⟨⟨n', tr⟩, mks⟩ g ⟨hmk, hn', t7, i, v12, v13, hik, t12, t13, t19, hs⟩
  simp only [Tm.get_mk] at hmk hn' t7 t12 t13 t19
  subst hmk hn'
  by_cases hi : i < 9
  rotate_left
  · obtain rfl : i = 9 := by omega
    have hz : ¬ ((9 : Nat) : Int) < 9 := by decide
    simp -implicitDefEqProofs (disch := (first | omega | (simp -implicitDefEqProofs only [szs, ne_eq] <;> omega) | fail)) only [go_sem, Nat.reduceAdd, Nat.reduceSub, Nat.reduceMul, Nat.reduceLT, Nat.reduceMod, Nat.reduceDiv, Nat.reduceEqDiff, Nat.reduceBEq, Nat.reduceLeDiff, ↓reduceIte, reduceCtorEq, Int.reduceAdd, Int.reduceSub, Int.reduceLT, Int.reduceLE, Int.reduceBEq, Int.reduceEq, Int.reduceToNat, ir3_l1, undefV, t7, t12, t13, t19, hz]
    exact hk _ g v12 v13 (by simp -implicitDefEqProofs (disch := (first | omega | (simp -implicitDefEqProofs only [szs, ne_eq] <;> omega) | fail)) only [go_sem, Nat.reduceAdd, Nat.reduceSub, Nat.reduceMul, Nat.reduceLT, Nat.reduceMod, Nat.reduceDiv, Nat.reduceEqDiff, Nat.reduceBEq, Nat.reduceLeDiff, ↓reduceIte, reduceCtorEq, Int.reduceAdd, Int.reduceSub, Int.reduceLT, Int.reduceLE, Int.reduceBEq, Int.reduceEq, Int.reduceToNat, t12]) (by simp -implicitDefEqProofs (disch := (first | omega | (simp -implicitDefEqProofs only [szs, ne_eq] <;> omega) | fail)) only [go_sem, Nat.reduceAdd, Nat.reduceSub, Nat.reduceMul, Nat.reduceLT, Nat.reduceMod, Nat.reduceDiv, Nat.reduceEqDiff, Nat.reduceBEq, Nat.reduceLeDiff, ↓reduceIte, reduceCtorEq, Int.reduceAdd, Int.reduceSub, Int.reduceLT, Int.reduceLE, Int.reduceBEq, Int.reduceEq, Int.reduceToNat, t13]) hs
  have hz : (i : Int) < 9 := by omega
  obtain ⟨M, X, came, got, hx, hM, h12, h13, hd, n12, n13, hcm, hcl, hr9, hn, hold⟩ := id hs
  simp -implicitDefEqProofs (disch := (first | omega | (simp -implicitDefEqProofs only [szs, ne_eq] <;> omega) | fail)) only [go_sem, Nat.reduceAdd, Nat.reduceSub, Nat.reduceMul, Nat.reduceLT, Nat.reduceMod, Nat.reduceDiv, Nat.reduceEqDiff, Nat.reduceBEq, Nat.reduceLeDiff, ↓reduceIte, reduceCtorEq, Int.reduceAdd, Int.reduceSub, Int.reduceLT, Int.reduceLE, Int.reduceBEq, Int.reduceEq, Int.reduceToNat, ir3_l1, undefV, t7, t12, t13, t19, hz]
  refine GCall.of (take_px hx hR (fun b hb => hW b (hM b hb)) 0 0) ?_
  rintro r g2 ⟨hq, s, rfl, hos, _⟩
  obtain ⟨M2, hx2, hM2, j12, j13, m12, m13, hn2, hold2⟩ := OS.call h0 hM h12 h13 n12 n13 hn hold hq
  rcases take_one X with ⟨hr, ht, he⟩ | ⟨l, tl, hr, ht, he, hB⟩
  · rw [ht] at hx2
    rw [he]
    simp -implicitDefEqProofs (disch := (first | omega | (simp -implicitDefEqProofs only [szs, ne_eq] <;> omega) | fail)) only [go_sem, Nat.reduceAdd, Nat.reduceSub, Nat.reduceMul, Nat.reduceLT, Nat.reduceMod, Nat.reduceDiv, Nat.reduceEqDiff, Nat.reduceBEq, Nat.reduceLeDiff, ↓reduceIte, reduceCtorEq, Int.reduceAdd, Int.reduceSub, Int.reduceLT, Int.reduceLE, Int.reduceBEq, Int.reduceEq, Int.reduceToNat, undefV]
    refine GCall.of (num_ok _).any ?_
    rintro r g2 ⟨rfl, rfl⟩
    simp -implicitDefEqProofs (disch := (first | omega | (simp -implicitDefEqProofs only [szs, ne_eq] <;> omega) | fail)) only [go_sem, Nat.reduceAdd, Nat.reduceSub, Nat.reduceMul, Nat.reduceLT, Nat.reduceMod, Nat.reduceDiv, Nat.reduceEqDiff, Nat.reduceBEq, Nat.reduceLeDiff, ↓reduceIte, reduceCtorEq, Int.reduceAdd, Int.reduceSub, Int.reduceLT, Int.reduceLE, Int.reduceBEq, Int.reduceEq, Int.reduceToNat, undefV, t7, t12, t13, t19]
    exact ⟨k - 1, by omega, i + 1, v12, v13, by omega, rfl, rfl, by simp, M2, X, came, got, hx2, hM2, j12, j13, hd, m12, m13, hcm, hcl, by rw [hr]; simp; omega, hn2, hold2⟩
  · rw [ht] at hx2
    rw [hB] at hos
    rw [he]
    simp -implicitDefEqProofs (disch := (first | omega | (simp -implicitDefEqProofs only [szs, ne_eq] <;> omega) | fail)) only [go_sem, Nat.reduceAdd, Nat.reduceSub, Nat.reduceMul, Nat.reduceLT, Nat.reduceMod, Nat.reduceDiv, Nat.reduceEqDiff, Nat.reduceBEq, Nat.reduceLeDiff, ↓reduceIte, reduceCtorEq, Int.reduceAdd, Int.reduceSub, Int.reduceLT, Int.reduceLE, Int.reduceBEq, Int.reduceEq, Int.reduceToNat, undefV]
    refine GCall.of (num_ok _).any ?_
    rintro r g2 ⟨rfl, rfl⟩
    have hby : Byt l := ((hx.fit 0 0 X rfl).2 l (by rw [hr]; simp)).1
    obtain ⟨rs, hcv⟩ := conv_lr hos.lr hby
    have hrs : allB R rs := allB_of fun b _ => hR b
    have hgl : got.length ≤ came.length := by rw [hcm, List.length_append]; omega
    obtain ⟨v', g3, r3, w3, hap, hn3, o1, o2, d2, hb13, hw3, hk3⟩ := app_str (s := strB l) j13 j12 hd.symm h0 hn2 (by omega)
    have hr3 : allB R r3 := allB_of fun b _ => hR b
    have hw3' : allB W w3 := allB_of fun b h => hW b (hw3 b h)
    simp -implicitDefEqProofs (disch := (first | omega | (simp -implicitDefEqProofs only [szs, ne_eq] <;> omega) | fail)) only [go_sem, Nat.reduceAdd, Nat.reduceSub, Nat.reduceMul, Nat.reduceLT, Nat.reduceMod, Nat.reduceDiv, Nat.reduceEqDiff, Nat.reduceBEq, Nat.reduceLeDiff, ↓reduceIte, reduceCtorEq, Int.reduceAdd, Int.reduceSub, Int.reduceLT, Int.reduceLE, Int.reduceBEq, Int.reduceEq, Int.reduceToNat, undefV, t7, t12, t13, t19, ↓cvS, hcv, hrs, appendV_of ap_35, hap, hr3, hw3']
    refine ⟨k - 1, by omega, i + 1, v12, v', by omega, rfl, rfl, by simp, M2, { X with ring := tl }, came, got ++ [strB l], hx2.same hn3 fun k h => hk3 k (hx2.lt k h) (.inr fun e => m13 (e ▸ h)), hM2, o2, ?_, d2.symm, m12, ?_, ?_, hcl, ?_, by omega, fun k h => by rw [hk3 k (by omega) (.inl h)]; exact hold2 k h⟩
    · rw [List.length_append, strV_snoc]; exact o1
    · rcases hb13 with h | h
      · rw [h]; exact m13
      · exact fun h2 => by have := hx2.lt _ h2; omega
    · rw [hcm, hr]; simp
    · rw [hr] at hr9; simp at hr9 ⊢; omega
set_option maxHeartbeats 4000000 in
theorem order_l2 {Q : Ex → Fr → Heap → Prop} {t : List It} {g : Heap} {n1 n2 : Nat} {v12 v13 : V} {tr0 : Tr V} {came : List ByteArray} (h12 : OwnS 1 n1 g v12 came.length (strV came) 9) (h13 : OwnS 1 n2 g v13 came.length (strV came) 9) (hc : came.length ≤ 1000) (hR : ∀ b, R b)
    (t12 : tr0.get 12 = some v12) (t13 : tr0.get 13 = some v13) (t22 : tr0.get 22 = some (.int .i64 0))
    (hk : ∀ tr, resume ⟨Try.prog, true⟩ R W none Q t (.exit 4) ⟨⟨163, tr⟩, []⟩ g) : GLoop ⟨Try.prog, true⟩ R W none Q ir3_l2 t ⟨⟨163, tr0⟩, []⟩ g := by
  have hl := h12.lrf.lenV Try.underlying35
  refine GLoop.inv hm (fun k f g' => f.mks = [] ∧ f.tm.n = 163 ∧ f.tm.get 12 = some v12 ∧ f.tm.get 13 = some v13 ∧ g' = g ∧ ∃ (i : Nat), i + k = came.length ∧ f.tm.get 22 = some (.int .i64 (i : Int))) came.length ?_ ?_
  · exact ⟨rfl, rfl, t12, t13, rfl, 0, by omega, t22⟩
  clear t12 t13 t22
  rintro k ⟨⟨n', tr⟩, mks⟩ g' ⟨hmk, hn', t12, t13, rfl, i, hik, t22⟩
  simp only [Tm.get_mk] at hmk hn' t12 t13 t22
  subst hmk hn'
  by_cases hi : i < came.length
  rotate_left
  · have hz : ¬ (i : Int) < (came.length : Int) := by omega
    simp -implicitDefEqProofs (disch := (first | omega | (simp -implicitDefEqProofs only [szs, ne_eq] <;> omega) | fail)) only [go_sem, Nat.reduceAdd, Nat.reduceSub, Nat.reduceMul, Nat.reduceLT, Nat.reduceMod, Nat.reduceDiv, Nat.reduceEqDiff, Nat.reduceBEq, Nat.reduceLeDiff, ↓reduceIte, reduceCtorEq, Int.reduceAdd, Int.reduceSub, Int.reduceLT, Int.reduceLE, Int.reduceBEq, Int.reduceEq, Int.reduceToNat, ir3_l2, undefV, t12, t13, t22, ↓hl, hz]
    exact hk _
  have hz : (i : Int) < (came.length : Int) := by omega
  have hi0 : (0 : Int) ≤ (i : Int) := by omega
  obtain ⟨b1, o1, cap1, ex1, c1, ce1, rfl, _, i1, j1, l1⟩ := LRs.get h12.lrf (by omega)
  obtain ⟨b2, o2, cap2, ex2, c2, ce2, rfl, _, i2, j2, l2⟩ := LRs.get h13.lrf (by omega)
  have hR1 := hR b1
  have hR2 := hR b2
  have gi : (strV came).getD i undefV = .str came[i] := by simp [strV, hi]
  have l1i := l1 i (by omega); rw [gi] at l1i
  have l2i := l2 i (by omega); rw [gi] at l2i
  have hsb := sb_neq came[i] came[i]
  rw [decide_eq_true rfl] at hsb
  simp -implicitDefEqProofs (disch := (first | omega | (simp -implicitDefEqProofs only [szs, ne_eq] <;> omega) | fail)) only [go_sem, Nat.reduceAdd, Nat.reduceSub, Nat.reduceMul, Nat.reduceLT, Nat.reduceMod, Nat.reduceDiv, Nat.reduceEqDiff, Nat.reduceBEq, Nat.reduceLeDiff, ↓reduceIte, reduceCtorEq, Int.reduceAdd, Int.reduceSub, Int.reduceLT, Int.reduceLE, Int.reduceBEq, Int.reduceEq, Int.reduceToNat, ir3_l2, undefV, t12, t13, t22, ↓hl, hz, hi0, i1, j1, l1i, i2, j2, l2i, hR1, hR2, hsb, Bool.not_true]
  exact ⟨k - 1, by omega, i + 1, by omega, by simp⟩
end Go.Proofs.Ytmimialblhlklaa
