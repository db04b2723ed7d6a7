/- FramesPlay: stands. -/
import Derived.Test.YtfgdpgagcnelpaaRC
set_option linter.unusedVariables false
set_option linter.unusedSimpArgs false
set_option linter.unusedSimpArgs false
set_option maxRecDepth 100000
set_option linter.unusedVariables false
set_option linter.unusedSimpArgs false
namespace Go.Proofs.Ytfgdpgagcnelpaa
open Go Go.Vm
theorem used_any {h : Heap} {R W : Set'} {bp : Nat} {L : PL} {S : PS} (hp : PoolAt h bp L S) (hR : ∀ b, R b) (k : Int) :
    SF Try.prog 20 [.ptr (some (bp, 0)), .int .i64 k] h R W fun v h' => v = .int .i64 (if 0 ≤ k ∧ k < S.na then S.us k.toNat else 0) ∧ h' = h := by
  by_cases hk : 0 ≤ k ∧ k < S.na
  · rw [if_pos hk]
    obtain ⟨i, rfl⟩ := Int.eq_ofNat_of_zero_le hk.1
    exact used_ok hp (hR _) (hR _) (by omega)
  · rw [if_neg hk]
    exact used_bad hp (hR _) k hk
theorem quota_any {h : Heap} {R W : Set'} {bp : Nat} {L : PL} {S : PS} (hp : PoolAt h bp L S) (hR : ∀ b, R b) (k : Int) :
    SF Try.prog 22 [.ptr (some (bp, 0)), .int .i64 k] h R W fun v h' => v = .int .i64 (if 0 ≤ k ∧ k < S.na then S.qu k.toNat else 0) ∧ h' = h := by
  by_cases hk : 0 ≤ k ∧ k < S.na
  · rw [if_pos hk]
    obtain ⟨i, rfl⟩ := Int.eq_ofNat_of_zero_le hk.1
    exact quota_ok hp (hR _) (hR _) (by omega)
  · rw [if_neg hk]
    refine SF.go hm Try.func22 ir22_eq ?_
    simp -implicitDefEqProofs (disch := (first | omega | (simp -implicitDefEqProofs only [szs, ne_eq] <;> omega) | fail)) only [go_sem, Nat.reduceAdd, Nat.reduceSub, Nat.reduceMul, Nat.reduceLT, Nat.reduceMod, Nat.reduceDiv, Nat.reduceEqDiff, Nat.reduceBEq, Nat.reduceLeDiff, ↓reduceIte, reduceCtorEq, Int.reduceAdd, Int.reduceSub, Int.reduceLT, Int.reduceLE, Int.reduceBEq, Int.reduceEq, Int.reduceToNat, ir22]
    refine GCall.of (there_ok hp (.inr (hR _))) ?_
    rintro v h' ⟨rfl, rfl⟩
    simp -implicitDefEqProofs (disch := (first | omega | (simp -implicitDefEqProofs only [szs, ne_eq] <;> omega) | fail)) only [go_sem, Nat.reduceAdd, Nat.reduceSub, Nat.reduceMul, Nat.reduceLT, Nat.reduceMod, Nat.reduceDiv, Nat.reduceEqDiff, Nat.reduceBEq, Nat.reduceLeDiff, ↓reduceIte, reduceCtorEq, Int.reduceAdd, Int.reduceSub, Int.reduceLT, Int.reduceLE, Int.reduceBEq, Int.reduceEq, Int.reduceToNat]
    refine GCall.of (account_ok hp (.inr (hR _)) k) ?_
    rintro v h' ⟨rfl, rfl⟩
    rw [decide_eq_false hk]
    simp -implicitDefEqProofs (disch := (first | omega | (simp -implicitDefEqProofs only [szs, ne_eq] <;> omega) | fail)) only [go_sem, Nat.reduceAdd, Nat.reduceSub, Nat.reduceMul, Nat.reduceLT, Nat.reduceMod, Nat.reduceDiv, Nat.reduceEqDiff, Nat.reduceBEq, Nat.reduceLeDiff, ↓reduceIte, reduceCtorEq, Int.reduceAdd, Int.reduceSub, Int.reduceLT, Int.reduceLE, Int.reduceBEq, Int.reduceEq, Int.reduceToNat]
theorem cnt_not (p : Nat → Bool) : ∀ n, cnt (fun i => !p i) n = n - cnt p n
  | 0 => rfl
  | n + 1 => by
    simp only [cnt, cnt_not p n]
    by_cases h : p n = true
    · simp only [h]; simp; omega
    · have h : p n = false := by simpa using h
      simp only [h]; simp; omega
theorem WF.free_eq {S : PS} (w : WF S) : (S.n : Int) - sumTo S.us S.na = cnt (fun i => decide (S.ho i = 0)) S.n := by
  have h1 := cnt_all (ho := S.ho) (ow := S.ow) (na := S.na) (n := S.n) w.ow
  have h2 : sumTo S.us S.na = cnt (fun i => decide (S.ho i ≠ 0)) S.n := by rw [← h1]; exact sumTo_congr fun a ha => w.us a ha
  have h3 := cnt_not (fun i => decide (S.ho i ≠ 0)) S.n
  rw [h2, ← h3]
  refine cnt_congr fun i _ => ?_
  by_cases e : S.ho i = 0 <;> simp [e]
theorem heldI_length (S : PS) : ∀ n, ((heldI S n).length : Int) = n - cnt (fun i => decide (S.ho i = 0)) n
  | 0 => rfl
  | n + 1 => by
    simp only [heldI, List.length_append, cnt]
    have := heldI_length S n
    by_cases e : S.ho n = 0 <;> simp [e] <;> omega
theorem heldI_asc (S : PS) : ∀ n, (heldI S n).Pairwise (· < ·)
  | 0 => List.Pairwise.nil
  | n + 1 => by
    simp only [heldI]
    rw [List.pairwise_append]
    refine ⟨heldI_asc S n, by split <;> simp, fun a ha b hb => ?_⟩
    have := (heldI_lt S n a ha).1
    split at hb
    · cases hb
    · simp at hb; omega
/-- The last number that was met. -/
def lastOf (xs : List Nat) (p : Nat) : Int := if p = 0 then -1 else ((xs.getD (p - 1) 0 : Nat) : Int)
theorem lastOf_lt {xs : List Nat} (ha : xs.Pairwise (· < ·)) {p x : Nat} (hx : xs[p]? = some x) : lastOf xs p < x := by
  unfold lastOf
  obtain ⟨hp, e⟩ := List.getElem?_eq_some_iff.1 hx
  split
  · omega
  · rw [List.getD_eq_getElem?_getD, List.getElem?_eq_getElem (show p - 1 < xs.length by omega), Option.getD_some]
    have := List.pairwise_iff_getElem.1 ha (p - 1) p (by omega) hp (by omega)
    omega
theorem lastOf_succ {xs : List Nat} {p x : Nat} (hx : xs[p]? = some x) : lastOf xs (p + 1) = x := by
  unfold lastOf
  rw [if_neg (by omega), Nat.add_sub_cancel, List.getD_eq_getElem?_getD, hx]; rfl
theorem turn_heap (g : Heap) (u : Nat) : ∃ gN, ((g.push (O.cells (Blk.of [V.int IntKind.i64 0]) 3)).set g.n (O.cells ((Blk.of [V.int IntKind.i64 0]).set 0 (V.int IntKind.i64 (u : Int))) 3)).set g.n (O.cells (((Blk.of [V.int IntKind.i64 0]).set 0 (V.int IntKind.i64 (u : Int))).set 0 (V.int IntKind.i64 ((u : Int) + 1))) 3) = gN ∧ gN.n = g.n + 1 ∧ (∃ c, gN.get g.n = some (.cells c 3) ∧ c.size = 1 ∧ c.ro = false ∧ c.get 0 = .int .i64 ((u + 1 : Nat) : Int)) ∧ ∀ b, b < g.n → gN.get b = g.get b :=
  ⟨_, rfl, by simp, ⟨_, w_set_eq (by simp) rfl _, rfl, rfl, by simp -implicitDefEqProofs (disch := (first | omega | (simp -implicitDefEqProofs only [szs, ne_eq] <;> omega) | fail)) only [go_sem, Nat.reduceAdd, Nat.reduceSub, Nat.reduceMul, Nat.reduceLT, Nat.reduceMod, Nat.reduceDiv, Nat.reduceEqDiff, Nat.reduceBEq, Nat.reduceLeDiff, ↓reduceIte, reduceCtorEq, Int.reduceAdd, Int.reduceSub, Int.reduceLT, Int.reduceLE, Int.reduceBEq, Int.reduceEq, Int.reduceToNat]; simp⟩, fun b hb => by rw [w_set_ne (by simp) (by omega), w_set_ne (by simp) (by omega), w_push_ne (by omega)]⟩
set_option maxHeartbeats 2000000 in
theorem stands_l0 {g : Heap} {R W : Set'} {Q : Ex → Fr → Heap → Prop} {t : List It} {bp n0 rd x4 : Nat} {L : PL} {rl : RL} {S : PS} {bv : Nat → V} (hp : PoolAt g bp L S) (hr : RPool g n0 rd rl S bv) (w : WF S) (hR : ∀ b, R b) {tr : Tr V} {v5 v6 : V} (h4 : g.get x4 = some (.cells (Blk.of [.ptr (some (rd, 0))]) 52))
    (u0 : tr.get 0 = some (.ptr (some (bp, 0)))) (u4 : tr.get 4 = some (.ptr (some (x4, 0)))) (u5 : tr.get 5 = some v5) (u6 : tr.get 6 = some v6) (u7 : tr.get 7 = some (.int .i64 (-1)))
    (hk : ∀ tr : Tr V, tr.get 0 = some (.ptr (some (bp, 0))) → tr.get 4 = some (.ptr (some (x4, 0))) → tr.get 5 = some v5 → tr.get 6 = some v6 → resume ⟨Try.prog, true⟩ R W none Q t (.exit 0) ⟨⟨125, tr⟩, []⟩ g) :
    GLoop ⟨Try.prog, true⟩ R W none Q ir24_l0 t ⟨⟨125, tr⟩, []⟩ g := by
  refine GLoop.inv hm (fun k f g' => f.mks = [] ∧ f.tm.n = 125 ∧ f.tm.get 0 = some (.ptr (some (bp, 0))) ∧ f.tm.get 4 = some (.ptr (some (x4, 0))) ∧ f.tm.get 5 = some v5 ∧ f.tm.get 6 = some v6 ∧ g' = g ∧ ∃ i : Nat, i + k = 10 ∧ f.tm.get 7 = some (.int .i64 ((i : Int) - 1))) 10 ?_ ?_
  · exact ⟨rfl, rfl, u0, u4, u5, u6, rfl, 0, by omega, u7⟩
  clear u0 u4 u5 u6 u7
  clear tr
  rintro k ⟨⟨n', tr⟩, mks⟩ g' ⟨hmk, hn', t0, t4, t5, t6, rfl, i, hik, t7⟩
  simp only [Tm.get_mk] at hmk hn' t0 t4 t5 t6 t7
  subst hmk hn'
  by_cases hi : i < 10
  · have h1 : (i : Int) - 1 ≤ 8 := by omega
    have hne : ∀ x : Int, (x != x) = false := fun x => by simp
    have hR4 := hR x4
    simp -implicitDefEqProofs (disch := (first | omega | (simp -implicitDefEqProofs only [szs, ne_eq] <;> omega) | fail)) only [go_sem, Nat.reduceAdd, Nat.reduceSub, Nat.reduceMul, Nat.reduceLT, Nat.reduceMod, Nat.reduceDiv, Nat.reduceEqDiff, Nat.reduceBEq, Nat.reduceLeDiff, ↓reduceIte, reduceCtorEq, Int.reduceAdd, Int.reduceSub, Int.reduceLT, Int.reduceLE, Int.reduceBEq, Int.reduceEq, Int.reduceToNat, ir24_l0, t0, t4, t5, t6, t7, h1]
    refine GCallD.of (R' := fun _ => True) (W' := fun _ => False) (used_any hp (fun _ => trivial) ((i : Int) - 1)).any ?_
    rintro v g1 ⟨rfl, rfl⟩
    simp -implicitDefEqProofs (disch := (first | omega | (simp -implicitDefEqProofs only [szs, ne_eq] <;> omega) | fail)) only [go_sem, Nat.reduceAdd, Nat.reduceSub, Nat.reduceMul, Nat.reduceLT, Nat.reduceMod, Nat.reduceDiv, Nat.reduceEqDiff, Nat.reduceBEq, Nat.reduceLeDiff, ↓reduceIte, reduceCtorEq, Int.reduceAdd, Int.reduceSub, Int.reduceLT, Int.reduceLE, Int.reduceBEq, Int.reduceEq, Int.reduceToNat, t0, t4, t5, t6, t7, h4, hR4]
    refine GCallD.of (R' := fun _ => True) (W' := fun _ => False) (rused_ok hr w (fun _ => trivial) ((i : Int) - 1)).any ?_
    rintro v g2 ⟨rfl, rfl⟩
    simp -implicitDefEqProofs (disch := (first | omega | (simp -implicitDefEqProofs only [szs, ne_eq] <;> omega) | fail)) only [go_sem, Nat.reduceAdd, Nat.reduceSub, Nat.reduceMul, Nat.reduceLT, Nat.reduceMod, Nat.reduceDiv, Nat.reduceEqDiff, Nat.reduceBEq, Nat.reduceLeDiff, ↓reduceIte, reduceCtorEq, Int.reduceAdd, Int.reduceSub, Int.reduceLT, Int.reduceLE, Int.reduceBEq, Int.reduceEq, Int.reduceToNat, t0, t4, t5, t6, t7, h4, hR4, hne, undefV]
    refine GCallD.of (R' := fun _ => True) (W' := fun _ => False) (quota_any hp (fun _ => trivial) ((i : Int) - 1)).any ?_
    rintro v g1 ⟨rfl, rfl⟩
    simp -implicitDefEqProofs (disch := (first | omega | (simp -implicitDefEqProofs only [szs, ne_eq] <;> omega) | fail)) only [go_sem, Nat.reduceAdd, Nat.reduceSub, Nat.reduceMul, Nat.reduceLT, Nat.reduceMod, Nat.reduceDiv, Nat.reduceEqDiff, Nat.reduceBEq, Nat.reduceLeDiff, ↓reduceIte, reduceCtorEq, Int.reduceAdd, Int.reduceSub, Int.reduceLT, Int.reduceLE, Int.reduceBEq, Int.reduceEq, Int.reduceToNat, t0, t4, t5, t6, t7, h4, hR4, undefV]
    refine GCallD.of (R' := fun _ => True) (W' := fun _ => False) (rquota_ok hr (fun _ => trivial) ((i : Int) - 1)).any ?_
    rintro v g2 ⟨rfl, rfl⟩
    simp -implicitDefEqProofs (disch := (first | omega | (simp -implicitDefEqProofs only [szs, ne_eq] <;> omega) | fail)) only [go_sem, Nat.reduceAdd, Nat.reduceSub, Nat.reduceMul, Nat.reduceLT, Nat.reduceMod, Nat.reduceDiv, Nat.reduceEqDiff, Nat.reduceBEq, Nat.reduceLeDiff, ↓reduceIte, reduceCtorEq, Int.reduceAdd, Int.reduceSub, Int.reduceLT, Int.reduceLE, Int.reduceBEq, Int.reduceEq, Int.reduceToNat, t0, t4, t5, t6, t7, hne, undefV]
    refine ⟨?_, ⟨fun b _ _ => hR b, fun b _ h => h.elim, fun _ => hR4, fun b _ _ => hR b, fun b _ h => h.elim, fun b _ _ => hR b, fun b _ h => h.elim, fun _ => hR4, fun b _ _ => hR b, fun b _ h => h.elim⟩, k - 1, by omega, i + 1, by omega, by congr 1; omega⟩
    simp only [List.not_mem_nil, or_false, false_or, and_false, false_and, false_implies, implies_true, not_false_eq_true, List.mem_singleton, List.mem_cons, and_true, true_and]
    all_goals (try and_intros)
    all_goals (intros; omega)
  · have h1 : ¬ (i : Int) - 1 ≤ 8 := by omega
    simp -implicitDefEqProofs (disch := (first | omega | (simp -implicitDefEqProofs only [szs, ne_eq] <;> omega) | fail)) only [go_sem, Nat.reduceAdd, Nat.reduceSub, Nat.reduceMul, Nat.reduceLT, Nat.reduceMod, Nat.reduceDiv, Nat.reduceEqDiff, Nat.reduceBEq, Nat.reduceLeDiff, ↓reduceIte, reduceCtorEq, Int.reduceAdd, Int.reduceSub, Int.reduceLT, Int.reduceLE, Int.reduceBEq, Int.reduceEq, Int.reduceToNat, ir24_l0, t0, t4, t5, t6, t7, h1]
    exact hk _ (by simp -implicitDefEqProofs (disch := (first | omega | (simp -implicitDefEqProofs only [szs, ne_eq] <;> omega) | fail)) only [go_sem, Nat.reduceAdd, Nat.reduceSub, Nat.reduceMul, Nat.reduceLT, Nat.reduceMod, Nat.reduceDiv, Nat.reduceEqDiff, Nat.reduceBEq, Nat.reduceLeDiff, ↓reduceIte, reduceCtorEq, Int.reduceAdd, Int.reduceSub, Int.reduceLT, Int.reduceLE, Int.reduceBEq, Int.reduceEq, Int.reduceToNat, t0]) (by simp -implicitDefEqProofs (disch := (first | omega | (simp -implicitDefEqProofs only [szs, ne_eq] <;> omega) | fail)) only [go_sem, Nat.reduceAdd, Nat.reduceSub, Nat.reduceMul, Nat.reduceLT, Nat.reduceMod, Nat.reduceDiv, Nat.reduceEqDiff, Nat.reduceBEq, Nat.reduceLeDiff, ↓reduceIte, reduceCtorEq, Int.reduceAdd, Int.reduceSub, Int.reduceLT, Int.reduceLE, Int.reduceBEq, Int.reduceEq, Int.reduceToNat, t4]) (by simp -implicitDefEqProofs (disch := (first | omega | (simp -implicitDefEqProofs only [szs, ne_eq] <;> omega) | fail)) only [go_sem, Nat.reduceAdd, Nat.reduceSub, Nat.reduceMul, Nat.reduceLT, Nat.reduceMod, Nat.reduceDiv, Nat.reduceEqDiff, Nat.reduceBEq, Nat.reduceLeDiff, ↓reduceIte, reduceCtorEq, Int.reduceAdd, Int.reduceSub, Int.reduceLT, Int.reduceLE, Int.reduceBEq, Int.reduceEq, Int.reduceToNat, t5]) (by simp -implicitDefEqProofs (disch := (first | omega | (simp -implicitDefEqProofs only [szs, ne_eq] <;> omega) | fail)) only [go_sem, Nat.reduceAdd, Nat.reduceSub, Nat.reduceMul, Nat.reduceLT, Nat.reduceMod, Nat.reduceDiv, Nat.reduceEqDiff, Nat.reduceBEq, Nat.reduceLeDiff, ↓reduceIte, reduceCtorEq, Int.reduceAdd, Int.reduceSub, Int.reduceLT, Int.reduceLE, Int.reduceBEq, Int.reduceEq, Int.reduceToNat, t6])
end Go.Proofs.Ytfgdpgagcnelpaa
