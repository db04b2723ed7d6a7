/- CapsPlay: stands: a table stands as the document's does. -/
import Derived.Test.YtehgjkopobkbmaaP2
set_option linter.unusedVariables false
set_option linter.unusedSimpArgs false
set_option linter.unusedSimpArgs false
set_option maxRecDepth 100000
set_option linter.unusedVariables false
set_option linter.unusedSimpArgs false
namespace Go.Proofs.Ytehgjkopobkbmaa
open Go Go.Vm
open Classical
theorem iand15 (x : Int) : ∃ z : Nat, z ≤ 15 ∧ iand x 15 = (z : Int) := by
  have hle : (BitVec.ofInt 64 x &&& BitVec.ofInt 64 15).toNat ≤ 15 := by
    rw [BitVec.toNat_and]
    exact Nat.le_trans Nat.and_le_right (by decide)
  exact ⟨_, hle, by unfold iand; rw [wrap_small hle]⟩
theorem remN (i n : Nat) (h : 0 < n) : intBin .rem .i64 (i : Int) (n : Int) = some (.int .i64 ((i % n : Nat) : Int)) := by
  have h0 : ¬ (n : Int) = 0 := by omega
  show (if (n : Int) = 0 then none else some (V.int .i64 ((i : Int).tmod n))) = _
  rw [if_neg h0, Int.ofNat_tmod]
set_option maxHeartbeats 2000000 in
theorem stands_l0 {H g : Heap} {R W : Set'} {Q : Ex → Fr → Heap → Prop} {t : List It} {tb r n0 rd : Nat} {T : CS} (ht : CapAt H tb r T) (hr : RefC H n0 rd T) (w : WF T) (hR : ∀ b, R b) (leave : Int) {tr : Tr V} {mks : List Nat} (gn : H.n ≤ g.n) (hold : ∀ b, b < H.n → g.get b = H.get b)
    (u0 : tr.get 0 = some (.ptr (some (tb, 0)))) (u1 : tr.get 1 = some (.ptr (some (rd, 0)))) (u2 : tr.get 2 = some (.int .i64 leave)) (u7 : tr.get 7 = some (.int .i64 (-1)))
    (hk : ∀ (tr : Tr V) g', H.n ≤ g'.n → (∀ b, b < H.n → g'.get b = H.get b) → tr.get 0 = some (.ptr (some (tb, 0))) → tr.get 1 = some (.ptr (some (rd, 0))) → tr.get 2 = some (.int .i64 leave) → resume ⟨Try.prog, true⟩ R W none Q t (.exit 0) ⟨⟨167, tr⟩, mks⟩ g') :
    GLoop ⟨Try.prog, true⟩ R W none Q ir25_l0 t ⟨⟨167, tr⟩, mks⟩ g := by
  refine GLoop.inv hm (fun k f g => f.mks = mks ∧ f.tm.n = 167 ∧ f.tm.get 0 = some (.ptr (some (tb, 0))) ∧ f.tm.get 1 = some (.ptr (some (rd, 0))) ∧ f.tm.get 2 = some (.int .i64 leave) ∧ H.n ≤ g.n ∧ (∀ b, b < H.n → g.get b = H.get b) ∧ ∃ i : Nat, i + k = 10 ∧ f.tm.get 7 = some (.int .i64 ((i : Int) - 1))) 10 ?_ ?_
  · exact ⟨rfl, rfl, u0, u1, u2, gn, hold, 0, by omega, u7⟩
  clear u0 u1 u2 u7 gn hold
  clear g tr
  rintro k ⟨⟨n', tr⟩, mks'⟩ g ⟨hmk, hn', t0, t1, t2, gn, hold, i, hik, t7⟩
  simp only [Tm.get_mk] at hmk hn' t0 t1 t2 t7
  subst hmk hn'
  by_cases hi : i < 10
  · have hg := ht.old hold
    have hrg := hr.old gn hold
    have h1 : (i : Int) - 1 < 9 := by omega
    have hne : ∀ x : Int, (x != x) = false := fun x => by simp
    simp -implicitDefEqProofs (disch := (first | omega | (simp -implicitDefEqProofs only [szs, ne_eq] <;> omega) | fail)) only [go_sem, Nat.reduceAdd, Nat.reduceSub, Nat.reduceMul, Nat.reduceLT, Nat.reduceMod, Nat.reduceDiv, Nat.reduceEqDiff, Nat.reduceBEq, Nat.reduceLeDiff, ↓reduceIte, reduceCtorEq, Int.reduceAdd, Int.reduceSub, Int.reduceLT, Int.reduceLE, Int.reduceBEq, Int.reduceEq, Int.reduceToNat, ir25_l0, t0, t1, t2, t7, h1]
    refine GCall.of (madeP_ok hg w hR ((i : Int) - 1)).any ?_
    rintro v g1 ⟨rfl, rfl⟩
    simp -implicitDefEqProofs (disch := (first | omega | (simp -implicitDefEqProofs only [szs, ne_eq] <;> omega) | fail)) only [go_sem, Nat.reduceAdd, Nat.reduceSub, Nat.reduceMul, Nat.reduceLT, Nat.reduceMod, Nat.reduceDiv, Nat.reduceEqDiff, Nat.reduceBEq, Nat.reduceLeDiff, ↓reduceIte, reduceCtorEq, Int.reduceAdd, Int.reduceSub, Int.reduceLT, Int.reduceLE, Int.reduceBEq, Int.reduceEq, Int.reduceToNat, t0, t1, t2, t7]
    refine GCall.of (rmade_ok hrg w hR ((i : Int) - 1)).any ?_
    rintro v g2 ⟨rfl, rfl⟩
    simp -implicitDefEqProofs (disch := (first | omega | (simp -implicitDefEqProofs only [szs, ne_eq] <;> omega) | fail)) only [go_sem, Nat.reduceAdd, Nat.reduceSub, Nat.reduceMul, Nat.reduceLT, Nat.reduceMod, Nat.reduceDiv, Nat.reduceEqDiff, Nat.reduceBEq, Nat.reduceLeDiff, ↓reduceIte, reduceCtorEq, Int.reduceAdd, Int.reduceSub, Int.reduceLT, Int.reduceLE, Int.reduceBEq, Int.reduceEq, Int.reduceToNat, t0, t1, t2, t7, hne, undefV]
    refine GCall.of (goes_dem hg hrg w hR ((i : Int) - 1) leave) ?_
    rintro v g3 ⟨rfl, n3, k3⟩
    simp -implicitDefEqProofs (disch := (first | omega | (simp -implicitDefEqProofs only [szs, ne_eq] <;> omega) | fail)) only [go_sem, Nat.reduceAdd, Nat.reduceSub, Nat.reduceMul, Nat.reduceLT, Nat.reduceMod, Nat.reduceDiv, Nat.reduceEqDiff, Nat.reduceBEq, Nat.reduceLeDiff, ↓reduceIte, reduceCtorEq, Int.reduceAdd, Int.reduceSub, Int.reduceLT, Int.reduceLE, Int.reduceBEq, Int.reduceEq, Int.reduceToNat, t0, t1, t2, t7, undefV]
    exact ⟨k - 1, by omega, by omega, fun b hb => by rw [k3 b (by omega)]; exact hold b hb, i + 1, by omega, by congr 1; omega⟩
  · have h1 : ¬ (i : Int) - 1 < 9 := by omega
    simp -implicitDefEqProofs (disch := (first | omega | (simp -implicitDefEqProofs only [szs, ne_eq] <;> omega) | fail)) only [go_sem, Nat.reduceAdd, Nat.reduceSub, Nat.reduceMul, Nat.reduceLT, Nat.reduceMod, Nat.reduceDiv, Nat.reduceEqDiff, Nat.reduceBEq, Nat.reduceLeDiff, ↓reduceIte, reduceCtorEq, Int.reduceAdd, Int.reduceSub, Int.reduceLT, Int.reduceLE, Int.reduceBEq, Int.reduceEq, Int.reduceToNat, ir25_l0, t0, t1, t2, t7, h1]
    exact hk _ g gn hold (by simp -implicitDefEqProofs (disch := (first | omega | (simp -implicitDefEqProofs only [szs, ne_eq] <;> omega) | fail)) only [go_sem, Nat.reduceAdd, Nat.reduceSub, Nat.reduceMul, Nat.reduceLT, Nat.reduceMod, Nat.reduceDiv, Nat.reduceEqDiff, Nat.reduceBEq, Nat.reduceLeDiff, ↓reduceIte, reduceCtorEq, Int.reduceAdd, Int.reduceSub, Int.reduceLT, Int.reduceLE, Int.reduceBEq, Int.reduceEq, Int.reduceToNat, t0]) (by simp -implicitDefEqProofs (disch := (first | omega | (simp -implicitDefEqProofs only [szs, ne_eq] <;> omega) | fail)) only [go_sem, Nat.reduceAdd, Nat.reduceSub, Nat.reduceMul, Nat.reduceLT, Nat.reduceMod, Nat.reduceDiv, Nat.reduceEqDiff, Nat.reduceBEq, Nat.reduceLeDiff, ↓reduceIte, reduceCtorEq, Int.reduceAdd, Int.reduceSub, Int.reduceLT, Int.reduceLE, Int.reduceBEq, Int.reduceEq, Int.reduceToNat, t1]) (by simp -implicitDefEqProofs (disch := (first | omega | (simp -implicitDefEqProofs only [szs, ne_eq] <;> omega) | fail)) only [go_sem, Nat.reduceAdd, Nat.reduceSub, Nat.reduceMul, Nat.reduceLT, Nat.reduceMod, Nat.reduceDiv, Nat.reduceEqDiff, Nat.reduceBEq, Nat.reduceLeDiff, ↓reduceIte, reduceCtorEq, Int.reduceAdd, Int.reduceSub, Int.reduceLT, Int.reduceLE, Int.reduceBEq, Int.reduceEq, Int.reduceToNat, t2])
set_option maxHeartbeats 4000000 in
theorem stands_l1 {H g : Heap} {R W : Set'} {Q : Ex → Fr → Heap → Prop} {t : List It} {tb r n0 rd : Nat} {T : CS} (ht : CapAt H tb r T) (hr : RefC H n0 rd T) (w : WF T) (hR : ∀ b, R b) (hW : ∀ b, H.n ≤ b → W b) (leave : Int) {tr : Tr V} {mks : List Nat} (gn : H.n ≤ g.n) (hold : ∀ b, b < H.n → g.get b = H.get b)
    (u0 : tr.get 0 = some (.ptr (some (tb, 0)))) (u1 : tr.get 1 = some (.ptr (some (rd, 0)))) (u2 : tr.get 2 = some (.int .i64 leave)) (u8 : tr.get 8 = some (.int .i64 0))
    (hk : ∀ (tr : Tr V) g', H.n ≤ g'.n → (∀ b, b < H.n → g'.get b = H.get b) → tr.get 0 = some (.ptr (some (tb, 0))) → tr.get 1 = some (.ptr (some (rd, 0))) → resume ⟨Try.prog, true⟩ R W none Q t (.exit 2) ⟨⟨167, tr⟩, mks⟩ g') :
    GLoop ⟨Try.prog, true⟩ R W none Q ir25_l1 t ⟨⟨167, tr⟩, mks⟩ g := by
  obtain ⟨z, hz15, hz⟩ := iand15 leave
  have hwl := w.last
  have hwn := w.len
  have hlt := hr.lt
  obtain ⟨ct, lv, r1, r2, r3, r4, r5, r6⟩ := hr.t
  have hlen := r6.lr.lenV Try.underlying27
  have hRd := hR rd
  refine GLoop.inv hm (fun k f g => f.mks = mks ∧ f.tm.n = 167 ∧ f.tm.get 0 = some (.ptr (some (tb, 0))) ∧ f.tm.get 1 = some (.ptr (some (rd, 0))) ∧ f.tm.get 2 = some (.int .i64 leave) ∧ H.n ≤ g.n ∧ (∀ b, b < H.n → g.get b = H.get b) ∧ ∃ i : Nat, i + k = T.L.length ∧ f.tm.get 8 = some (.int .i64 (i : Nat))) T.L.length ?_ ?_
  · exact ⟨rfl, rfl, u0, u1, u2, gn, hold, 0, by omega, u8⟩
  clear u0 u1 u2 u8 gn hold
  clear g tr
  rintro k ⟨⟨n', tr⟩, mks'⟩ g ⟨hmk, hn', t0, t1, t2, gn, hold, i, hik, t8⟩
  simp only [Tm.get_mk] at hmk hn' t0 t1 t2 t8
  subst hmk hn'
  have r1g := (hold rd (by omega)).trans r1
  by_cases hi : i < T.L.length
  · have hcp : T.L[i]? = some (T.L[i]) := List.getElem?_eq_getElem hi
    generalize hc0 : T.L[i] = cp at hcp
    have hq : (i * 7 + z) % T.L.length < T.L.length := Nat.mod_lt _ (by omega)
    obtain ⟨q, hqe⟩ : ∃ q, (i * 7 + z) % T.L.length = q := ⟨_, rfl⟩
    rw [hqe] at hq
    have hcq : T.L[q]? = some (T.L[q]) := List.getElem?_eq_getElem hq
    generalize hd0 : T.L[q] = dp at hcq
    obtain ⟨bi, oi, capi, exi, ci, cei, rfl, hbi, i1, i2, y0, y1, y2, y3, y4, y5, y6⟩ := CapsV.get r6.lr hcp
    obtain ⟨bj, oj, capj, exj, cj, cej, hej, _, j1, j2, x0, _⟩ := CapsV.get r6.lr hcq
    cases hej
    rw [i1] at j1
    cases j1
    have hRb := hR bi
    have hbl := Heap.lt_of_get i1
    have i1g := (hold bi hbl).trans i1
    have hg := ht.old hold
    have hrg := hr.old gn hold
    have hfc : findC T.L cp.id = some cp := findC_mem w.asc (List.mem_of_getElem? hcp)
    have hfd : findC T.L dp.id = some dp := findC_mem w.asc (List.mem_of_getElem? hcq)
    have hoc : ofC T cp.id = cp := by rw [ofC, hfc]; rfl
    have hoe : ofE T cp.id = 0 := by rw [ofE, hfc]; rfl
    have hove : overE T dp.id cp.id = 0 := by rw [overE, hfd, hfc]; simp
    have hovv : overV T dp.id cp.id = decide (cp.id = dp.id ∨ Un T.L dp.id cp.id) := by rw [overV, hfd, hfc]; simp
    have heq := cap_eq cp
    have hil : (i : Int) < (T.L.length : Nat) := by omega
    have hi0 : (0 : Int) ≤ (i : Int) := by omega
    have hq0 : (0 : Int) ≤ (q : Int) := by omega
    have hql : (q : Int) < (T.L.length : Nat) := by omega
    simp -implicitDefEqProofs (disch := (first | omega | (simp -implicitDefEqProofs only [szs, ne_eq] <;> omega) | fail)) only [go_sem, Nat.reduceAdd, Nat.reduceSub, Nat.reduceMul, Nat.reduceLT, Nat.reduceMod, Nat.reduceDiv, Nat.reduceEqDiff, Nat.reduceBEq, Nat.reduceLeDiff, ↓reduceIte, reduceCtorEq, Int.reduceAdd, Int.reduceSub, Int.reduceLT, Int.reduceLE, Int.reduceBEq, Int.reduceEq, Int.reduceToNat, ir25_l1, t0, t1, t2, t8, r1g, r2, r4, hRd, hRb, i1g, i2, y0, ↓hlen, hil, hi0]
    refine GCall.of (of_ok hg (fun b _ => hR b) cp.id).any ?_
    rintro v g1 ⟨rfl, n1, k1⟩
    rw [hoc, hoe]
    obtain ⟨g2, e2, n2, ⟨sb, s0, s1, s2, q0, q1, q2, q3, q4, q5, q6⟩, k2⟩ := stC g1 cp
    have hRn := hR g1.n
    have hWn := hW g1.n (by omega)
    have h2 : ∀ b, b < H.n → g2.get b = H.get b := fun b hb => by rw [k2 b (by omega), k1 b (by omega)]; exact hold b hb
    have r12 := (h2 rd (by omega)).trans r1
    have i12 := (h2 bi hbl).trans i1
    have ht2 := ht.old h2
    have hr2 := hr.old (by omega) h2
    have hrem := remN (i * 7 + z) T.L.length (by omega)
    rw [hqe] at hrem
    have hsum : ((i * 7 + z : Nat) : Int) = (i : Int) * 7 + z := by simp
    rw [hsum] at hrem
    simp -implicitDefEqProofs (disch := (first | omega | (simp -implicitDefEqProofs only [szs, ne_eq] <;> omega) | fail)) only [go_sem, Nat.reduceAdd, Nat.reduceSub, Nat.reduceMul, Nat.reduceLT, Nat.reduceMod, Nat.reduceDiv, Nat.reduceEqDiff, Nat.reduceBEq, Nat.reduceLeDiff, ↓reduceIte, reduceCtorEq, Int.reduceAdd, Int.reduceSub, Int.reduceLT, Int.reduceLE, Int.reduceBEq, Int.reduceEq, Int.reduceToNat, Cp.v, Cp.l, e2, t0, t1, t2, t8, s0, s1, q0, q1, q2, q3, q4, q5, q6, r12, r2, r4, hRd, hRb, hRn, hWn, i12, i2, y0, y1, y2, y3, y4, y5, y6, x0, ↓hlen, ↓eg_40, heq, ↓iand_op, hz, ↓hrem, undefV, hil, hi0, hq0, hql]
    refine GCallD.of (R' := fun _ => True) (W' := fun _ => False) (over_ok ht2 w (fun _ => trivial) dp.id cp.id) ?_
    rintro v g3 ⟨rfl, n3, k3⟩
    rw [hovv, hove]
    have h3 : ∀ b, b < H.n → g3.get b = H.get b := fun b hb => by rw [k3 b (by omega)]; exact h2 b hb
    have r13 := (h3 rd (by omega)).trans r1
    have i13 := (h3 bi hbl).trans i1
    have hr3 := hr.old (by omega) h3
    simp -implicitDefEqProofs (disch := (first | omega | (simp -implicitDefEqProofs only [szs, ne_eq] <;> omega) | fail)) only [go_sem, Nat.reduceAdd, Nat.reduceSub, Nat.reduceMul, Nat.reduceLT, Nat.reduceMod, Nat.reduceDiv, Nat.reduceEqDiff, Nat.reduceBEq, Nat.reduceLeDiff, ↓reduceIte, reduceCtorEq, Int.reduceAdd, Int.reduceSub, Int.reduceLT, Int.reduceLE, Int.reduceBEq, Int.reduceEq, Int.reduceToNat, t0, t1, t2, t8, r13, r2, r4, hRd, hRb, i13, i2, y0, x0, ↓hlen, undefV, hil, hi0, hq0, hql]
    refine ⟨⟨fun b _ _ => hR b, fun b _ h => h.elim⟩, ?_⟩
    refine GCallD.of (R' := fun _ => True) (W' := fun _ => False) (rover_ok hr3 w (fun _ => trivial) dp.id cp.id) ?_
    rintro v g4 ⟨rfl, rfl⟩
    have hbb : ∀ x : Bool, (x != x) = false := fun x => by cases x <;> rfl
    simp -implicitDefEqProofs (disch := (first | omega | (simp -implicitDefEqProofs only [szs, ne_eq] <;> omega) | fail)) only [go_sem, Nat.reduceAdd, Nat.reduceSub, Nat.reduceMul, Nat.reduceLT, Nat.reduceMod, Nat.reduceDiv, Nat.reduceEqDiff, Nat.reduceBEq, Nat.reduceLeDiff, ↓reduceIte, reduceCtorEq, Int.reduceAdd, Int.reduceSub, Int.reduceLT, Int.reduceLE, Int.reduceBEq, Int.reduceEq, Int.reduceToNat, t0, t1, t2, t8, undefV, hbb]
    refine ⟨⟨fun b hb => by rcases hb with hb | hb; exact absurd hb.2 (by simp); omega, fun b hb => hb.2.elim⟩, ⟨fun _ => hR rd, fun _ => hR bi, fun _ => hR rd, fun _ => hR bi, fun b _ _ => hR b, fun b _ h => h.elim⟩, k - 1, by omega, by omega, h3, i + 1, by omega, by simp⟩
  · obtain rfl : i = T.L.length := by omega
    simp -implicitDefEqProofs (disch := (first | omega | (simp -implicitDefEqProofs only [szs, ne_eq] <;> omega) | fail)) only [go_sem, Nat.reduceAdd, Nat.reduceSub, Nat.reduceMul, Nat.reduceLT, Nat.reduceMod, Nat.reduceDiv, Nat.reduceEqDiff, Nat.reduceBEq, Nat.reduceLeDiff, ↓reduceIte, reduceCtorEq, Int.reduceAdd, Int.reduceSub, Int.reduceLT, Int.reduceLE, Int.reduceBEq, Int.reduceEq, Int.reduceToNat, ir25_l1, t0, t1, t2, t8, r1g, r2, r4, hRd, ↓hlen]
    exact hk _ g gn hold (by simp -implicitDefEqProofs (disch := (first | omega | (simp -implicitDefEqProofs only [szs, ne_eq] <;> omega) | fail)) only [go_sem, Nat.reduceAdd, Nat.reduceSub, Nat.reduceMul, Nat.reduceLT, Nat.reduceMod, Nat.reduceDiv, Nat.reduceEqDiff, Nat.reduceBEq, Nat.reduceLeDiff, ↓reduceIte, reduceCtorEq, Int.reduceAdd, Int.reduceSub, Int.reduceLT, Int.reduceLE, Int.reduceBEq, Int.reduceEq, Int.reduceToNat, t0]) (by simp -implicitDefEqProofs (disch := (first | omega | (simp -implicitDefEqProofs only [szs, ne_eq] <;> omega) | fail)) only [go_sem, Nat.reduceAdd, Nat.reduceSub, Nat.reduceMul, Nat.reduceLT, Nat.reduceMod, Nat.reduceDiv, Nat.reduceEqDiff, Nat.reduceBEq, Nat.reduceLeDiff, ↓reduceIte, reduceCtorEq, Int.reduceAdd, Int.reduceSub, Int.reduceLT, Int.reduceLE, Int.reduceBEq, Int.reduceEq, Int.reduceToNat, t1])
set_option maxHeartbeats 4000000 in
theorem stands_dem {h : Heap} {R W : Set'} {tb r n0 rd : Nat} {T : CS} (ht : CapAt h tb r T) (hr : RefC h n0 rd T) (w : WF T) (hR : ∀ b, R b) (leave : Int) :
    SF ⟨Try.prog, true⟩ 25 [.ptr (some (tb, 0)), .ptr (some (rd, 0)), .int .i64 leave] h R W fun v h' => v = .bool true ∧ h.n ≤ h'.n ∧ ∀ b, b < h.n → h'.get b = h.get b := by
  have hwl := w.last
  have hwn := w.len
  have hlt := hr.lt
  obtain ⟨ct, lv, r1, r2, r3, r4, r5, r6⟩ := hr.t
  have hlen := r6.lr.lenV Try.underlying27
  have hR0 := hR rd
  have hnone : findC T.L (T.last + 1) = none := by
    cases hf : findC T.L (T.last + 1) with
    | none => rfl
    | some x =>
      obtain ⟨hx, hk⟩ := findC_some hf
      have := (w.ids x hx).2
      omega
  have hoe : ofE T (T.last + 1) = 6 := by rw [ofE, hnone]; rfl
  have hove : overE T (T.last + 1) (T.last + 1) = 6 := by rw [overE, hnone]; simp
  refine SF.go hm Try.func25 ir25_eq ?_
  simp -implicitDefEqProofs (disch := (first | omega | (simp -implicitDefEqProofs only [szs, ne_eq] <;> omega) | fail)) only [go_sem, Nat.reduceAdd, Nat.reduceSub, Nat.reduceMul, Nat.reduceLT, Nat.reduceMod, Nat.reduceDiv, Nat.reduceEqDiff, Nat.reduceBEq, Nat.reduceLeDiff, ↓reduceIte, reduceCtorEq, Int.reduceAdd, Int.reduceSub, Int.reduceLT, Int.reduceLE, Int.reduceBEq, Int.reduceEq, Int.reduceToNat, ir25]
  refine GCallD.of (R' := fun _ => True) (W' := fun _ => False) (len_ok ht w (fun _ => trivial)) ?_
  rintro v h1 ⟨rfl, rfl⟩
  have hne : ∀ x : Int, (x != x) = false := fun x => by simp
  simp -implicitDefEqProofs (disch := (first | omega | (simp -implicitDefEqProofs only [szs, ne_eq] <;> omega) | fail)) only [go_sem, Nat.reduceAdd, Nat.reduceSub, Nat.reduceMul, Nat.reduceLT, Nat.reduceMod, Nat.reduceDiv, Nat.reduceEqDiff, Nat.reduceBEq, Nat.reduceLeDiff, ↓reduceIte, reduceCtorEq, Int.reduceAdd, Int.reduceSub, Int.reduceLT, Int.reduceLE, Int.reduceBEq, Int.reduceEq, Int.reduceToNat, r1, r2, r4, hR0, ↓hlen, hne]
  refine ⟨?_, ⟨fun b _ _ => .inr (hR b), fun b _ h => h.elim⟩, ?_⟩
  · simp only [List.not_mem_nil, or_false, false_or, and_false, false_and, false_implies, implies_true, not_false_eq_true, List.mem_singleton, List.mem_cons, and_true, true_and]
    all_goals (try and_intros)
    all_goals (intros; omega)
  refine stands_l0 (H := h1) ht hr w (fun b => .inr (hR b)) leave (Nat.le_refl _) (fun _ _ => rfl) (by simp -implicitDefEqProofs (disch := (first | omega | (simp -implicitDefEqProofs only [szs, ne_eq] <;> omega) | fail)) only [go_sem, Nat.reduceAdd, Nat.reduceSub, Nat.reduceMul, Nat.reduceLT, Nat.reduceMod, Nat.reduceDiv, Nat.reduceEqDiff, Nat.reduceBEq, Nat.reduceLeDiff, ↓reduceIte, reduceCtorEq, Int.reduceAdd, Int.reduceSub, Int.reduceLT, Int.reduceLE, Int.reduceBEq, Int.reduceEq, Int.reduceToNat]) (by simp -implicitDefEqProofs (disch := (first | omega | (simp -implicitDefEqProofs only [szs, ne_eq] <;> omega) | fail)) only [go_sem, Nat.reduceAdd, Nat.reduceSub, Nat.reduceMul, Nat.reduceLT, Nat.reduceMod, Nat.reduceDiv, Nat.reduceEqDiff, Nat.reduceBEq, Nat.reduceLeDiff, ↓reduceIte, reduceCtorEq, Int.reduceAdd, Int.reduceSub, Int.reduceLT, Int.reduceLE, Int.reduceBEq, Int.reduceEq, Int.reduceToNat]) (by simp -implicitDefEqProofs (disch := (first | omega | (simp -implicitDefEqProofs only [szs, ne_eq] <;> omega) | fail)) only [go_sem, Nat.reduceAdd, Nat.reduceSub, Nat.reduceMul, Nat.reduceLT, Nat.reduceMod, Nat.reduceDiv, Nat.reduceEqDiff, Nat.reduceBEq, Nat.reduceLeDiff, ↓reduceIte, reduceCtorEq, Int.reduceAdd, Int.reduceSub, Int.reduceLT, Int.reduceLE, Int.reduceBEq, Int.reduceEq, Int.reduceToNat]) (by simp -implicitDefEqProofs (disch := (first | omega | (simp -implicitDefEqProofs only [szs, ne_eq] <;> omega) | fail)) only [go_sem, Nat.reduceAdd, Nat.reduceSub, Nat.reduceMul, Nat.reduceLT, Nat.reduceMod, Nat.reduceDiv, Nat.reduceEqDiff, Nat.reduceBEq, Nat.reduceLeDiff, ↓reduceIte, reduceCtorEq, Int.reduceAdd, Int.reduceSub, Int.reduceLT, Int.reduceLE, Int.reduceBEq, Int.reduceEq, Int.reduceToNat]) ?_
  intro tr g gn hold t0 t1 t2
  simp -implicitDefEqProofs (disch := (first | omega | (simp -implicitDefEqProofs only [szs, ne_eq] <;> omega) | fail)) only [go_sem, Nat.reduceAdd, Nat.reduceSub, Nat.reduceMul, Nat.reduceLT, Nat.reduceMod, Nat.reduceDiv, Nat.reduceEqDiff, Nat.reduceBEq, Nat.reduceLeDiff, ↓reduceIte, reduceCtorEq, Int.reduceAdd, Int.reduceSub, Int.reduceLT, Int.reduceLE, Int.reduceBEq, Int.reduceEq, Int.reduceToNat, t0, t1, t2]
  refine stands_l1 (H := h1) ht hr w (fun b => .inr (hR b)) (fun b hb => .inl hb) leave gn hold (by simp -implicitDefEqProofs (disch := (first | omega | (simp -implicitDefEqProofs only [szs, ne_eq] <;> omega) | fail)) only [go_sem, Nat.reduceAdd, Nat.reduceSub, Nat.reduceMul, Nat.reduceLT, Nat.reduceMod, Nat.reduceDiv, Nat.reduceEqDiff, Nat.reduceBEq, Nat.reduceLeDiff, ↓reduceIte, reduceCtorEq, Int.reduceAdd, Int.reduceSub, Int.reduceLT, Int.reduceLE, Int.reduceBEq, Int.reduceEq, Int.reduceToNat, t0]) (by simp -implicitDefEqProofs (disch := (first | omega | (simp -implicitDefEqProofs only [szs, ne_eq] <;> omega) | fail)) only [go_sem, Nat.reduceAdd, Nat.reduceSub, Nat.reduceMul, Nat.reduceLT, Nat.reduceMod, Nat.reduceDiv, Nat.reduceEqDiff, Nat.reduceBEq, Nat.reduceLeDiff, ↓reduceIte, reduceCtorEq, Int.reduceAdd, Int.reduceSub, Int.reduceLT, Int.reduceLE, Int.reduceBEq, Int.reduceEq, Int.reduceToNat, t1]) (by simp -implicitDefEqProofs (disch := (first | omega | (simp -implicitDefEqProofs only [szs, ne_eq] <;> omega) | fail)) only [go_sem, Nat.reduceAdd, Nat.reduceSub, Nat.reduceMul, Nat.reduceLT, Nat.reduceMod, Nat.reduceDiv, Nat.reduceEqDiff, Nat.reduceBEq, Nat.reduceLeDiff, ↓reduceIte, reduceCtorEq, Int.reduceAdd, Int.reduceSub, Int.reduceLT, Int.reduceLE, Int.reduceBEq, Int.reduceEq, Int.reduceToNat, t2]) (by simp -implicitDefEqProofs (disch := (first | omega | (simp -implicitDefEqProofs only [szs, ne_eq] <;> omega) | fail)) only [go_sem, Nat.reduceAdd, Nat.reduceSub, Nat.reduceMul, Nat.reduceLT, Nat.reduceMod, Nat.reduceDiv, Nat.reduceEqDiff, Nat.reduceBEq, Nat.reduceLeDiff, ↓reduceIte, reduceCtorEq, Int.reduceAdd, Int.reduceSub, Int.reduceLT, Int.reduceLE, Int.reduceBEq, Int.reduceEq, Int.reduceToNat]) ?_
  clear t0 t1 t2 gn hold
  clear tr g
  intro tr g gn hold t0 t1
  have r1g := (hold rd (by omega)).trans r1
  simp -implicitDefEqProofs (disch := (first | omega | (simp -implicitDefEqProofs only [szs, ne_eq] <;> omega) | fail)) only [go_sem, Nat.reduceAdd, Nat.reduceSub, Nat.reduceMul, Nat.reduceLT, Nat.reduceMod, Nat.reduceDiv, Nat.reduceEqDiff, Nat.reduceBEq, Nat.reduceLeDiff, ↓reduceIte, reduceCtorEq, Int.reduceAdd, Int.reduceSub, Int.reduceLT, Int.reduceLE, Int.reduceBEq, Int.reduceEq, Int.reduceToNat, t0, t1, r1g, r2, r5, hR0]
  refine GCall.of (of_ok (ht.old hold) (fun b _ => .inr (hR b)) (T.last + 1)).any ?_
  rintro v g1 ⟨rfl, n1, k1⟩
  rw [hoe]
  obtain ⟨g2, e2, n2, _, k2⟩ := stC g1 (ofC T (T.last + 1))
  have h2 : ∀ b, b < h1.n → g2.get b = h1.get b := fun b hb => by rw [k2 b (by omega), k1 b (by omega)]; exact hold b hb
  have r12 := (h2 rd (by omega)).trans r1
  simp -implicitDefEqProofs (disch := (first | omega | (simp -implicitDefEqProofs only [szs, ne_eq] <;> omega) | fail)) only [go_sem, Nat.reduceAdd, Nat.reduceSub, Nat.reduceMul, Nat.reduceLT, Nat.reduceMod, Nat.reduceDiv, Nat.reduceEqDiff, Nat.reduceBEq, Nat.reduceLeDiff, ↓reduceIte, reduceCtorEq, Int.reduceAdd, Int.reduceSub, Int.reduceLT, Int.reduceLE, Int.reduceBEq, Int.reduceEq, Int.reduceToNat, Cp.v, Cp.l, e2, t0, t1, r12, r2, r5, hR0]
  refine ⟨.inl (by omega), ?_⟩
  refine GCallD.of (R' := fun _ => True) (W' := fun _ => False) (over_ok (ht.old h2) w (fun _ => trivial) (T.last + 1) (T.last + 1)) ?_
  rintro v g3 ⟨rfl, n3, k3⟩
  rw [hove]
  simp -implicitDefEqProofs (disch := (first | omega | (simp -implicitDefEqProofs only [szs, ne_eq] <;> omega) | fail)) only [go_sem, Nat.reduceAdd, Nat.reduceSub, Nat.reduceMul, Nat.reduceLT, Nat.reduceMod, Nat.reduceDiv, Nat.reduceEqDiff, Nat.reduceBEq, Nat.reduceLeDiff, ↓reduceIte, reduceCtorEq, Int.reduceAdd, Int.reduceSub, Int.reduceLT, Int.reduceLE, Int.reduceBEq, Int.reduceEq, Int.reduceToNat, t0, t1, undefV]
  exact ⟨⟨fun _ => .inr (hR rd), fun _ => .inr (hR rd), fun b _ _ => .inr (hR b), fun b _ h => h.elim⟩, by omega, fun b hb => by rw [k3 b (by omega)]; exact h2 b hb⟩
end Go.Proofs.Ytehgjkopobkbmaa
