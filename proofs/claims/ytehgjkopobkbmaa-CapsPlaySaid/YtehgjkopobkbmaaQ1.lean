/- The document's table: where it lies; Find, Made, account, rights, subset, mine, Over. -/
import Derived.Test.YtehgjkopobkbmaaKO
set_option linter.unusedVariables false
set_option linter.unusedSimpArgs false
set_option linter.unusedSimpArgs false
set_option maxRecDepth 100000
set_option linter.unusedVariables false
set_option linter.unusedSimpArgs false
namespace Go.Proofs.Ytehgjkopobkbmaa
open Go Go.Vm
open Classical
structure RefC (h : Heap) (n0 rd : Nat) (T : CS) : Prop where
  lt : rd < h.n ∧ n0 ≤ h.n
  t : ∃ c lv, h.get rd = some (.cells c 29) ∧ c.size = 2 ∧ c.ro = false ∧ c.get 0 = lv ∧ c.get 1 = .int .i64 T.last ∧ OwnS 7 n0 h lv T.L.length (flatC T.L) 40
theorem RefC.same {h h' : Heap} {n0 rd : Nat} {T : CS} (hr : RefC h n0 rd T) (hn : h.n ≤ h'.n) (hk : ∀ b, b = rd ∨ n0 ≤ b → b < h.n → h'.get b = h.get b) : RefC h' n0 rd T := by
  obtain ⟨h1, c, lv, r1, r2, r3, r4, r5, r6⟩ := hr
  exact ⟨⟨by omega, by omega⟩, c, lv, by rw [hk rd (.inl rfl) (by omega)]; exact r1, r2, r3, r4, r5, r6.keep fun b c hb hb0 => by rw [hk b (.inr hb0) (Heap.lt_of_get hb)]; exact hb⟩
theorem RefC.old {h h' : Heap} {n0 rd : Nat} {T : CS} (hr : RefC h n0 rd T) (hn : h.n ≤ h'.n) (hk : ∀ b, b < h.n → h'.get b = h.get b) : RefC h' n0 rd T := hr.same hn fun b _ hb => hk b hb
set_option maxHeartbeats 1000000 in
theorem find_ok {h : Heap} {R W : Set'} {n0 rd : Nat} {T : CS} (hr : RefC h n0 rd T) (w : WF T) (hR : ∀ b, R b) (key : Int) :
    SF Try.prog 51 [.ptr (some (rd, 0)), .int .i64 key] h R W fun v h' => ((∃ (p : Nat) (c : Cp), v = .int .i64 (p : Int) ∧ T.L[p]? = some c ∧ findC T.L key = some c) ∨ v = .int .i64 (-1) ∧ findC T.L key = none) ∧ h' = h := by
  obtain ⟨c, lv, r1, r2, r3, r4, r5, r6⟩ := hr.t
  have hlen := r6.lr.lenV Try.underlying27
  have hR0 := hR rd
  have hwl := w.last
  have hwn := w.len
  refine SF.go hm Try.func51 ir51_eq ?_
  simp -implicitDefEqProofs (disch := (first | omega | (simp -implicitDefEqProofs only [szs, ne_eq] <;> omega) | fail)) only [go_sem, Nat.reduceAdd, Nat.reduceSub, Nat.reduceMul, Nat.reduceLT, Nat.reduceMod, Nat.reduceDiv, Nat.reduceEqDiff, Nat.reduceBEq, Nat.reduceLeDiff, ↓reduceIte, reduceCtorEq, Int.reduceAdd, Int.reduceSub, Int.reduceLT, Int.reduceLE, Int.reduceBEq, Int.reduceEq, Int.reduceToNat, ir51]
  refine GLoop.inv hm (fun k f g => f.mks = [] ∧ f.tm.n = 26 ∧ f.tm.get 0 = some (.ptr (some (rd, 0))) ∧ f.tm.get 1 = some (.int .i64 key) ∧ g = h ∧ ∃ p : Nat, p + k = T.L.length ∧ f.tm.get 5 = some (.int .i64 p) ∧ findC (T.L.take p) key = none) T.L.length ?_ ?_
  · exact ⟨rfl, rfl, by simp -implicitDefEqProofs (disch := (first | omega | (simp -implicitDefEqProofs only [szs, ne_eq] <;> omega) | fail)) only [go_sem, Nat.reduceAdd, Nat.reduceSub, Nat.reduceMul, Nat.reduceLT, Nat.reduceMod, Nat.reduceDiv, Nat.reduceEqDiff, Nat.reduceBEq, Nat.reduceLeDiff, ↓reduceIte, reduceCtorEq, Int.reduceAdd, Int.reduceSub, Int.reduceLT, Int.reduceLE, Int.reduceBEq, Int.reduceEq, Int.reduceToNat], by simp -implicitDefEqProofs (disch := (first | omega | (simp -implicitDefEqProofs only [szs, ne_eq] <;> omega) | fail)) only [go_sem, Nat.reduceAdd, Nat.reduceSub, Nat.reduceMul, Nat.reduceLT, Nat.reduceMod, Nat.reduceDiv, Nat.reduceEqDiff, Nat.reduceBEq, Nat.reduceLeDiff, ↓reduceIte, reduceCtorEq, Int.reduceAdd, Int.reduceSub, Int.reduceLT, Int.reduceLE, Int.reduceBEq, Int.reduceEq, Int.reduceToNat], rfl, 0, by omega, by simp -implicitDefEqProofs (disch := (first | omega | (simp -implicitDefEqProofs only [szs, ne_eq] <;> omega) | fail)) only [go_sem, Nat.reduceAdd, Nat.reduceSub, Nat.reduceMul, Nat.reduceLT, Nat.reduceMod, Nat.reduceDiv, Nat.reduceEqDiff, Nat.reduceBEq, Nat.reduceLeDiff, ↓reduceIte, reduceCtorEq, Int.reduceAdd, Int.reduceSub, Int.reduceLT, Int.reduceLE, Int.reduceBEq, Int.reduceEq, Int.reduceToNat]; rfl, rfl⟩
  rintro k ⟨⟨n', tr⟩, mks⟩ g ⟨hmk, hn', t0, u1, rfl, p, hpk, t5, hno⟩
  simp only [Tm.get_mk] at hmk hn' t0 u1 t5
  subst hmk hn'
  by_cases hp : p < T.L.length
  · have hcp : T.L[p]? = some (T.L[p]) := List.getElem?_eq_getElem hp
    generalize hc0 : T.L[p] = cp at hcp
    obtain ⟨bi, oi, capi, exi, ci, cei, rfl, hbi, i1, i2, y0, y1, y2, y3, y4, y5, y6⟩ := CapsV.get r6.lr hcp
    have hRb := hR bi
    by_cases hk : cp.id = key
    · simp -implicitDefEqProofs (disch := (first | omega | (simp -implicitDefEqProofs only [szs, ne_eq] <;> omega) | fail)) only [go_sem, Nat.reduceAdd, Nat.reduceSub, Nat.reduceMul, Nat.reduceLT, Nat.reduceMod, Nat.reduceDiv, Nat.reduceEqDiff, Nat.reduceBEq, Nat.reduceLeDiff, ↓reduceIte, reduceCtorEq, Int.reduceAdd, Int.reduceSub, Int.reduceLT, Int.reduceLE, Int.reduceBEq, Int.reduceEq, Int.reduceToNat, ir51_l0, t0, u1, t5, r1, r2, r4, hR0, hRb, i1, i2, y0, hk, ↓hlen]
      exact .inl ⟨p, cp, rfl, hcp, by rw [← hk]; exact findC_mem w.asc (List.mem_of_getElem? hcp)⟩
    · have hne : (cp.id == key) = false := by simpa using hk
      simp -implicitDefEqProofs (disch := (first | omega | (simp -implicitDefEqProofs only [szs, ne_eq] <;> omega) | fail)) only [go_sem, Nat.reduceAdd, Nat.reduceSub, Nat.reduceMul, Nat.reduceLT, Nat.reduceMod, Nat.reduceDiv, Nat.reduceEqDiff, Nat.reduceBEq, Nat.reduceLeDiff, ↓reduceIte, reduceCtorEq, Int.reduceAdd, Int.reduceSub, Int.reduceLT, Int.reduceLE, Int.reduceBEq, Int.reduceEq, Int.reduceToNat, ir51_l0, t0, u1, t5, r1, r2, r4, hR0, hRb, i1, i2, y0, hne, ↓hlen]
      refine ⟨k - 1, by omega, p + 1, by omega, by simp, ?_⟩
      rw [take_snoc' hcp, findC_append, hno]
      simp [hk]
  · obtain rfl : p = T.L.length := by omega
    rw [List.take_length] at hno
    simp -implicitDefEqProofs (disch := (first | omega | (simp -implicitDefEqProofs only [szs, ne_eq] <;> omega) | fail)) only [go_sem, Nat.reduceAdd, Nat.reduceSub, Nat.reduceMul, Nat.reduceLT, Nat.reduceMod, Nat.reduceDiv, Nat.reduceEqDiff, Nat.reduceBEq, Nat.reduceLeDiff, ↓reduceIte, reduceCtorEq, Int.reduceAdd, Int.reduceSub, Int.reduceLT, Int.reduceLE, Int.reduceBEq, Int.reduceEq, Int.reduceToNat, ir51_l0, t0, u1, t5, r1, r2, r4, hR0, ↓hlen]
    exact .inr hno
theorem madeC_snoc (L : List Cp) (c : Cp) (a : Int) : madeC (L ++ [c]) a = madeC L a + if c.mr = a then 1 else 0 := by
  unfold madeC
  rw [List.filter_append, List.length_append]
  by_cases h : c.mr = a <;> simp [List.filter_cons, h]
set_option maxHeartbeats 1000000 in
theorem rmade_ok {h : Heap} {R W : Set'} {n0 rd : Nat} {T : CS} (hr : RefC h n0 rd T) (w : WF T) (hR : ∀ b, R b) (a : Int) :
    SF Try.prog 46 [.ptr (some (rd, 0)), .int .i64 a] h R W fun v h' => v = .int .i64 (madeC T.L a) ∧ h' = h := by
  obtain ⟨c, lv, r1, r2, r3, r4, r5, r6⟩ := hr.t
  have hlen := r6.lr.lenV Try.underlying27
  have hR0 := hR rd
  have hwl := w.last
  have hwn := w.len
  refine SF.go hm Try.func46 ir46_eq ?_
  simp -implicitDefEqProofs (disch := (first | omega | (simp -implicitDefEqProofs only [szs, ne_eq] <;> omega) | fail)) only [go_sem, Nat.reduceAdd, Nat.reduceSub, Nat.reduceMul, Nat.reduceLT, Nat.reduceMod, Nat.reduceDiv, Nat.reduceEqDiff, Nat.reduceBEq, Nat.reduceLeDiff, ↓reduceIte, reduceCtorEq, Int.reduceAdd, Int.reduceSub, Int.reduceLT, Int.reduceLE, Int.reduceBEq, Int.reduceEq, Int.reduceToNat, ir46]
  refine GLoop.inv hm (fun k f g => f.mks = [] ∧ f.tm.n = 29 ∧ f.tm.get 0 = some (.ptr (some (rd, 0))) ∧ f.tm.get 1 = some (.int .i64 a) ∧ g = h ∧ ∃ p : Nat, p + k = T.L.length ∧ f.tm.get 6 = some (.int .i64 p) ∧ f.tm.get 5 = some (.int .i64 (madeC (T.L.take p) a : Nat))) T.L.length ?_ ?_
  · exact ⟨rfl, rfl, by simp -implicitDefEqProofs (disch := (first | omega | (simp -implicitDefEqProofs only [szs, ne_eq] <;> omega) | fail)) only [go_sem, Nat.reduceAdd, Nat.reduceSub, Nat.reduceMul, Nat.reduceLT, Nat.reduceMod, Nat.reduceDiv, Nat.reduceEqDiff, Nat.reduceBEq, Nat.reduceLeDiff, ↓reduceIte, reduceCtorEq, Int.reduceAdd, Int.reduceSub, Int.reduceLT, Int.reduceLE, Int.reduceBEq, Int.reduceEq, Int.reduceToNat], by simp -implicitDefEqProofs (disch := (first | omega | (simp -implicitDefEqProofs only [szs, ne_eq] <;> omega) | fail)) only [go_sem, Nat.reduceAdd, Nat.reduceSub, Nat.reduceMul, Nat.reduceLT, Nat.reduceMod, Nat.reduceDiv, Nat.reduceEqDiff, Nat.reduceBEq, Nat.reduceLeDiff, ↓reduceIte, reduceCtorEq, Int.reduceAdd, Int.reduceSub, Int.reduceLT, Int.reduceLE, Int.reduceBEq, Int.reduceEq, Int.reduceToNat], rfl, 0, by omega, by simp -implicitDefEqProofs (disch := (first | omega | (simp -implicitDefEqProofs only [szs, ne_eq] <;> omega) | fail)) only [go_sem, Nat.reduceAdd, Nat.reduceSub, Nat.reduceMul, Nat.reduceLT, Nat.reduceMod, Nat.reduceDiv, Nat.reduceEqDiff, Nat.reduceBEq, Nat.reduceLeDiff, ↓reduceIte, reduceCtorEq, Int.reduceAdd, Int.reduceSub, Int.reduceLT, Int.reduceLE, Int.reduceBEq, Int.reduceEq, Int.reduceToNat]; rfl, by simp -implicitDefEqProofs (disch := (first | omega | (simp -implicitDefEqProofs only [szs, ne_eq] <;> omega) | fail)) only [go_sem, Nat.reduceAdd, Nat.reduceSub, Nat.reduceMul, Nat.reduceLT, Nat.reduceMod, Nat.reduceDiv, Nat.reduceEqDiff, Nat.reduceBEq, Nat.reduceLeDiff, ↓reduceIte, reduceCtorEq, Int.reduceAdd, Int.reduceSub, Int.reduceLT, Int.reduceLE, Int.reduceBEq, Int.reduceEq, Int.reduceToNat]; rfl⟩
  rintro k ⟨⟨n', tr⟩, mks⟩ g ⟨hmk, hn', t0, u1, rfl, p, hpk, t6, t5⟩
  simp only [Tm.get_mk] at hmk hn' t0 u1 t5 t6
  subst hmk hn'
  have hmp : madeC (T.L.take p) a ≤ T.L.length := by
    unfold madeC
    have := List.length_filter_le (fun c : Cp => decide (c.mr = a)) (T.L.take p)
    rw [List.length_take] at this
    omega
  by_cases hp : p < T.L.length
  · have hcp : T.L[p]? = some (T.L[p]) := List.getElem?_eq_getElem hp
    generalize hc0 : T.L[p] = cp at hcp
    obtain ⟨bi, oi, capi, exi, ci, cei, rfl, hbi, i1, i2, y0, y1, y2, y3, y4, y5, y6⟩ := CapsV.get r6.lr hcp
    have hRb := hR bi
    by_cases hk : cp.mr = a
    · simp -implicitDefEqProofs (disch := (first | omega | (simp -implicitDefEqProofs only [szs, ne_eq] <;> omega) | fail)) only [go_sem, Nat.reduceAdd, Nat.reduceSub, Nat.reduceMul, Nat.reduceLT, Nat.reduceMod, Nat.reduceDiv, Nat.reduceEqDiff, Nat.reduceBEq, Nat.reduceLeDiff, ↓reduceIte, reduceCtorEq, Int.reduceAdd, Int.reduceSub, Int.reduceLT, Int.reduceLE, Int.reduceBEq, Int.reduceEq, Int.reduceToNat, ir46_l0, t0, u1, t5, t6, r1, r2, r4, hR0, hRb, i1, i2, y3, hk, ↓hlen]
      refine ⟨k - 1, by omega, p + 1, by omega, by simp, ?_⟩
      rw [take_snoc' hcp, madeC_snoc, if_pos hk]; simp
    · have hne : (cp.mr == a) = false := by simpa using hk
      simp -implicitDefEqProofs (disch := (first | omega | (simp -implicitDefEqProofs only [szs, ne_eq] <;> omega) | fail)) only [go_sem, Nat.reduceAdd, Nat.reduceSub, Nat.reduceMul, Nat.reduceLT, Nat.reduceMod, Nat.reduceDiv, Nat.reduceEqDiff, Nat.reduceBEq, Nat.reduceLeDiff, ↓reduceIte, reduceCtorEq, Int.reduceAdd, Int.reduceSub, Int.reduceLT, Int.reduceLE, Int.reduceBEq, Int.reduceEq, Int.reduceToNat, ir46_l0, t0, u1, t5, t6, r1, r2, r4, hR0, hRb, i1, i2, y3, hne, ↓hlen]
      refine ⟨k - 1, by omega, p + 1, by omega, by simp, ?_⟩
      rw [take_snoc' hcp, madeC_snoc, if_neg hk]; rfl
  · obtain rfl : p = T.L.length := by omega
    rw [List.take_length] at t5
    simp -implicitDefEqProofs (disch := (first | omega | (simp -implicitDefEqProofs only [szs, ne_eq] <;> omega) | fail)) only [go_sem, Nat.reduceAdd, Nat.reduceSub, Nat.reduceMul, Nat.reduceLT, Nat.reduceMod, Nat.reduceDiv, Nat.reduceEqDiff, Nat.reduceBEq, Nat.reduceLeDiff, ↓reduceIte, reduceCtorEq, Int.reduceAdd, Int.reduceSub, Int.reduceLT, Int.reduceLE, Int.reduceBEq, Int.reduceEq, Int.reduceToNat, ir46_l0, t0, u1, t5, t6, r1, r2, r4, hR0, ↓hlen]
theorem raccount_ok {h : Heap} {R W : Set'} (a : Int) : SF Try.prog 48 [.int .i64 a] h R W fun v h' => v = .bool (decide (okA a)) ∧ h' = h := by
  refine SF.go hm Try.func48 ir48_eq ?_
  by_cases h0 : 0 ≤ a
  · simp -implicitDefEqProofs (disch := (first | omega | (simp -implicitDefEqProofs only [szs, ne_eq] <;> omega) | fail)) only [go_sem, Nat.reduceAdd, Nat.reduceSub, Nat.reduceMul, Nat.reduceLT, Nat.reduceMod, Nat.reduceDiv, Nat.reduceEqDiff, Nat.reduceBEq, Nat.reduceLeDiff, ↓reduceIte, reduceCtorEq, Int.reduceAdd, Int.reduceSub, Int.reduceLT, Int.reduceLE, Int.reduceBEq, Int.reduceEq, Int.reduceToNat, ir48, undefV]
    congr 1
    exact decide_eq_decide.2 (by unfold okA; omega)
  · simp -implicitDefEqProofs (disch := (first | omega | (simp -implicitDefEqProofs only [szs, ne_eq] <;> omega) | fail)) only [go_sem, Nat.reduceAdd, Nat.reduceSub, Nat.reduceMul, Nat.reduceLT, Nat.reduceMod, Nat.reduceDiv, Nat.reduceEqDiff, Nat.reduceBEq, Nat.reduceLeDiff, ↓reduceIte, reduceCtorEq, Int.reduceAdd, Int.reduceSub, Int.reduceLT, Int.reduceLE, Int.reduceBEq, Int.reduceEq, Int.reduceToNat, ir48, undefV]
    congr 1
    exact (decide_eq_false (by unfold okA; omega)).symm
theorem rrights_ok {h : Heap} {R W : Set'} (a : Int) : SF Try.prog 36 [.int .i64 a] h R W fun v h' => v = .bool (decide (okR a)) ∧ h' = h := by
  refine SF.go hm Try.func36 ir36_eq ?_
  by_cases h0 : 1 ≤ a
  · simp -implicitDefEqProofs (disch := (first | omega | (simp -implicitDefEqProofs only [szs, ne_eq] <;> omega) | fail)) only [go_sem, Nat.reduceAdd, Nat.reduceSub, Nat.reduceMul, Nat.reduceLT, Nat.reduceMod, Nat.reduceDiv, Nat.reduceEqDiff, Nat.reduceBEq, Nat.reduceLeDiff, ↓reduceIte, reduceCtorEq, Int.reduceAdd, Int.reduceSub, Int.reduceLT, Int.reduceLE, Int.reduceBEq, Int.reduceEq, Int.reduceToNat, ir36, undefV]
    congr 1
    exact decide_eq_decide.2 (by unfold okR; omega)
  · simp -implicitDefEqProofs (disch := (first | omega | (simp -implicitDefEqProofs only [szs, ne_eq] <;> omega) | fail)) only [go_sem, Nat.reduceAdd, Nat.reduceSub, Nat.reduceMul, Nat.reduceLT, Nat.reduceMod, Nat.reduceDiv, Nat.reduceEqDiff, Nat.reduceBEq, Nat.reduceLeDiff, ↓reduceIte, reduceCtorEq, Int.reduceAdd, Int.reduceSub, Int.reduceLT, Int.reduceLE, Int.reduceBEq, Int.reduceEq, Int.reduceToNat, ir36, undefV]
    congr 1
    exact (decide_eq_false (by unfold okR; omega)).symm
def andN (a b : Int) : Int := IntKind.i64.wrap (BitVec.ofInt 64 a &&& BitVec.ofInt 64 b).toNat
theorem andN_op (a b : Int) : intBin .and .i64 a b = some (.int .i64 (andN a b)) := rfl
theorem bv_sub (x y : BitVec 64) : x &&& y = x ↔ x &&& ~~~ y = 0#64 := by
  constructor
  · intro h
    rw [← h]
    ext i hi
    simp
  · intro h
    apply BitVec.eq_of_getLsbD_eq
    intro i hi
    have h1 := congrArg (fun z => z.getLsbD i) h
    simp only [BitVec.getLsbD_and, BitVec.getLsbD_not, decide_eq_true hi, Bool.true_and, BitVec.getLsbD_zero] at h1 ⊢
    revert h1
    cases x.getLsbD i <;> cases y.getLsbD i <;> simp
theorem wrap_small {n : Nat} (h : n ≤ 15) : IntKind.i64.wrap (n : Int) = n := by
  have : n ∈ List.range 16 := List.mem_range.2 (by omega)
  revert n
  decide
theorem sub_iff {a b : Int} (h : 0 ≤ a ∧ a ≤ 15) : andN a b = a ↔ anot a b = 0 := by
  have ha : (BitVec.ofInt 64 a).toNat = a.toNat := by
    rw [BitVec.toNat_ofInt]
    have : a % ((2 ^ 64 : Nat) : Int) = a := Int.emod_eq_of_lt h.1 (by have : ((2 ^ 64 : Nat) : Int) = 18446744073709551616 := by decide
                                                                       omega)
    rw [this]
  have l1 : (BitVec.ofInt 64 a &&& BitVec.ofInt 64 b).toNat ≤ 15 := by
    rw [BitVec.toNat_and]
    have := Nat.and_le_left (n := (BitVec.ofInt 64 a).toNat) (m := (BitVec.ofInt 64 b).toNat)
    omega
  have l2 : (BitVec.ofInt 64 a &&& ~~~ BitVec.ofInt 64 b).toNat ≤ 15 := by
    rw [BitVec.toNat_and]
    have := Nat.and_le_left (n := (BitVec.ofInt 64 a).toNat) (m := (~~~ BitVec.ofInt 64 b).toNat)
    omega
  unfold andN anot
  rw [wrap_small l1, wrap_small l2]
  have h1 := bv_sub (BitVec.ofInt 64 a) (BitVec.ofInt 64 b)
  rw [← BitVec.toNat_inj, ← BitVec.toNat_inj (y := 0#64)] at h1
  rw [ha] at h1
  have e0 : (0#64).toNat = 0 := rfl
  rw [e0] at h1
  omega
theorem subset_ok {h : Heap} {R W : Set'} {a : Int} (b : Int) (ha : 0 ≤ a ∧ a ≤ 15) : SF Try.prog 37 [.int .i64 a, .int .i64 b] h R W fun v h' => v = .bool (decide (anot a b = 0)) ∧ h' = h := by
  refine SF.go hm Try.func37 ir37_eq ?_
  simp -implicitDefEqProofs (disch := (first | omega | (simp -implicitDefEqProofs only [szs, ne_eq] <;> omega) | fail)) only [go_sem, Nat.reduceAdd, Nat.reduceSub, Nat.reduceMul, Nat.reduceLT, Nat.reduceMod, Nat.reduceDiv, Nat.reduceEqDiff, Nat.reduceBEq, Nat.reduceLeDiff, ↓reduceIte, reduceCtorEq, Int.reduceAdd, Int.reduceSub, Int.reduceLT, Int.reduceLE, Int.reduceBEq, Int.reduceEq, Int.reduceToNat, ir37, ↓andN_op]
  congr 1
  by_cases hx : anot a b = 0
  · rw [decide_eq_true hx]
    simpa using (sub_iff ha).2 hx
  · rw [decide_eq_false hx]
    simpa using fun h => hx ((sub_iff ha).1 h)
def mineQ (T : CS) (a id : Int) : Bool := match findC T.L id with
  | none => false
  | some c => decide (c.ac = a)
theorem mineE_q (T : CS) (a id : Int) : mineE T a id = if ¬ okA a then 2 else if mineQ T a id = true then 0 else 6 := by
  unfold mineE mineQ
  split
  · rfl
  cases findC T.L id with
  | none => rfl
  | some c => simp
theorem rmine_ok {h : Heap} {R W : Set'} {n0 rd : Nat} {T : CS} (hr : RefC h n0 rd T) (w : WF T) (hR : ∀ b, R b) (a id : Int) :
    SF Try.prog 50 [.ptr (some (rd, 0)), .int .i64 a, .int .i64 id] h R W fun v h' => v = .bool (mineQ T a id) ∧ h' = h := by
  obtain ⟨c, lv, r1, r2, r3, r4, r5, r6⟩ := hr.t
  have hR0 := hR rd
  refine SF.go hm Try.func50 ir50_eq ?_
  simp -implicitDefEqProofs (disch := (first | omega | (simp -implicitDefEqProofs only [szs, ne_eq] <;> omega) | fail)) only [go_sem, Nat.reduceAdd, Nat.reduceSub, Nat.reduceMul, Nat.reduceLT, Nat.reduceMod, Nat.reduceDiv, Nat.reduceEqDiff, Nat.reduceBEq, Nat.reduceLeDiff, ↓reduceIte, reduceCtorEq, Int.reduceAdd, Int.reduceSub, Int.reduceLT, Int.reduceLE, Int.reduceBEq, Int.reduceEq, Int.reduceToNat, ir50]
  refine GCall.of (find_ok hr w (fun b => .inr (hR b)) id) ?_
  rintro v h1 ⟨⟨p, cp, rfl, hcp, hf⟩ | ⟨rfl, hf⟩, rfl⟩
  · obtain ⟨bi, oi, capi, exi, ci, cei, rfl, hbi, i1, i2, y0, y1, y2, y3, y4, y5, y6⟩ := CapsV.get r6.lr hcp
    have hl := (List.getElem?_eq_some_iff.1 hcp).1
    have hRb := hR bi
    simp -implicitDefEqProofs (disch := (first | omega | (simp -implicitDefEqProofs only [szs, ne_eq] <;> omega) | fail)) only [go_sem, Nat.reduceAdd, Nat.reduceSub, Nat.reduceMul, Nat.reduceLT, Nat.reduceMod, Nat.reduceDiv, Nat.reduceEqDiff, Nat.reduceBEq, Nat.reduceLeDiff, ↓reduceIte, reduceCtorEq, Int.reduceAdd, Int.reduceSub, Int.reduceLT, Int.reduceLE, Int.reduceBEq, Int.reduceEq, Int.reduceToNat, undefV, r1, r2, r4, hR0, hRb, i1, i2, y2]
    rw [mineQ, hf]
    rfl
  · simp -implicitDefEqProofs (disch := (first | omega | (simp -implicitDefEqProofs only [szs, ne_eq] <;> omega) | fail)) only [go_sem, Nat.reduceAdd, Nat.reduceSub, Nat.reduceMul, Nat.reduceLT, Nat.reduceMod, Nat.reduceDiv, Nat.reduceEqDiff, Nat.reduceBEq, Nat.reduceLeDiff, ↓reduceIte, reduceCtorEq, Int.reduceAdd, Int.reduceSub, Int.reduceLT, Int.reduceLE, Int.reduceBEq, Int.reduceEq, Int.reduceToNat, undefV]
    rw [mineQ, hf]
set_option maxHeartbeats 1000000 in
theorem rover_ok {h : Heap} {R W : Set'} {n0 rd : Nat} {T : CS} (hr : RefC h n0 rd T) (w : WF T) (hR : ∀ b, R b) (a b : Int) :
    SF Try.prog 47 [.ptr (some (rd, 0)), .int .i64 a, .int .i64 b] h R W fun v h' => v = .bool (decide (b = a ∨ Un T.L a b)) ∧ h' = h := by
  obtain ⟨c, lv, r1, r2, r3, r4, r5, r6⟩ := hr.t
  have hR0 := hR rd
  refine SF.go hm Try.func47 ir47_eq ?_
  simp -implicitDefEqProofs (disch := (first | omega | (simp -implicitDefEqProofs only [szs, ne_eq] <;> omega) | fail)) only [go_sem, Nat.reduceAdd, Nat.reduceSub, Nat.reduceMul, Nat.reduceLT, Nat.reduceMod, Nat.reduceDiv, Nat.reduceEqDiff, Nat.reduceBEq, Nat.reduceLeDiff, ↓reduceIte, reduceCtorEq, Int.reduceAdd, Int.reduceSub, Int.reduceLT, Int.reduceLE, Int.reduceBEq, Int.reduceEq, Int.reduceToNat, ir47]
  refine GLoop.inv hm (fun k f g => f.mks = [] ∧ f.tm.n = 24 ∧ f.tm.get 0 = some (.ptr (some (rd, 0))) ∧ f.tm.get 1 = some (.int .i64 a) ∧ g = h ∧ ∃ x : Int, x.toNat ≤ k ∧ f.tm.get 2 = some (.int .i64 x) ∧ ((x = a ∨ Un T.L a x) ↔ (b = a ∨ Un T.L a b))) b.toNat ?_ ?_
  · exact ⟨rfl, rfl, by simp -implicitDefEqProofs (disch := (first | omega | (simp -implicitDefEqProofs only [szs, ne_eq] <;> omega) | fail)) only [go_sem, Nat.reduceAdd, Nat.reduceSub, Nat.reduceMul, Nat.reduceLT, Nat.reduceMod, Nat.reduceDiv, Nat.reduceEqDiff, Nat.reduceBEq, Nat.reduceLeDiff, ↓reduceIte, reduceCtorEq, Int.reduceAdd, Int.reduceSub, Int.reduceLT, Int.reduceLE, Int.reduceBEq, Int.reduceEq, Int.reduceToNat], by simp -implicitDefEqProofs (disch := (first | omega | (simp -implicitDefEqProofs only [szs, ne_eq] <;> omega) | fail)) only [go_sem, Nat.reduceAdd, Nat.reduceSub, Nat.reduceMul, Nat.reduceLT, Nat.reduceMod, Nat.reduceDiv, Nat.reduceEqDiff, Nat.reduceBEq, Nat.reduceLeDiff, ↓reduceIte, reduceCtorEq, Int.reduceAdd, Int.reduceSub, Int.reduceLT, Int.reduceLE, Int.reduceBEq, Int.reduceEq, Int.reduceToNat], rfl, b, Nat.le_refl _, by simp -implicitDefEqProofs (disch := (first | omega | (simp -implicitDefEqProofs only [szs, ne_eq] <;> omega) | fail)) only [go_sem, Nat.reduceAdd, Nat.reduceSub, Nat.reduceMul, Nat.reduceLT, Nat.reduceMod, Nat.reduceDiv, Nat.reduceEqDiff, Nat.reduceBEq, Nat.reduceLeDiff, ↓reduceIte, reduceCtorEq, Int.reduceAdd, Int.reduceSub, Int.reduceLT, Int.reduceLE, Int.reduceBEq, Int.reduceEq, Int.reduceToNat], Iff.rfl⟩
  rintro k ⟨⟨n', tr⟩, mks⟩ g ⟨hmk, hn', t0, u1, rfl, x, hxk, t2, hiff⟩
  simp only [Tm.get_mk] at hmk hn' t0 u1 t2
  subst hmk hn'
  by_cases hx : x = a
  · have e : decide (b = a ∨ Un T.L a b) = true := decide_eq_true (hiff.1 (.inl hx))
    rw [e]
    have hx' : (x != a) = false := by simpa using hx
    simp -implicitDefEqProofs (disch := (first | omega | (simp -implicitDefEqProofs only [szs, ne_eq] <;> omega) | fail)) only [go_sem, Nat.reduceAdd, Nat.reduceSub, Nat.reduceMul, Nat.reduceLT, Nat.reduceMod, Nat.reduceDiv, Nat.reduceEqDiff, Nat.reduceBEq, Nat.reduceLeDiff, ↓reduceIte, reduceCtorEq, Int.reduceAdd, Int.reduceSub, Int.reduceLT, Int.reduceLE, Int.reduceBEq, Int.reduceEq, Int.reduceToNat, ir47_l0, t0, u1, t2, hx']
  · have hx' : (x != a) = true := by simpa using hx
    simp -implicitDefEqProofs (disch := (first | omega | (simp -implicitDefEqProofs only [szs, ne_eq] <;> omega) | fail)) only [go_sem, Nat.reduceAdd, Nat.reduceSub, Nat.reduceMul, Nat.reduceLT, Nat.reduceMod, Nat.reduceDiv, Nat.reduceEqDiff, Nat.reduceBEq, Nat.reduceLeDiff, ↓reduceIte, reduceCtorEq, Int.reduceAdd, Int.reduceSub, Int.reduceLT, Int.reduceLE, Int.reduceBEq, Int.reduceEq, Int.reduceToNat, ir47_l0, t0, u1, t2, hx']
    refine GCall.of (find_ok hr w (fun b => .inr (hR b)) x) ?_
    rintro v h1 ⟨⟨p, cp, rfl, hcp, hf⟩ | ⟨rfl, hf⟩, rfl⟩
    · obtain ⟨bi, oi, capi, exi, ci, cei, rfl, hbi, i1, i2, y0, y1, y2, y3, y4, y5, y6⟩ := CapsV.get r6.lr hcp
      have hl := (List.getElem?_eq_some_iff.1 hcp).1
      have hRb := hR bi
      obtain ⟨hm1, hi1⟩ := findC_some hf
      have h1 := w.par cp hm1
      simp -implicitDefEqProofs (disch := (first | omega | (simp -implicitDefEqProofs only [szs, ne_eq] <;> omega) | fail)) only [go_sem, Nat.reduceAdd, Nat.reduceSub, Nat.reduceMul, Nat.reduceLT, Nat.reduceMod, Nat.reduceDiv, Nat.reduceEqDiff, Nat.reduceBEq, Nat.reduceLeDiff, ↓reduceIte, reduceCtorEq, Int.reduceAdd, Int.reduceSub, Int.reduceLT, Int.reduceLE, Int.reduceBEq, Int.reduceEq, Int.reduceToNat, t0, u1, t2, r1, r2, r4, hR0, hRb, i1, i2, y1]
      refine ⟨cp.par.toNat, by omega, cp.par, Nat.le_refl _, rfl, ?_⟩
      rw [← hiff, ← hi1, un_iff w.asc hm1]
      constructor
      · exact .inr
      · rintro (h | h)
        · exact absurd (hi1 ▸ h) hx
        · exact h
    · have e : decide (b = a ∨ Un T.L a b) = false := by
        refine decide_eq_false fun h => ?_
        rcases hiff.2 h with h | h
        · exact hx h
        · obtain ⟨c, hc, hci⟩ := h.mem
          exact findC_none hf c hc hci
      rw [e]
      simp -implicitDefEqProofs (disch := (first | omega | (simp -implicitDefEqProofs only [szs, ne_eq] <;> omega) | fail)) only [go_sem, Nat.reduceAdd, Nat.reduceSub, Nat.reduceMul, Nat.reduceLT, Nat.reduceMod, Nat.reduceDiv, Nat.reduceEqDiff, Nat.reduceBEq, Nat.reduceLeDiff, ↓reduceIte, reduceCtorEq, Int.reduceAdd, Int.reduceSub, Int.reduceLT, Int.reduceLE, Int.reduceBEq, Int.reduceEq, Int.reduceToNat, t0, u1, t2]
end Go.Proofs.Ytehgjkopobkbmaa
