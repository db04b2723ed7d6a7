/- A table of capabilities: its ids in order; All, and going over it. -/
import Derived.Test.YtehgjkopobkbmaaC2
import Derived.Test.YtehgjkopobkbmaaV4
set_option linter.unusedVariables false
set_option linter.unusedSimpArgs false
set_option linter.unusedSimpArgs false
set_option maxRecDepth 100000
set_option linter.unusedVariables false
set_option linter.unusedSimpArgs false
namespace Go.Proofs.Ytehgjkopobkbmaa
open Go Go.Vm
theorem asc_ext : ∀ {a b : List Int}, a.Pairwise (· < ·) → b.Pairwise (· < ·) → (∀ x, x ∈ a ↔ x ∈ b) → a = b
  | [], [], _, _, _ => rfl
  | [], y :: b, _, _, h => by have := (h y).2 (by simp); cases this
  | x :: a, [], _, _, h => by have := (h x).1 (by simp); cases this
  | x :: a, y :: b, ha, hb, h => by
    rw [List.pairwise_cons] at ha hb
    have hxy : x = y := by
      have h1 := (h x).1 (by simp)
      have h2 := (h y).2 (by simp)
      rcases List.mem_cons.1 h1 with e | h1
      · exact e
      · rcases List.mem_cons.1 h2 with e | h2
        · exact e.symm
        · have := ha.1 _ h2; have := hb.1 _ h1; omega
    subst hxy
    rw [asc_ext ha.2 hb.2 fun z => ?_]
    constructor
    · intro hz
      rcases List.mem_cons.1 ((h z).1 (by simp [hz])) with e | e
      · have := ha.1 _ hz; omega
      · exact e
    · intro hz
      rcases List.mem_cons.1 ((h z).2 (by simp [hz])) with e | e
      · have := hb.1 _ hz; omega
      · exact e
theorem keys_ids {es : Ents} {ck : Nat} {L : List Cp} (hi : IMap es ck) (hp : L.Pairwise fun a b => a.id < b.id) (hg : ∀ k, getI es k = (findC L k).map Cp.v) : keysSorted es = L.map Cp.id := by
  have hkk : (es.map fun e => intOf e.1) = es.map fun e => keyI e.1 := List.map_congr_left fun e he => by
    obtain ⟨k, hk⟩ := hi.ints e he
    rw [hk]; rfl
  have hperm : (keysSorted es).Perm (es.map fun e => keyI e.1) := by
    unfold keysSorted
    rw [← hkk]
    exact List.mergeSort_perm _ _
  have hpp := (pairs_perm hi hp hg).map Prod.fst
  rw [List.map_map, List.map_map] at hpp
  apply asc_ext
  · have h1 : (keysSorted es).Pairwise (fun x y => x ≤ y) := (List.pairwise_mergeSort (le := fun x y => decide (x ≤ y)) (fun a b c h1 h2 => by simp at *; omega) (fun a b => by simp; omega) _).imp fun h => by simpa using h
    have h2 : (keysSorted es).Nodup := hperm.nodup_iff.2 hi.keys
    exact (h1.and h2).imp fun ⟨a, b⟩ => by omega
  · rw [List.pairwise_map]; exact hp
  · intro x
    rw [hperm.mem_iff]
    exact hpp.mem_iff
theorem keysf_ok {h : Heap} {R W : Set'} {m : Nat} : SF Try.prog 39 [.map (some m)] h R W fun v h' => v = .func 54 [] [.ptr (some (h.n, 0))] ∧ h' = h.push (.cells (Blk.of [.map (some m)]) 59) := by
  refine SF.go hm Try.func39 ir39_eq ?_
  simp -implicitDefEqProofs (disch := (first | omega | (simp -implicitDefEqProofs only [szs, ne_eq] <;> omega) | fail)) only [go_sem, Nat.reduceAdd, Nat.reduceSub, Nat.reduceMul, Nat.reduceLT, Nat.reduceMod, Nat.reduceDiv, Nat.reduceEqDiff, Nat.reduceBEq, Nat.reduceLeDiff, ↓reduceIte, reduceCtorEq, Int.reduceAdd, Int.reduceSub, Int.reduceLT, Int.reduceLE, Int.reduceBEq, Int.reduceEq, Int.reduceToNat, ir39]
def idsV (L : List Cp) : List V := L.map fun c => .int .i64 c.id
theorem ids_ok {h : Heap} {kb tb r : Nat} {T : CS} (ht : CapAt h tb r T) (w : WF T) (hk : ∃ c, h.get kb = some (.cells c 59) ∧ c.size = 1 ∧ c.get 0 = .map (some r)) :
    SF Try.prog 38 [.func 54 [] [.ptr (some (kb, 0))]] h (fun b => b = kb ∨ b = r) (fun _ => False) fun v g => LR g (fun b => h.n ≤ b) v (idsV T.L) ∧ h.n ≤ g.n ∧ ∀ b, b < h.n → g.get b = h.get b := by
  obtain ⟨es, ck, htab, m2, m3, hmade⟩ := ht.table w
  have hK : KeysAt h kb r es ck := ⟨hk, htab.m, m2.ok, m2.ints, htab.few⟩
  refine ⟨_, _, ?_, sorted_ok hK⟩
  have hids := keys_ids m2 w.asc m3
  have hlen := map_len m2 w.asc m3
  have hkm : (keysSorted es).map (V.int .i64) = idsV T.L := by rw [hids, List.map_map]; rfl
  cases hes : es with
  | nil =>
    rw [hes] at hlen
    have h0 : T.L = [] := List.length_eq_zero_iff.1 hlen.symm
    rw [h0]
    exact ⟨.inl ⟨rfl, .inl rfl⟩, Nat.le_refl _, fun _ _ => rfl⟩
  | cons e r' =>
    have hsv : sortedV h es = (.slice (some (h.n, 0)) es.length es.length false, h.push (.cells (Blk.of ((keysSorted es).map (.int .i64))) 2)) := by rw [hes]; rfl
    rw [← hes, hsv]
    have hl2 : (idsV T.L).length = es.length := by rw [idsV, List.length_map, hlen]
    exact ⟨.inr ⟨h.n, 0, es.length, false, _, 2, by rw [hl2], Nat.le_refl _, w_push_eq rfl _, by rw [hkm, w_of_size, Nat.zero_add]; exact Nat.le_refl _, by rw [hkm]; exact gets_all _ rfl⟩, by simp, fun b hb => w_push_ne (by omega) _⟩
def allL (L : List Cp) (a : Int) : List Cp := L.filter fun c => decide (a < 0 ∨ c.ac = a)
def flatC (L : List Cp) : List V := (L.map Cp.l).flatten
theorem flatC_len (L : List Cp) : (flatC L).length = L.length * 7 := by
  induction L with
  | nil => rfl
  | cons c L ih =>
    show (c.l ++ flatC L).length = _
    rw [List.length_append, ih, List.length_cons]
    show 7 + _ = _
    omega
theorem flatC_snoc (L : List Cp) (c : Cp) : flatC (L ++ [c]) = flatC L ++ c.l := by simp [flatC]
theorem flatC_get {L : List Cp} {p : Nat} {c : Cp} (h : L[p]? = some c) {j : Nat} (hj : j < 7) : (flatC L).getD (p * 7 + j) undefV = c.l.getD j undefV := by
  induction L generalizing p with
  | nil => simp at h
  | cons x L ih =>
    have e : flatC (x :: L) = x.l ++ flatC L := rfl
    have hx : x.l.length = 7 := rfl
    rw [e]
    cases p with
    | zero =>
      simp at h; subst h
      rw [List.getD_eq_getElem?_getD, List.getD_eq_getElem?_getD, List.getElem?_append_left (by omega), Nat.zero_mul, Nat.zero_add]
    | succ p =>
      rw [List.getD_eq_getElem?_getD, List.getElem?_append_right (by omega), hx, show (p + 1) * 7 + j - 7 = p * 7 + j by omega, ← List.getD_eq_getElem?_getD]
      exact ih (by simpa using h)
/-- A slice of capabilities. -/
def CapsV (h : Heap) (R : Set') (v : V) (L : List Cp) : Prop := LRs 7 h R v L.length (flatC L)
theorem CapsV.get {h : Heap} {R : Set'} {v : V} {L : List Cp} (hv : CapsV h R v L) {p : Nat} {c : Cp} (hp : L[p]? = some c) : ∃ b o cap ex cc ce, v = .slice (some (b, o)) L.length cap ex ∧ R b ∧ h.get b = some (.cells cc ce) ∧ o + L.length * 7 ≤ cc.size ∧ cc.get (o + p * 7) = .int .i64 c.id ∧ cc.get (o + p * 7 + 1) = .int .i64 c.par ∧ cc.get (o + p * 7 + 2) = .int .i64 c.ac ∧ cc.get (o + p * 7 + 3) = .int .i64 c.mr ∧ cc.get (o + p * 7 + 4) = .int .i64 c.kd ∧ cc.get (o + p * 7 + 5) = .int .i64 c.ob ∧ cc.get (o + p * 7 + 6) = .int .i64 c.rt := by
  have hl := (List.getElem?_eq_some_iff.1 hp).1
  obtain ⟨b, o, cap, ex, cc, ce, h1, h2, h3, h4, h5⟩ := LRs.get hv (by omega)
  have k : ∀ j, j < 7 → cc.get (o + p * 7 + j) = c.l.getD j undefV := fun j hj => by
    rw [Nat.add_assoc, h5 _ (by omega), flatC_get hp hj]
  exact ⟨b, o, cap, ex, cc, ce, h1, h2, h3, h4, k 0 (by omega), k 1 (by omega), k 2 (by omega), k 3 (by omega), k 4 (by omega), k 5 (by omega), k 6 (by omega)⟩
theorem ap_27 : apT Try.prog 27 27 = some (40, 7, 56) := by kernel_rfl
theorem allL_snoc (L : List Cp) (c : Cp) (a : Int) : allL (L ++ [c]) a = if a < 0 ∨ c.ac = a then allL L a ++ [c] else allL L a := by
  unfold allL
  rw [List.filter_append]
  by_cases h : a < 0 ∨ c.ac = a
  · rw [if_pos h]; simp [List.filter_cons, h]
  · rw [if_neg h]; simp [List.filter_cons, h]
theorem take_snoc' {L : List Cp} {p : Nat} {c : Cp} (h : L[p]? = some c) : L.take (p + 1) = L.take p ++ [c] := by
  rw [List.take_add_one, h]; rfl
set_option maxHeartbeats 2000000 in
theorem all_ok {h : Heap} {R W : Set'} {tb r : Nat} {T : CS} (ht : CapAt h tb r T) (w : WF T) (hR : ∀ b, b = tb ∨ b = r → R b) (a : Int) :
    SF Try.prog 15 [.ptr (some (tb, 0)), .int .i64 a] h R W fun v h' => v = .func 40 [] [.ptr (some (h.n, 0))] ∧ h.n < h'.n ∧ (∃ c lv, h'.get h.n = some (.cells c 27) ∧ c.size = 1 ∧ c.get 0 = lv ∧ CapsV h' (fun b => h.n < b) lv (allL T.L a)) ∧ ∀ b, b < h.n → h'.get b = h.get b := by
  have hwl := w.last
  have hwn := w.len
  obtain ⟨l1, l2, l3⟩ := ht.lt
  have hR1 := hR tb (.inl rfl)
  have hR2 := hR r (.inr rfl)
  refine SF.go hm Try.func15 ir15_eq ?_
  obtain ⟨h1, e1, n1, b1, k1⟩ : ∃ h1, h.push (O.cells (Blk.of [V.slice none 0 0 true]) 27) = h1 ∧ h1.n = h.n + 1 ∧ h1.get h.n = some (O.cells (Blk.of [V.slice none 0 0 true]) 27) ∧ ∀ b, b < h.n → h1.get b = h.get b := ⟨_, rfl, by simp, w_push_eq rfl _, fun b hb => w_push_ne (by omega) _⟩
  simp -implicitDefEqProofs (disch := (first | omega | (simp -implicitDefEqProofs only [szs, ne_eq] <;> omega) | fail)) only [go_sem, Nat.reduceAdd, Nat.reduceSub, Nat.reduceMul, Nat.reduceLT, Nat.reduceMod, Nat.reduceDiv, Nat.reduceEqDiff, Nat.reduceBEq, Nat.reduceLeDiff, ↓reduceIte, reduceCtorEq, Int.reduceAdd, Int.reduceSub, Int.reduceLT, Int.reduceLE, Int.reduceBEq, Int.reduceEq, Int.reduceToNat, ir15, e1]
  clear e1
  have ht1 := ht.old k1
  refine GCall.of (there_ok ht1 (.inr hR1)) ?_
  rintro v h1 ⟨rfl, rfl⟩
  obtain ⟨ct, t1, t2, t3, t4, t5⟩ := ht1.t
  simp -implicitDefEqProofs (disch := (first | omega | (simp -implicitDefEqProofs only [szs, ne_eq] <;> omega) | fail)) only [go_sem, Nat.reduceAdd, Nat.reduceSub, Nat.reduceMul, Nat.reduceLT, Nat.reduceMod, Nat.reduceDiv, Nat.reduceEqDiff, Nat.reduceBEq, Nat.reduceLeDiff, ↓reduceIte, reduceCtorEq, Int.reduceAdd, Int.reduceSub, Int.reduceLT, Int.reduceLE, Int.reduceBEq, Int.reduceEq, Int.reduceToNat, t1, t2, t4, hR1]
  refine GCall.of keysf_ok ?_
  rintro v h2 ⟨rfl, e2⟩
  have n2 : h2.n = h1.n + 1 := by rw [e2]; simp
  have k2 : ∀ b, b < h1.n → h2.get b = h1.get b := fun b hb => by rw [e2]; exact w_push_ne (by omega) _
  have b2 : h2.get h1.n = some (.cells (Blk.of [.map (some r)]) 59) := by rw [e2]; exact w_push_eq rfl _
  clear e2
  simp -implicitDefEqProofs (disch := (first | omega | (simp -implicitDefEqProofs only [szs, ne_eq] <;> omega) | fail)) only [go_sem, Nat.reduceAdd, Nat.reduceSub, Nat.reduceMul, Nat.reduceLT, Nat.reduceMod, Nat.reduceDiv, Nat.reduceEqDiff, Nat.reduceBEq, Nat.reduceLeDiff, ↓reduceIte, reduceCtorEq, Int.reduceAdd, Int.reduceSub, Int.reduceLT, Int.reduceLE, Int.reduceBEq, Int.reduceEq, Int.reduceToNat]
  refine GCall.of (((ids_ok (ht1.old k2) w ⟨_, b2, rfl, rfl⟩).foot (fun b hb => by rcases hb with rfl | rfl; exact .inl (by omega); exact .inr hR2) (fun b h => h.elim))) ?_
  rintro v h3 ⟨hlr, n3, k3⟩
  have hlen := hlr.lenV Try.underlying45
  have hil : (idsV T.L).length = T.L.length := by simp [idsV]
  rw [hil] at hlen
  simp -implicitDefEqProofs (disch := (first | omega | (simp -implicitDefEqProofs only [szs, ne_eq] <;> omega) | fail)) only [go_sem, Nat.reduceAdd, Nat.reduceSub, Nat.reduceMul, Nat.reduceLT, Nat.reduceMod, Nat.reduceDiv, Nat.reduceEqDiff, Nat.reduceBEq, Nat.reduceLeDiff, ↓reduceIte, reduceCtorEq, Int.reduceAdd, Int.reduceSub, Int.reduceLT, Int.reduceLE, Int.reduceBEq, Int.reduceEq, Int.reduceToNat, ↓hlen]
  have k13 : ∀ b, b < h1.n → h3.get b = h1.get b := fun b hb => by rw [k3 b (by omega), k2 b hb]
  refine GLoop.inv hm (fun k f g => f.mks = [] ∧ f.tm.n = 42 ∧ f.tm.get 0 = some (.ptr (some (tb, 0))) ∧ f.tm.get 1 = some (.int .i64 a) ∧ f.tm.get 5 = some (.ptr (some (h.n, 0))) ∧ f.tm.get 16 = some v ∧ f.tm.get 17 = some (.int .i64 T.L.length) ∧ ∃ p : Nat, p + k = T.L.length ∧ f.tm.get 18 = some (.int .i64 p) ∧ h3.n ≤ g.n ∧ (∀ b, b < h3.n → b ≠ h.n → g.get b = h3.get b) ∧ ∃ c lv, g.get h.n = some (.cells c 27) ∧ c.size = 1 ∧ c.ro = false ∧ c.get 0 = lv ∧ OwnS 7 h3.n g lv (allL (T.L.take p) a).length (flatC (allL (T.L.take p) a)) 40) T.L.length ?_ ?_
  · exact ⟨rfl, rfl, by simp -implicitDefEqProofs (disch := (first | omega | (simp -implicitDefEqProofs only [szs, ne_eq] <;> omega) | fail)) only [go_sem, Nat.reduceAdd, Nat.reduceSub, Nat.reduceMul, Nat.reduceLT, Nat.reduceMod, Nat.reduceDiv, Nat.reduceEqDiff, Nat.reduceBEq, Nat.reduceLeDiff, ↓reduceIte, reduceCtorEq, Int.reduceAdd, Int.reduceSub, Int.reduceLT, Int.reduceLE, Int.reduceBEq, Int.reduceEq, Int.reduceToNat], by simp -implicitDefEqProofs (disch := (first | omega | (simp -implicitDefEqProofs only [szs, ne_eq] <;> omega) | fail)) only [go_sem, Nat.reduceAdd, Nat.reduceSub, Nat.reduceMul, Nat.reduceLT, Nat.reduceMod, Nat.reduceDiv, Nat.reduceEqDiff, Nat.reduceBEq, Nat.reduceLeDiff, ↓reduceIte, reduceCtorEq, Int.reduceAdd, Int.reduceSub, Int.reduceLT, Int.reduceLE, Int.reduceBEq, Int.reduceEq, Int.reduceToNat], by simp -implicitDefEqProofs (disch := (first | omega | (simp -implicitDefEqProofs only [szs, ne_eq] <;> omega) | fail)) only [go_sem, Nat.reduceAdd, Nat.reduceSub, Nat.reduceMul, Nat.reduceLT, Nat.reduceMod, Nat.reduceDiv, Nat.reduceEqDiff, Nat.reduceBEq, Nat.reduceLeDiff, ↓reduceIte, reduceCtorEq, Int.reduceAdd, Int.reduceSub, Int.reduceLT, Int.reduceLE, Int.reduceBEq, Int.reduceEq, Int.reduceToNat], by simp -implicitDefEqProofs (disch := (first | omega | (simp -implicitDefEqProofs only [szs, ne_eq] <;> omega) | fail)) only [go_sem, Nat.reduceAdd, Nat.reduceSub, Nat.reduceMul, Nat.reduceLT, Nat.reduceMod, Nat.reduceDiv, Nat.reduceEqDiff, Nat.reduceBEq, Nat.reduceLeDiff, ↓reduceIte, reduceCtorEq, Int.reduceAdd, Int.reduceSub, Int.reduceLT, Int.reduceLE, Int.reduceBEq, Int.reduceEq, Int.reduceToNat], by simp -implicitDefEqProofs (disch := (first | omega | (simp -implicitDefEqProofs only [szs, ne_eq] <;> omega) | fail)) only [go_sem, Nat.reduceAdd, Nat.reduceSub, Nat.reduceMul, Nat.reduceLT, Nat.reduceMod, Nat.reduceDiv, Nat.reduceEqDiff, Nat.reduceBEq, Nat.reduceLeDiff, ↓reduceIte, reduceCtorEq, Int.reduceAdd, Int.reduceSub, Int.reduceLT, Int.reduceLE, Int.reduceBEq, Int.reduceEq, Int.reduceToNat], 0, by omega, by simp -implicitDefEqProofs (disch := (first | omega | (simp -implicitDefEqProofs only [szs, ne_eq] <;> omega) | fail)) only [go_sem, Nat.reduceAdd, Nat.reduceSub, Nat.reduceMul, Nat.reduceLT, Nat.reduceMod, Nat.reduceDiv, Nat.reduceEqDiff, Nat.reduceBEq, Nat.reduceLeDiff, ↓reduceIte, reduceCtorEq, Int.reduceAdd, Int.reduceSub, Int.reduceLT, Int.reduceLE, Int.reduceBEq, Int.reduceEq, Int.reduceToNat]; rfl, Nat.le_refl _, fun _ _ _ => rfl, _, _, by rw [k13 _ (by omega)]; exact b1, rfl, rfl, rfl, OwnS.nil _ _ _ _⟩
  rintro k ⟨⟨n', tr⟩, mks⟩ g ⟨hmk, hn', t0, u1, u5, t16, t17, p, hpk, t18, hgn, hgo, c, lv, g1, gs, gr, gv, hown⟩
  simp only [Tm.get_mk] at hmk hn' t0 u1 u5 t16 t17 t18
  subst hmk hn'
  by_cases hp : p < T.L.length
  · have hcp : T.L[p]? = some (T.L[p]) := List.getElem?_eq_getElem hp
    generalize hc0 : T.L[p] = cp at hcp
    obtain ⟨bi, oi, capi, exi, ci, cei, rfl, hbi, x1, x2, x3⟩ := hlr.get (i := p) (by omega)
    rw [hil] at x2 hlen t16
    have x3 : ci.get (oi + p) = .int .i64 cp.id := by
      rw [x3, idsV, List.getD_eq_getElem?_getD, List.getElem?_map, hcp]; rfl
    have hbl := Heap.lt_of_get x1
    have x1' : g.get bi = some (.cells ci cei) := by rw [hgo _ hbl (by omega)]; exact x1
    have hRb : h.n ≤ bi ∨ R bi := .inl (by have hbi : h2.n ≤ bi := hbi; omega)
    have t1' : g.get tb = some (.cells ct 61) := by rw [hgo _ (by omega) (by omega), k13 _ (by omega)]; exact t1
    have htg : CapAt g tb r T := ht1.same fun b hb => by
      rw [hgo b (by rcases hb with rfl | rfl <;> omega) (by rcases hb with rfl | rfl <;> omega), k13 b (by rcases hb with rfl | rfl <;> omega)]
    have htl := htg.look1 cp.id
    rw [findC_mem w.asc (List.mem_of_getElem? hcp)] at htl
    simp only [Option.map_some, Option.getD_some, Cp.v, Cp.l] at htl
    obtain ⟨g2, e3, n4, ⟨sb, s0, s1, s2, y0, y1, y2, y3, y4, y5, y6⟩, k4⟩ := stC g cp
    have hRg : h.n ≤ g.n ∨ R g.n := .inl (by omega)
    have hg1 : g2.get h.n = some (.cells c 27) := by rw [k4 _ (by omega)]; exact g1
    have hwell : h.n ≤ h.n ∨ W h.n := .inl (Nat.le_refl _)
    have hlth := Heap.lt_of_get hg1
    have htake := take_snoc' hcp
    by_cases hsel : a < 0 ∨ cp.ac = a
    · have one : allOne cp.l = true := rfl
      have hlen7 : cp.l.length = 1 * 7 := rfl
      have hsnoc : allL (T.L.take (p + 1)) a = allL (T.L.take p) a ++ [cp] := by rw [htake, allL_snoc, if_pos hsel]
      have hlall : (allL (T.L.take p) a).length ≤ p := by
        have := List.length_filter_le (fun c : Cp => decide (a < 0 ∨ c.ac = a)) (T.L.take p)
        rw [List.length_take] at this
        show (List.filter _ _).length ≤ p
        omega
      obtain ⟨v', g3, r3, w3, hap, o3, m3, kk3, hw3, kw3, ht3, hr3⟩ := app_ownS (n0 := h3.n) (h := g2.push (.cells (Blk.of cp.l) 40)) (v := lv) (x := .slice (some (g2.n, 0)) 1 1 true) (n := (allL (T.L.take p) a).length) (m := 1) (news := cp.l) (rs := [g2.n]) (e := 40) (sz := 7) (bytes := 56) (hown.old fun b hb => by rw [w_push_ne (by omega), k4 b hb]) (by simp; omega) rfl (firstS (e := 40) (w_push_eq rfl _) (Nat.le_refl _) (gets_all _ rfl)) hlen7 one (by omega) (by omega) (by omega)
      simp only [Cp.l] at hap
      have m3' : g2.n + 1 ≤ g3.n := by simpa using m3
      have hcv := o3.lr.cells
      have hon := o3.lr.one
      have hg3 : g3.get h.n = some (.cells c 27) := by rw [kk3 _ (by omega), w_push_ne (by omega)]; exact hg1
      have hlt3 := Heap.lt_of_get hg3
      have fin : (h.n ≤ g.n ∨ W g.n) ∧ allB (fun b => h.n ≤ b ∨ R b) r3 ∧ allB (fun b => h.n ≤ b ∨ W b) w3 ∧ ∃ k', k' < k ∧ V.slice (some (bi, oi)) T.L.length capi exi = V.slice (some (bi, oi)) (idsV T.L).length capi exi ∧ ∃ p_1, p_1 + k' = T.L.length ∧ V.int IntKind.i64 (↑p + 1) = V.int IntKind.i64 ↑p_1 ∧ h3.n ≤ g3.n ∧ (∀ (b : Nat), b < h3.n → b ≠ h.n → (g3.set h.n (O.cells (c.set 0 v') 27)).get b = h3.get b) ∧ ∃ c_1 lv, O.cells (c.set 0 v') 27 = O.cells c_1 27 ∧ c_1.size = 1 ∧ c_1.ro = false ∧ c_1.get 0 = lv ∧ OwnS 7 h3.n (g3.set h.n (O.cells (c.set 0 v') 27)) lv (allL (List.take p_1 T.L) a).length (flatC (allL (List.take p_1 T.L) a)) 40 := by
        refine ⟨.inl (by omega), allB_of fun b hb => .inl (by rcases hr3 b hb with h | h; (simp at h; omega); omega), allB_of fun b hb => .inl (by have := hw3 b hb; omega), k - 1, by omega, by rw [hil], p + 1, by omega, by simp, by omega, fun b h1 h2 => ?_, _, _, rfl, by rw [Blk.size_set]; exact gs, by rw [Blk.ro_set]; exact gr, w_bset_eq rfl _, ?_⟩
        · rw [w_set_ne hlt3 h2, kk3 b h1, w_push_ne (by omega), k4 b (by omega), hgo b h1 h2]
        · rw [hsnoc, flatC_snoc, List.length_append]
          exact o3.keep fun b c' e hb => by rw [w_set_ne hlt3 (by omega)]; exact e
      by_cases ha0 : a < 0
      · simp -implicitDefEqProofs (disch := (first | omega | (simp -implicitDefEqProofs only [szs, ne_eq] <;> omega) | fail)) only [go_sem, Nat.reduceAdd, Nat.reduceSub, Nat.reduceMul, Nat.reduceLT, Nat.reduceMod, Nat.reduceDiv, Nat.reduceEqDiff, Nat.reduceBEq, Nat.reduceLeDiff, ↓reduceIte, reduceCtorEq, Int.reduceAdd, Int.reduceSub, Int.reduceLT, Int.reduceLE, Int.reduceBEq, Int.reduceEq, Int.reduceToNat, ir15_l0, t0, u1, u5, t16, t17, t18, x1', x2, x3, hRb, t1', t2, t4, hR1, hR2, htl, e3, hg1, gs, gr, gv, s0, s1, y0, y1, y2, y3, y4, y5, y6, hRg, undefV, appendV_of ap_27, hap, ↓hcv, ↓hon, hg3, ↓hlen]
        exact fin
      · have hac : cp.ac = a := by omega
        simp -implicitDefEqProofs (disch := (first | omega | (simp -implicitDefEqProofs only [szs, ne_eq] <;> omega) | fail)) only [go_sem, Nat.reduceAdd, Nat.reduceSub, Nat.reduceMul, Nat.reduceLT, Nat.reduceMod, Nat.reduceDiv, Nat.reduceEqDiff, Nat.reduceBEq, Nat.reduceLeDiff, ↓reduceIte, reduceCtorEq, Int.reduceAdd, Int.reduceSub, Int.reduceLT, Int.reduceLE, Int.reduceBEq, Int.reduceEq, Int.reduceToNat, ir15_l0, t0, u1, u5, t16, t17, t18, x1', x2, x3, hRb, t1', t2, t4, hR1, hR2, htl, e3, hg1, gs, gr, gv, s0, s1, y0, y1, y2, y3, y4, y5, y6, hRg, undefV, appendV_of ap_27, hap, ↓hcv, ↓hon, hg3, ↓hlen]
        exact fin
    · have ha0 : ¬ a < 0 := fun h => hsel (.inl h)
      have hac : cp.ac ≠ a := fun h => hsel (.inr h)
      simp -implicitDefEqProofs (disch := (first | omega | (simp -implicitDefEqProofs only [szs, ne_eq] <;> omega) | fail)) only [go_sem, Nat.reduceAdd, Nat.reduceSub, Nat.reduceMul, Nat.reduceLT, Nat.reduceMod, Nat.reduceDiv, Nat.reduceEqDiff, Nat.reduceBEq, Nat.reduceLeDiff, ↓reduceIte, reduceCtorEq, Int.reduceAdd, Int.reduceSub, Int.reduceLT, Int.reduceLE, Int.reduceBEq, Int.reduceEq, Int.reduceToNat, ir15_l0, t0, u1, u5, t16, t17, t18, x1', x2, x3, hRb, t1', t2, t4, hR1, hR2, htl, e3, s0, s1, y2, hRg, undefV, ↓hlen]
      refine ⟨.inl (by omega), k - 1, by omega, by rw [hil], p + 1, by omega, by simp, by omega, fun b h1 h2 => by rw [k4 b (by omega), hgo b h1 h2], c, lv, hg1, gs, gr, gv, ?_⟩
      rw [htake, allL_snoc, if_neg hsel]
      exact hown.old fun b hb => k4 b hb
  · obtain rfl : p = T.L.length := by omega
    simp -implicitDefEqProofs (disch := (first | omega | (simp -implicitDefEqProofs only [szs, ne_eq] <;> omega) | fail)) only [go_sem, Nat.reduceAdd, Nat.reduceSub, Nat.reduceMul, Nat.reduceLT, Nat.reduceMod, Nat.reduceDiv, Nat.reduceEqDiff, Nat.reduceBEq, Nat.reduceLeDiff, ↓reduceIte, reduceCtorEq, Int.reduceAdd, Int.reduceSub, Int.reduceLT, Int.reduceLE, Int.reduceBEq, Int.reduceEq, Int.reduceToNat, ir15_l0, t0, u1, u5, t16, t17, t18]
    rw [List.take_length] at hown
    exact ⟨by omega, ⟨c, lv, g1, gs, gv, hown.lr.mono fun b _ h => by have h : h3.n ≤ b := h; omega⟩, fun b hb => by rw [hgo b (by omega) (by omega), k13 b (by omega), k1 b hb]⟩
/-- Going over capabilities. -/
theorem seq40 {h : Heap} {b1 l : Nat} {S W Rr : Set'} {L : List Cp} {lv : V} (I : Nat → Heap → Prop) (J : Heap → Prop) (h1 : ∃ c, h.get b1 = some (.cells c 27) ∧ c.size = 1 ∧ c.get 0 = lv) (hl : CapsV h S lv L) (hR : ∀ b, S b → b < h.n) (hb1 : Rr b1) (hSR : ∀ b, S b → Rr b) (hI0 : I 0 h) (hx : ∀ p g, I p g → h.n ≤ g.n ∧ ∀ b, S b → g.get b = h.get b)
    (hkeep : ∀ p g g', I p g → g.n ≤ g'.n → (∀ b, b < g.n → g'.get b = g.get b) → I p g') (hlen : L.length ≤ 1000000)
    (hround : ∀ (p : Nat) (c : Cp) g, L[p]? = some c → I p g → SY ⟨Try.prog, true⟩ l [c.v] g (fun b => h.n ≤ b ∨ Rr b) (fun b => h.n ≤ b ∨ W b) (fun v g' => v = .bool true ∧ I (p + 1) g' ∨ v = .bool false ∧ J g')) :
    SF ⟨Try.prog, true⟩ 40 [.yield l, .ptr (some (b1, 0))] h Rr W fun _ g => I L.length g ∨ J g := by
  obtain ⟨c1, h1, hs1, hc1⟩ := h1
  have hlenv := LRs.lenV Try.underlying27 hl
  refine SF.go hm Try.func40 ir40_eq ?_
  simp -implicitDefEqProofs (disch := (first | omega | (simp -implicitDefEqProofs only [szs, ne_eq] <;> omega) | fail)) only [go_sem, Nat.reduceAdd, Nat.reduceSub, Nat.reduceMul, Nat.reduceLT, Nat.reduceMod, Nat.reduceDiv, Nat.reduceEqDiff, Nat.reduceBEq, Nat.reduceLeDiff, ↓reduceIte, reduceCtorEq, Int.reduceAdd, Int.reduceSub, Int.reduceLT, Int.reduceLE, Int.reduceBEq, Int.reduceEq, Int.reduceToNat, ir40, h1, hs1, hc1, hb1, ↓hlenv]
  refine GLoop.inv hm (fun k f g => f.mks = [] ∧ f.tm.n = 16 ∧ f.tm.get 0 = some (.yield l) ∧ f.tm.get 5 = some lv ∧ f.tm.get 6 = some (.int .i64 L.length) ∧ ∃ p : Nat, p + k = L.length ∧ f.tm.get 7 = some (.int .i64 p) ∧ I p g) L.length ?_ ?_
  · exact ⟨rfl, rfl, by simp -implicitDefEqProofs (disch := (first | omega | (simp -implicitDefEqProofs only [szs, ne_eq] <;> omega) | fail)) only [go_sem, Nat.reduceAdd, Nat.reduceSub, Nat.reduceMul, Nat.reduceLT, Nat.reduceMod, Nat.reduceDiv, Nat.reduceEqDiff, Nat.reduceBEq, Nat.reduceLeDiff, ↓reduceIte, reduceCtorEq, Int.reduceAdd, Int.reduceSub, Int.reduceLT, Int.reduceLE, Int.reduceBEq, Int.reduceEq, Int.reduceToNat], by simp -implicitDefEqProofs (disch := (first | omega | (simp -implicitDefEqProofs only [szs, ne_eq] <;> omega) | fail)) only [go_sem, Nat.reduceAdd, Nat.reduceSub, Nat.reduceMul, Nat.reduceLT, Nat.reduceMod, Nat.reduceDiv, Nat.reduceEqDiff, Nat.reduceBEq, Nat.reduceLeDiff, ↓reduceIte, reduceCtorEq, Int.reduceAdd, Int.reduceSub, Int.reduceLT, Int.reduceLE, Int.reduceBEq, Int.reduceEq, Int.reduceToNat], by simp -implicitDefEqProofs (disch := (first | omega | (simp -implicitDefEqProofs only [szs, ne_eq] <;> omega) | fail)) only [go_sem, Nat.reduceAdd, Nat.reduceSub, Nat.reduceMul, Nat.reduceLT, Nat.reduceMod, Nat.reduceDiv, Nat.reduceEqDiff, Nat.reduceBEq, Nat.reduceLeDiff, ↓reduceIte, reduceCtorEq, Int.reduceAdd, Int.reduceSub, Int.reduceLT, Int.reduceLE, Int.reduceBEq, Int.reduceEq, Int.reduceToNat], 0, by omega, by simp -implicitDefEqProofs (disch := (first | omega | (simp -implicitDefEqProofs only [szs, ne_eq] <;> omega) | fail)) only [go_sem, Nat.reduceAdd, Nat.reduceSub, Nat.reduceMul, Nat.reduceLT, Nat.reduceMod, Nat.reduceDiv, Nat.reduceEqDiff, Nat.reduceBEq, Nat.reduceLeDiff, ↓reduceIte, reduceCtorEq, Int.reduceAdd, Int.reduceSub, Int.reduceLT, Int.reduceLE, Int.reduceBEq, Int.reduceEq, Int.reduceToNat]; rfl, hI0⟩
  rintro k ⟨⟨n', tr⟩, mks⟩ g ⟨hmk, hn', t0, t5, t6, p, hpk, t7, hI⟩
  simp only [Tm.get_mk] at hmk hn' t0 t5 t6 t7
  subst hmk hn'
  by_cases hpc : p < L.length
  · obtain ⟨hgn, hgo⟩ := hx p g hI
    have hcp : L[p]? = some (L[p]) := List.getElem?_eq_getElem hpc
    generalize hc0 : L[p] = cp at hcp
    have hlg : CapsV g S lv L := LRs.same hl fun b hb _ => hgo b hb
    obtain ⟨b, o, cap, ex, cc, ce, rfl, hSb, x1, x2, y0, y1, y2, y3, y4, y5, y6⟩ := hlg.get hcp
    have hbl := hR b hSb
    have hRb := hSR b hSb
    obtain ⟨g2, e3, n4, ⟨sb, s0, s1, s2, z0, z1, z2, z3, z4, z5, z6⟩, k4⟩ := stC g cp
    have hI2 := hkeep p g g2 hI (by omega) k4
    simp -implicitDefEqProofs (disch := (first | omega | (simp -implicitDefEqProofs only [szs, ne_eq] <;> omega) | fail)) only [go_sem, Nat.reduceAdd, Nat.reduceSub, Nat.reduceMul, Nat.reduceLT, Nat.reduceMod, Nat.reduceDiv, Nat.reduceEqDiff, Nat.reduceBEq, Nat.reduceLeDiff, ↓reduceIte, reduceCtorEq, Int.reduceAdd, Int.reduceSub, Int.reduceLT, Int.reduceLE, Int.reduceBEq, Int.reduceEq, Int.reduceToNat, ir40_l0, t0, t5, t6, t7, x1, x2, hRb, y0, y1, y2, y3, y4, y5, y6, e3, s0, s1, z0, z1, z2, z3, z4, z5, z6]
    refine ⟨.inl (by omega), .inl (by omega), GYield.of ((hround p cp g2 hcp hI2).foot (fun _ h => h) (fun b hb => hb.imp id id)) ?_⟩
    rintro v g3 (⟨rfl, hI3⟩ | ⟨rfl, hJ⟩)
    · simp -implicitDefEqProofs (disch := (first | omega | (simp -implicitDefEqProofs only [szs, ne_eq] <;> omega) | fail)) only [go_sem, Nat.reduceAdd, Nat.reduceSub, Nat.reduceMul, Nat.reduceLT, Nat.reduceMod, Nat.reduceDiv, Nat.reduceEqDiff, Nat.reduceBEq, Nat.reduceLeDiff, ↓reduceIte, reduceCtorEq, Int.reduceAdd, Int.reduceSub, Int.reduceLT, Int.reduceLE, Int.reduceBEq, Int.reduceEq, Int.reduceToNat, t0, t5, t6, t7]
      exact ⟨k - 1, by omega, p + 1, by omega, by simp, hI3⟩
    · simp -implicitDefEqProofs (disch := (first | omega | (simp -implicitDefEqProofs only [szs, ne_eq] <;> omega) | fail)) only [go_sem, Nat.reduceAdd, Nat.reduceSub, Nat.reduceMul, Nat.reduceLT, Nat.reduceMod, Nat.reduceDiv, Nat.reduceEqDiff, Nat.reduceBEq, Nat.reduceLeDiff, ↓reduceIte, reduceCtorEq, Int.reduceAdd, Int.reduceSub, Int.reduceLT, Int.reduceLE, Int.reduceBEq, Int.reduceEq, Int.reduceToNat, t0, t5, t6, t7]
      exact .inr hJ
  · obtain rfl : p = L.length := by omega
    simp -implicitDefEqProofs (disch := (first | omega | (simp -implicitDefEqProofs only [szs, ne_eq] <;> omega) | fail)) only [go_sem, Nat.reduceAdd, Nat.reduceSub, Nat.reduceMul, Nat.reduceLT, Nat.reduceMod, Nat.reduceDiv, Nat.reduceEqDiff, Nat.reduceBEq, Nat.reduceLeDiff, ↓reduceIte, reduceCtorEq, Int.reduceAdd, Int.reduceSub, Int.reduceLT, Int.reduceLE, Int.reduceBEq, Int.reduceEq, Int.reduceToNat, ir40_l0, t0, t5, t6, t7]
    exact .inl hI
end Go.Proofs.Ytehgjkopobkbmaa
