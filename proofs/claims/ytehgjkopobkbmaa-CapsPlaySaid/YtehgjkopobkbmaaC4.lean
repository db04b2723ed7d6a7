/- below: all that was derived of one goes. -/
import Derived.Test.YtehgjkopobkbmaaU
set_option linter.unusedVariables false
set_option linter.unusedSimpArgs false
set_option linter.unusedSimpArgs false
set_option maxRecDepth 100000
set_option linter.unusedVariables false
set_option linter.unusedSimpArgs false
namespace Go.Proofs.Ytehgjkopobkbmaa
open Go Go.Vm
/-- The boxes that go1 holds. -/
structure Boxes (h : Heap) (bt bn bf tb : Nat) (n : Int) : Prop where
  t : ∃ c, h.get bt = some (.cells c 24) ∧ c.size = 1 ∧ c.get 0 = .ptr (some (tb, 0))
  n : ∃ c, h.get bn = some (.cells c 3) ∧ c.size = 1 ∧ c.ro = false ∧ c.get 0 = .int .i64 n
  f : ∃ c, h.get bf = some (.cells c 90) ∧ c.size = 1 ∧ c.get 0 = .func 55 [] [.ptr (some (bt, 0)), .ptr (some (bn, 0)), .ptr (some (bf, 0))]
theorem CapAt.del {h h' : Heap} {tb r : Nat} {T : CS} {k : Int} {es' : Ents} {ck' : Nat} (ht : CapAt h tb r T) (w : WF T) (hk : h'.get tb = h.get tb) (hr : h'.get r = some (.map es' ck')) (hi : IMap es' ck') (hg : ∀ es ck, h.get r = some (.map es ck) → ∀ x, getI es' x = if x = k then none else getI es x) : CapAt h' tb r ⟨T.L.filter fun c => decide (c.id ≠ k), T.last⟩ := by
  obtain ⟨⟨c, t1, t2⟩, es, ck, m1, m2, m3⟩ := ht
  refine ⟨⟨c, by rw [hk]; exact t1, t2⟩, es', ck', hr, hi, fun x => ?_⟩
  rw [hg es ck m1 x, m3, findC_filter w.asc]
  by_cases hx : x = k
  · subst hx
    rw [if_pos rfl]
    cases hf : findC T.L x with
    | none => rfl
    | some c => simp [(findC_some hf).2]
  · rw [if_neg hx]
    cases hf : findC T.L x with
    | none => rfl
    | some c =>
      have := (findC_some hf).2
      have hne : c.id ≠ k := by omega
      simp [hne]
theorem del_count {L : List Cp} (ha : L.Pairwise fun a b => a.id < b.id) {c : Cp} (hc : c ∈ L) : (L.filter fun d => decide (d.id ≠ c.id)).length + 1 = L.length := by
  induction L with
  | nil => cases hc
  | cons x L ih =>
    rw [List.pairwise_cons] at ha
    rcases List.mem_cons.1 hc with rfl | hc
    · have : (L.filter fun d => decide (d.id ≠ c.id)) = L := by
        rw [List.filter_eq_self]
        intro d hd
        have := ha.1 d hd
        exact decide_eq_true (by omega)
      rw [List.filter_cons, if_neg (by simp), this, List.length_cons]
    · have := ha.1 c hc
      have hne : x.id ≠ c.id := by omega
      simp only [List.filter_cons, decide_eq_true hne, if_true, List.length_cons]
      rw [ih ha.2 hc]
theorem filter_len_le {p q : Cp → Bool} : ∀ {l : List Cp}, (∀ x ∈ l, p x = true → q x = true) → (l.filter p).length ≤ (l.filter q).length
  | [], _ => Nat.le_refl _
  | x :: l, h => by
    have ih := filter_len_le (p := p) (q := q) (l := l) fun y hy => h y (by simp [hy])
    have hx := h x (by simp)
    cases hp : p x with
    | false => rw [List.filter_cons, if_neg (by simp [hp])]; rw [List.filter_cons]; split <;> simp <;> omega
    | true => rw [List.filter_cons, if_pos hp, List.filter_cons, if_pos (hx hp)]; simp only [List.length_cons]; omega
theorem measure_lt {L : List Cp} {a : Int} {p : Nat} {c : Cp} (ha : L.Pairwise fun a b => a.id < b.id) (hc : c ∈ L) (hlt : a < c.id) : (((left L a p).filter fun d => decide (d.id ≠ c.id)).filter fun d => decide (c.id < d.id)).length < (L.filter fun d => decide (a < d.id)).length := by
  have h1 := del_count (L := L.filter fun d => decide (a < d.id)) (ha.filter _) (c := c) (List.mem_filter.2 ⟨hc, decide_eq_true hlt⟩)
  have h2 : (((left L a p).filter fun d => decide (d.id ≠ c.id)).filter fun d => decide (c.id < d.id)).length ≤ ((L.filter fun d => decide (a < d.id)).filter fun d => decide (d.id ≠ c.id)).length := by
    unfold left
    rw [List.filter_filter, List.filter_filter, List.filter_filter]
    refine filter_len_le fun x _ hx => ?_
    simp only [Bool.and_eq_true, decide_eq_true_eq] at hx ⊢
    omega
  omega
set_option maxHeartbeats 2000000 in
theorem go1_ok : ∀ (m : Nat) {h : Heap} {R W : Set'} {tb r bt bn bf : Nat} {T : CS} {id n : Int}, (T.L.filter fun c => decide (id < c.id)).length < m → CapAt h tb r T → WF T → Boxes h bt bn bf tb n → (0 ≤ n ∧ n + T.L.length ≤ 1000000) → (∀ b, R b) → W r → W bn →
    SF Try.prog 55 [.int .i64 id, .ptr (some (bt, 0)), .ptr (some (bn, 0)), .ptr (some (bf, 0))] h R W fun v h' => CapAt h' tb r ⟨gone T.L id, T.last⟩ ∧ Boxes h' bt bn bf tb (n + (T.L.length - (gone T.L id).length)) := by
  intro m
  induction m with
  | zero => intro h R W tb r bt bn bf T id n hm'; exact absurd hm' (Nat.not_lt_zero _)
  | succ m ih =>
    intro h R W tb r bt bn bf T id n hm' ht w hB hn hR hWr hWn
    have hwl := w.last
    have hwn := w.len
    obtain ⟨l1, l2, l3⟩ := ht.lt
    obtain ⟨ct, t1, t2, t3, t4, t5⟩ := ht.t
    obtain ⟨c1, x1, x2, x3⟩ := hB.t
    obtain ⟨c2, y1, y2, y3, y4⟩ := hB.n
    obtain ⟨c3, z1, z2, z3⟩ := hB.f
    have lbt := Heap.lt_of_get x1
    have lbn := Heap.lt_of_get y1
    have lbf := Heap.lt_of_get z1
    have e1 : bt ≠ bn := fun e => by rw [e, y1] at x1; cases x1
    have e2 : bf ≠ bn := fun e => by rw [e, y1] at z1; cases z1
    have e3 : tb ≠ bn := fun e => by rw [e, y1] at t1; cases t1
    obtain ⟨es, ck, m1, _⟩ := ht.m
    have e4 : bt ≠ r := fun e => by rw [e, m1] at x1; cases x1
    have e5 : bn ≠ r := fun e => by rw [e, m1] at y1; cases y1
    have e6 : bf ≠ r := fun e => by rw [e, m1] at z1; cases z1
    have hRT : ∀ b, h.n ≤ b ∨ R b := fun b => .inr (hR b)
    have r1 := hR bt
    have r2 := hR tb
    have r3 := hR r
    have r4 := hR bn
    have r5 := hR bf
    refine SF.go hm Try.func55 ir55_eq ?_
    simp -implicitDefEqProofs (disch := (first | omega | (simp -implicitDefEqProofs only [szs, ne_eq] <;> omega) | fail)) only [go_sem, Nat.reduceAdd, Nat.reduceSub, Nat.reduceMul, Nat.reduceLT, Nat.reduceMod, Nat.reduceDiv, Nat.reduceEqDiff, Nat.reduceBEq, Nat.reduceLeDiff, ↓reduceIte, reduceCtorEq, Int.reduceAdd, Int.reduceSub, Int.reduceLT, Int.reduceLE, Int.reduceBEq, Int.reduceEq, Int.reduceToNat, ir55, x1, x2, x3, t1, t2, t4, r1, r2]
    refine GCall.of keysf_ok ?_
    rintro v h2 ⟨rfl, eh2⟩
    have n2 : h2.n = h.n + 1 := by rw [eh2]; simp
    have k2 : ∀ b, b < h.n → h2.get b = h.get b := fun b hb => by rw [eh2]; exact w_push_ne (by omega) _
    have b2 : h2.get h.n = some (.cells (Blk.of [.map (some r)]) 59) := by rw [eh2]; exact w_push_eq rfl _
    clear eh2
    simp -implicitDefEqProofs (disch := (first | omega | (simp -implicitDefEqProofs only [szs, ne_eq] <;> omega) | fail)) only [go_sem, Nat.reduceAdd, Nat.reduceSub, Nat.reduceMul, Nat.reduceLT, Nat.reduceMod, Nat.reduceDiv, Nat.reduceEqDiff, Nat.reduceBEq, Nat.reduceLeDiff, ↓reduceIte, reduceCtorEq, Int.reduceAdd, Int.reduceSub, Int.reduceLT, Int.reduceLE, Int.reduceBEq, Int.reduceEq, Int.reduceToNat]
    refine GCall.of (((ids_ok (ht.old k2) w ⟨_, b2, rfl, rfl⟩).foot (fun b _ => .inr (hR b)) (fun b h => h.elim))) ?_
    rintro v h3 ⟨hlr, n3, k3⟩
    have hlen := hlr.lenV Try.underlying45
    have hil : (idsV T.L).length = T.L.length := by simp [idsV]
    rw [hil] at hlen
    have k13 : ∀ b, b < h.n → h3.get b = h.get b := fun b hb => by rw [k3 b (by omega), k2 b hb]
    have hleft : ∀ p, (left T.L id p).length ≤ T.L.length := fun p => left_len T.L id p
    simp -implicitDefEqProofs (disch := (first | omega | (simp -implicitDefEqProofs only [szs, ne_eq] <;> omega) | fail)) only [go_sem, Nat.reduceAdd, Nat.reduceSub, Nat.reduceMul, Nat.reduceLT, Nat.reduceMod, Nat.reduceDiv, Nat.reduceEqDiff, Nat.reduceBEq, Nat.reduceLeDiff, ↓reduceIte, reduceCtorEq, Int.reduceAdd, Int.reduceSub, Int.reduceLT, Int.reduceLE, Int.reduceBEq, Int.reduceEq, Int.reduceToNat, ↓hlen]
    refine GLoop.inv hm (fun k f g => f.mks = [] ∧ f.tm.n = 47 ∧ f.tm.get 0 = some (.int .i64 id) ∧ f.tm.get 1 = some (.ptr (some (bt, 0))) ∧ f.tm.get 2 = some (.ptr (some (bn, 0))) ∧ f.tm.get 3 = some (.ptr (some (bf, 0))) ∧ f.tm.get 14 = some v ∧ f.tm.get 15 = some (.int .i64 T.L.length) ∧ ∃ p : Nat, p + k = T.L.length ∧ f.tm.get 16 = some (.int .i64 p) ∧ h3.n ≤ g.n ∧ (∀ b, b < h3.n → b ≠ r → b ≠ bn → g.get b = h3.get b) ∧ CapAt g tb r ⟨left T.L id p, T.last⟩ ∧ ∃ c, g.get bn = some (.cells c 3) ∧ c.size = 1 ∧ c.ro = false ∧ c.get 0 = .int .i64 (n + (T.L.length - (left T.L id p).length))) T.L.length ?_ ?_
    · exact ⟨rfl, rfl, by simp -implicitDefEqProofs (disch := (first | omega | (simp -implicitDefEqProofs only [szs, ne_eq] <;> omega) | fail)) only [go_sem, Nat.reduceAdd, Nat.reduceSub, Nat.reduceMul, Nat.reduceLT, Nat.reduceMod, Nat.reduceDiv, Nat.reduceEqDiff, Nat.reduceBEq, Nat.reduceLeDiff, ↓reduceIte, reduceCtorEq, Int.reduceAdd, Int.reduceSub, Int.reduceLT, Int.reduceLE, Int.reduceBEq, Int.reduceEq, Int.reduceToNat], by simp -implicitDefEqProofs (disch := (first | omega | (simp -implicitDefEqProofs only [szs, ne_eq] <;> omega) | fail)) only [go_sem, Nat.reduceAdd, Nat.reduceSub, Nat.reduceMul, Nat.reduceLT, Nat.reduceMod, Nat.reduceDiv, Nat.reduceEqDiff, Nat.reduceBEq, Nat.reduceLeDiff, ↓reduceIte, reduceCtorEq, Int.reduceAdd, Int.reduceSub, Int.reduceLT, Int.reduceLE, Int.reduceBEq, Int.reduceEq, Int.reduceToNat], by simp -implicitDefEqProofs (disch := (first | omega | (simp -implicitDefEqProofs only [szs, ne_eq] <;> omega) | fail)) only [go_sem, Nat.reduceAdd, Nat.reduceSub, Nat.reduceMul, Nat.reduceLT, Nat.reduceMod, Nat.reduceDiv, Nat.reduceEqDiff, Nat.reduceBEq, Nat.reduceLeDiff, ↓reduceIte, reduceCtorEq, Int.reduceAdd, Int.reduceSub, Int.reduceLT, Int.reduceLE, Int.reduceBEq, Int.reduceEq, Int.reduceToNat], by simp -implicitDefEqProofs (disch := (first | omega | (simp -implicitDefEqProofs only [szs, ne_eq] <;> omega) | fail)) only [go_sem, Nat.reduceAdd, Nat.reduceSub, Nat.reduceMul, Nat.reduceLT, Nat.reduceMod, Nat.reduceDiv, Nat.reduceEqDiff, Nat.reduceBEq, Nat.reduceLeDiff, ↓reduceIte, reduceCtorEq, Int.reduceAdd, Int.reduceSub, Int.reduceLT, Int.reduceLE, Int.reduceBEq, Int.reduceEq, Int.reduceToNat], by simp -implicitDefEqProofs (disch := (first | omega | (simp -implicitDefEqProofs only [szs, ne_eq] <;> omega) | fail)) only [go_sem, Nat.reduceAdd, Nat.reduceSub, Nat.reduceMul, Nat.reduceLT, Nat.reduceMod, Nat.reduceDiv, Nat.reduceEqDiff, Nat.reduceBEq, Nat.reduceLeDiff, ↓reduceIte, reduceCtorEq, Int.reduceAdd, Int.reduceSub, Int.reduceLT, Int.reduceLE, Int.reduceBEq, Int.reduceEq, Int.reduceToNat], by simp -implicitDefEqProofs (disch := (first | omega | (simp -implicitDefEqProofs only [szs, ne_eq] <;> omega) | fail)) only [go_sem, Nat.reduceAdd, Nat.reduceSub, Nat.reduceMul, Nat.reduceLT, Nat.reduceMod, Nat.reduceDiv, Nat.reduceEqDiff, Nat.reduceBEq, Nat.reduceLeDiff, ↓reduceIte, reduceCtorEq, Int.reduceAdd, Int.reduceSub, Int.reduceLT, Int.reduceLE, Int.reduceBEq, Int.reduceEq, Int.reduceToNat], 0, by omega, by simp -implicitDefEqProofs (disch := (first | omega | (simp -implicitDefEqProofs only [szs, ne_eq] <;> omega) | fail)) only [go_sem, Nat.reduceAdd, Nat.reduceSub, Nat.reduceMul, Nat.reduceLT, Nat.reduceMod, Nat.reduceDiv, Nat.reduceEqDiff, Nat.reduceBEq, Nat.reduceLeDiff, ↓reduceIte, reduceCtorEq, Int.reduceAdd, Int.reduceSub, Int.reduceLT, Int.reduceLE, Int.reduceBEq, Int.reduceEq, Int.reduceToNat]; rfl, Nat.le_refl _, fun _ _ _ _ => rfl, by rw [left_zero]; exact ht.old k13, c2, by rw [k13 _ lbn]; exact y1, y2, y3, by rw [left_zero, y4]; congr 1; omega⟩
    rintro k ⟨⟨n', tr⟩, mks⟩ g ⟨hmk, hn', t0, u1, u2, u3, t14, t15, p, hpk, t16, hgn, hgo, hcg, c, g1, g2, g3, g4⟩
    simp only [Tm.get_mk] at hmk hn' t0 u1 u2 u3 t14 t15 t16
    subst hmk hn'
    have hold : ∀ b, b < h.n → b ≠ r → b ≠ bn → g.get b = h.get b := fun b h1 h4 h5 => by rw [hgo b (by omega) h4 h5, k13 b h1]
    have x1' := (hold bt lbt e4 e1).trans x1
    have z1' := (hold bf lbf e6 e2).trans z1
    have t1' := (hold tb l1 l3 e3).trans t1
    by_cases hp : p < T.L.length
    · have hcp : T.L[p]? = some (T.L[p]) := List.getElem?_eq_getElem hp
      generalize hc0 : T.L[p] = cp at hcp
      have hmem := List.mem_of_getElem? hcp
      obtain ⟨bi, oi, capi, exi, ci, cei, rfl, hbi, i1, i2, i3⟩ := hlr.get (i := p) (by omega)
      rw [hil] at i2 hlen t14
      have i3 : ci.get (oi + p) = .int .i64 cp.id := by
        rw [i3, idsV, List.getD_eq_getElem?_getD, List.getElem?_map, hcp]; rfl
      have hbl := Heap.lt_of_get i1
      have i1' : g.get bi = some (.cells ci cei) := by rw [hgo _ hbl (by omega) (by omega)]; exact i1
      have hRb := hR bi
      have hlk := hcg.look cp.id
      have wl : WF ⟨left T.L id p, T.last⟩ := w.left id p
      by_cases hpar : cp.par = id
      · have hkl := kid_left w.asc (fun c hc => (w.par c hc).2) hcp hpar
        rw [find_left w.asc hmem hkl] at hlk
        simp only [Option.map_some, Option.getD_some, Option.isSome_some, Cp.v, Cp.l] at hlk
        obtain ⟨ga, ea, na, ⟨sb, s0, s1, s2, q0, q1, q2, q3, q4, q5, q6⟩, ka⟩ := stC g cp
        obtain ⟨es2, ck2, v1, v2, v3⟩ := hcg.m
        have lrg := Heap.lt_of_get v1
        have v1' : ga.get r = some (.map es2 ck2) := by rw [ka _ lrg]; exact v1
        obtain ⟨es3, hdel, d1, d2, d3⟩ := del_int (P := Try.prog) (t := 59) Try.underlying59 Try.underlying2 v1' v2 cp.id
        have t1a := (ka _ (Heap.lt_of_get t1')).trans t1'
        have x1a := (ka _ (Heap.lt_of_get x1')).trans x1'
        have z1a := (ka _ (Heap.lt_of_get z1')).trans z1'
        have g1a := (ka _ (Heap.lt_of_get g1)).trans g1
        have hle := hleft p
        have hcnt := del_count (L := left T.L id p) wl.asc (c := cp) (mem_left.2 ⟨hmem, hkl⟩)
        simp -implicitDefEqProofs (disch := (first | omega | (simp -implicitDefEqProofs only [szs, ne_eq] <;> omega) | fail)) only [go_sem, Nat.reduceAdd, Nat.reduceSub, Nat.reduceMul, Nat.reduceLT, Nat.reduceMod, Nat.reduceDiv, Nat.reduceEqDiff, Nat.reduceBEq, Nat.reduceLeDiff, ↓reduceIte, reduceCtorEq, Int.reduceAdd, Int.reduceSub, Int.reduceLT, Int.reduceLE, Int.reduceBEq, Int.reduceEq, Int.reduceToNat, ir55_l0, t0, u1, u2, u3, t14, t15, t16, i1', i2, i3, hRb, x1', x2, x3, t1', t2, t4, r1, r2, r3, hlk, ea, s0, s1, q1, undefV, ↓hlen, t1a, x1a, hdel, hWr, g1a, g2, g3, g4, hWn, z1a, z2, z3, r4, r5]
        refine ⟨.inl (by omega), .inl (by omega), ?_⟩
        obtain ⟨gd, ed⟩ : ∃ gd, gd = (ga.set r (.map es3 ck2)).set bn (.cells (c.set 0 (.int .i64 (n + (T.L.length - (left T.L id p).length) + 1))) 3) := ⟨_, rfl⟩
        rw [← ed]
        have lra : r < ga.n := Heap.lt_of_get v1'
        have lna : bn < (ga.set r (.map es3 ck2)).n := by rw [Heap.n_set]; exact Heap.lt_of_get g1a
        have nd : gd.n = ga.n := by rw [ed]; simp
        have kd : ∀ b, b ≠ r → b ≠ bn → gd.get b = ga.get b := fun b h1 h4 => by rw [ed, w_set_ne lna h4, w_set_ne lra h1]
        have rd : gd.get r = some (.map es3 ck2) := by rw [ed, w_set_ne lna (Ne.symm e5), w_set_eq lra rfl]
        have bd : gd.get bn = some (.cells (c.set 0 (.int .i64 (n + (T.L.length - (left T.L id p).length) + 1))) 3) := by rw [ed, w_set_eq lna rfl]
        have htd : CapAt gd tb r ⟨(left T.L id p).filter fun d => decide (d.id ≠ cp.id), T.last⟩ := hcg.del wl (by rw [kd tb l3 e3, ka _ (Heap.lt_of_get t1')]) rd d1 (fun es ck he x => by
          rw [v1] at he; cases he; exact d2 x)
        have hBd : Boxes gd bt bn bf tb (n + (T.L.length - (left T.L id p).length) + 1) := ⟨⟨c1, by rw [kd bt e4 e1]; exact x1a, x2, x3⟩, ⟨_, bd, by rw [Blk.size_set]; exact g2, by rw [Blk.ro_set]; exact g3, w_bset_eq rfl _⟩, ⟨c3, by rw [kd bf e6 e2]; exact z1a, z2, z3⟩⟩
        clear ed
        have hms := measure_lt (p := p) w.asc hmem (show id < cp.id by have := (w.par cp hmem).2; omega)
        have hln : (((left T.L id p).filter fun d => decide (d.id ≠ cp.id)).length : Int) + 1 = (left T.L id p).length := by omega
        refine GCall.of (((ih (R := R) (W := fun b => b = r ∨ b = bn) (show (((left T.L id p).filter fun d => decide (d.id ≠ cp.id)).filter fun d => decide (cp.id < d.id)).length < m by omega) htd (wl.filter _) hBd ⟨by omega, by show _ + (((left T.L id p).filter fun d => decide (d.id ≠ cp.id)).length : Int) ≤ _; omega⟩ hR (.inl rfl) (.inr rfl)).kept).foot (fun b h => .inr h) (fun b h => by rcases h with rfl | rfl <;> first | exact .inr hWr | exact .inr hWn)) ?_
        rintro v g' ⟨⟨ht', hB'⟩, vf⟩
        have n' := vf.n
        have hyes := left_yes (fun c hc => (w.par c hc).2) hcp hpar
        rw [hyes] at ht' hB'
        obtain ⟨c', w1, w2, w3, w4⟩ := hB'.n
        simp -implicitDefEqProofs (disch := (first | omega | (simp -implicitDefEqProofs only [szs, ne_eq] <;> omega) | fail)) only [go_sem, Nat.reduceAdd, Nat.reduceSub, Nat.reduceMul, Nat.reduceLT, Nat.reduceMod, Nat.reduceDiv, Nat.reduceEqDiff, Nat.reduceBEq, Nat.reduceLeDiff, ↓reduceIte, reduceCtorEq, Int.reduceAdd, Int.reduceSub, Int.reduceLT, Int.reduceLE, Int.reduceBEq, Int.reduceEq, Int.reduceToNat, t0, u1, u2, u3, t14, t15, t16]
        refine ⟨k - 1, by omega, by rw [hil], p + 1, by omega, by simp, by omega, fun b h1 h4 h5 => ?_, ht', c', w1, w2, w3, ?_⟩
        · rw [vf.get b (by omega) (by rintro (h | h) <;> omega), kd b h4 h5, ka b (by omega)]
          exact hgo b h1 h4 h5
        · rw [w4]
          congr 1
          show _ + ((((left T.L id p).filter fun d => decide (d.id ≠ cp.id)).length : Int) - _) = _
          omega
      · have hno := left_no hcp hpar
        have fin : ∀ ga : Heap, ga.n = g.n + 1 → (∀ b, b < g.n → ga.get b = g.get b) → ∃ k', k' < k ∧ V.slice (some (bi, oi)) T.L.length capi exi = V.slice (some (bi, oi)) (idsV T.L).length capi exi ∧ ∃ p_1, p_1 + k' = T.L.length ∧ V.int IntKind.i64 (↑p + 1) = V.int IntKind.i64 ↑p_1 ∧ h3.n ≤ ga.n ∧ (∀ (b : Nat), b < h3.n → b ≠ r → b ≠ bn → ga.get b = h3.get b) ∧ CapAt ga tb r ⟨left T.L id p_1, T.last⟩ ∧ ∃ c, ga.get bn = some (.cells c 3) ∧ c.size = 1 ∧ c.ro = false ∧ c.get 0 = .int .i64 (n + (T.L.length - (left T.L id p_1).length)) := fun ga na ka =>
          ⟨k - 1, by omega, by rw [hil], p + 1, by omega, by simp, by omega, fun b h1 h4 h5 => by rw [ka b (by omega)]; exact hgo b h1 h4 h5, by rw [hno]; exact hcg.old ka, c, by rw [ka _ (Heap.lt_of_get g1)]; exact g1, g2, g3, by rw [hno]; exact g4⟩
        by_cases hg : Gn T.L id p cp.id
        · rw [find_left_none hg] at hlk
          simp only [Option.map_none, Option.getD_none, Option.isSome_none, Cp.v, Cp.l, cp0] at hlk
          obtain ⟨ga, ea, na, ⟨sb, s0, s1, s2, q0, q1, q2, q3, q4, q5, q6⟩, ka⟩ := stC g cp0
          simp only [cp0] at ea
          simp -implicitDefEqProofs (disch := (first | omega | (simp -implicitDefEqProofs only [szs, ne_eq] <;> omega) | fail)) only [go_sem, Nat.reduceAdd, Nat.reduceSub, Nat.reduceMul, Nat.reduceLT, Nat.reduceMod, Nat.reduceDiv, Nat.reduceEqDiff, Nat.reduceBEq, Nat.reduceLeDiff, ↓reduceIte, reduceCtorEq, Int.reduceAdd, Int.reduceSub, Int.reduceLT, Int.reduceLE, Int.reduceBEq, Int.reduceEq, Int.reduceToNat, ir55_l0, t0, u1, u2, u3, t14, t15, t16, i1', i2, i3, hRb, x1', x2, x3, t1', t2, t4, r1, r2, r3, hlk, ea, s0, s1, q1, undefV, ↓hlen]
          refine ⟨.inl (by omega), ?_⟩
          exact fin ga na ka
        · rw [find_left w.asc hmem hg] at hlk
          simp only [Option.map_some, Option.getD_some, Option.isSome_some, Cp.v, Cp.l] at hlk
          obtain ⟨ga, ea, na, ⟨sb, s0, s1, s2, q0, q1, q2, q3, q4, q5, q6⟩, ka⟩ := stC g cp
          simp -implicitDefEqProofs (disch := (first | omega | (simp -implicitDefEqProofs only [szs, ne_eq] <;> omega) | fail)) only [go_sem, Nat.reduceAdd, Nat.reduceSub, Nat.reduceMul, Nat.reduceLT, Nat.reduceMod, Nat.reduceDiv, Nat.reduceEqDiff, Nat.reduceBEq, Nat.reduceLeDiff, ↓reduceIte, reduceCtorEq, Int.reduceAdd, Int.reduceSub, Int.reduceLT, Int.reduceLE, Int.reduceBEq, Int.reduceEq, Int.reduceToNat, ir55_l0, t0, u1, u2, u3, t14, t15, t16, i1', i2, i3, hRb, x1', x2, x3, t1', t2, t4, r1, r2, r3, hlk, ea, s0, s1, q1, undefV, ↓hlen]
          refine ⟨.inl (by omega), .inl (by omega), ?_⟩
          exact fin ga na ka
    · obtain rfl : p = T.L.length := by omega
      simp -implicitDefEqProofs (disch := (first | omega | (simp -implicitDefEqProofs only [szs, ne_eq] <;> omega) | fail)) only [go_sem, Nat.reduceAdd, Nat.reduceSub, Nat.reduceMul, Nat.reduceLT, Nat.reduceMod, Nat.reduceDiv, Nat.reduceEqDiff, Nat.reduceBEq, Nat.reduceLeDiff, ↓reduceIte, reduceCtorEq, Int.reduceAdd, Int.reduceSub, Int.reduceLT, Int.reduceLE, Int.reduceBEq, Int.reduceEq, Int.reduceToNat, ir55_l0, t0, u1, u2, u3, t14, t15, t16]
      rw [left_end] at hcg g4
      exact ⟨hcg, ⟨c1, x1', x2, x3⟩, ⟨c, g1, g2, g3, g4⟩, ⟨c3, z1', z2, z3⟩⟩
end Go.Proofs.Ytehgjkopobkbmaa
