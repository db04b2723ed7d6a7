/- The document's table: add, Root, Under, Gone, May. -/
import Derived.Test.YtehgjkopobkbmaaQ1
set_option linter.unusedVariables false
set_option linter.unusedSimpArgs false
set_option linter.unusedSimpArgs false
set_option maxRecDepth 100000
set_option linter.unusedVariables false
set_option linter.unusedSimpArgs false
namespace Go.Proofs.Ytehgjkopobkbmaa
open Go Go.Vm
open Classical
set_option maxHeartbeats 1000000 in
theorem radd_ok {h : Heap} {R W : Set'} {n0 rd : Nat} {T : CS} (hr : RefC h n0 rd T) (w : WF T) (hR : ∀ b, R b) (hW : ∀ b, b = rd ∨ n0 ≤ b → W b) (c : Cp) (hc : c.id = 0) :
    SF Try.prog 49 [.ptr (some (rd, 0)), c.v] h R W fun v h' => v = .tuple [.int .i64 (addI T c), .int .i64 (addE T c)] ∧ RefC h' n0 rd (addT T c) := by
  obtain ⟨id, par, ac, mk, kd, ob, rt⟩ := c
  have hc : id = 0 := hc
  subst hc
  have hwl := w.last
  have hwn := w.len
  have hR0 := hR rd
  have hW0 := hW rd (.inl rfl)
  have hlt := hr.lt
  refine SF.go hm Try.func49 ir49_eq ?_
  obtain ⟨h2, e2, n2, g2, k2⟩ : ∃ h2, h.push (O.cells (Blk.of [V.int IntKind.i64 0, V.int IntKind.i64 par, V.int IntKind.i64 ac, V.int IntKind.i64 mk, V.int IntKind.i64 kd, V.int IntKind.i64 ob, V.int IntKind.i64 rt]) 40) = h2 ∧ h2.n = h.n + 1 ∧ h2.get h.n = some (O.cells (Blk.of [V.int IntKind.i64 0, V.int IntKind.i64 par, V.int IntKind.i64 ac, V.int IntKind.i64 mk, V.int IntKind.i64 kd, V.int IntKind.i64 ob, V.int IntKind.i64 rt]) 40) ∧ ∀ b, b < h.n → h2.get b = h.get b := ⟨_, rfl, by simp, w_push_eq rfl _, fun b hb => w_push_ne (by omega) _⟩
  simp -implicitDefEqProofs (disch := (first | omega | (simp -implicitDefEqProofs only [szs, ne_eq] <;> omega) | fail)) only [go_sem, Nat.reduceAdd, Nat.reduceSub, Nat.reduceMul, Nat.reduceLT, Nat.reduceMod, Nat.reduceDiv, Nat.reduceEqDiff, Nat.reduceBEq, Nat.reduceLeDiff, ↓reduceIte, reduceCtorEq, Int.reduceAdd, Int.reduceSub, Int.reduceLT, Int.reduceLE, Int.reduceBEq, Int.reduceEq, Int.reduceToNat, ir49, Cp.v, Cp.l, e2, g2]
  clear e2
  have hr2 := hr.old (by omega) k2
  refine GCall.of (rmade_ok hr2 w (fun b => .inr (hR b)) mk) ?_
  rintro v h' ⟨rfl, rfl⟩
  obtain ⟨ct, lv, r1, r2, r3, r4, r5, r6⟩ := hr.t
  have hrd40 : ∀ b c, h.get b = some (.cells c 40) → b ≠ rd := fun b c hb e => by rw [e, r1] at hb; cases hb
  have r1 := (k2 rd (by omega)).trans r1
  by_cases h32 : 32 ≤ madeC T.L mk
  · simp -implicitDefEqProofs (disch := (first | omega | (simp -implicitDefEqProofs only [szs, ne_eq] <;> omega) | fail)) only [go_sem, Nat.reduceAdd, Nat.reduceSub, Nat.reduceMul, Nat.reduceLT, Nat.reduceMod, Nat.reduceDiv, Nat.reduceEqDiff, Nat.reduceBEq, Nat.reduceLeDiff, ↓reduceIte, reduceCtorEq, Int.reduceAdd, Int.reduceSub, Int.reduceLT, Int.reduceLE, Int.reduceBEq, Int.reduceEq, Int.reduceToNat, addI, addE, addT, h32]
    exact hr2
  · have hne : rd ≠ h.n := by omega
    have hrl : rd < h'.n := by omega
    have hnl : h.n < h'.n := by omega
    obtain ⟨h3, e3, n3, b3, t3, k3⟩ : ∃ h3, ((h'.set rd (O.cells (ct.set 1 (V.int IntKind.i64 (T.last + 1))) 29)).set h.n (O.cells ((Blk.of [V.int IntKind.i64 0, V.int IntKind.i64 par, V.int IntKind.i64 ac, V.int IntKind.i64 mk, V.int IntKind.i64 kd, V.int IntKind.i64 ob, V.int IntKind.i64 rt]).set 0 (V.int IntKind.i64 (T.last + 1))) 40)) = h3 ∧ h3.n = h'.n ∧ h3.get h.n = some (O.cells ((Blk.of [V.int IntKind.i64 0, V.int IntKind.i64 par, V.int IntKind.i64 ac, V.int IntKind.i64 mk, V.int IntKind.i64 kd, V.int IntKind.i64 ob, V.int IntKind.i64 rt]).set 0 (V.int IntKind.i64 (T.last + 1))) 40) ∧ h3.get rd = some (O.cells (ct.set 1 (V.int IntKind.i64 (T.last + 1))) 29) ∧ ∀ b, b < h'.n → b ≠ rd → b ≠ h.n → h3.get b = h'.get b :=
      ⟨_, rfl, by simp, w_set_eq (by simp; omega) rfl _, by rw [w_set_ne (by simp; omega) (by omega), w_set_eq hrl rfl], fun b hb h1 h2 => by rw [w_set_ne (by simp; omega) h2, w_set_ne hrl h1]⟩
    let d : Cp := ⟨T.last + 1, par, ac, mk, kd, ob, rt⟩
    have one : allOne d.l = true := rfl
    have hlen7 : d.l.length = 1 * 7 := rfl
    have r6' : OwnS 7 n0 h3 lv T.L.length (flatC T.L) 40 := r6.keep fun b c hb hb0 => by
      have hbl := Heap.lt_of_get hb
      rw [k3 b (by omega) (hrd40 b c hb) (by omega), k2 b hbl]; exact hb
    obtain ⟨v', g3, r3', w3, hap, o3, m3, kk3, hw3, kw3, ht3, hr3⟩ := app_ownS (n0 := n0) (h := h3.push (.cells (Blk.of d.l) 40)) (v := lv) (x := .slice (some (h3.n, 0)) 1 1 true) (n := T.L.length) (m := 1) (news := d.l) (rs := [h3.n]) (e := 40) (sz := 7) (bytes := 56) (r6'.old fun b hb => by rw [w_push_ne (by omega)]) (by simp; omega) rfl (firstS (e := 40) (w_push_eq rfl _) (Nat.le_refl _) (gets_all _ rfl)) hlen7 one (by omega) (by omega) (by omega)
    have m3' : h3.n + 1 ≤ g3.n := by simpa using m3
    have hcv := o3.lr.cells
    have hon := o3.lr.one
    have hg3 : g3.get rd = some (O.cells (ct.set 1 (V.int IntKind.i64 (T.last + 1))) 29) := by
      rw [kw3 rd (by simp; omega) (fun hm => by
        obtain ⟨_, c', hc'⟩ := ht3 _ hm
        rw [w_push_ne (by omega), t3] at hc'; cases hc'), w_push_ne (by omega)]; exact t3
    have hlt3 := Heap.lt_of_get hg3
    have hg3b : g3.get h.n = some (O.cells ((Blk.of [V.int IntKind.i64 0, V.int IntKind.i64 par, V.int IntKind.i64 ac, V.int IntKind.i64 mk, V.int IntKind.i64 kd, V.int IntKind.i64 ob, V.int IntKind.i64 rt]).set 0 (V.int IntKind.i64 (T.last + 1))) 40) := by
      rw [kw3 h.n (by simp; omega) (fun hm => by have := (ht3 _ hm).1; have := r6.sblk; omega), w_push_ne (by omega)]; exact b3
    have hbn := Heap.lt_of_get hg3b
    simp only [d, Cp.l] at hap
    have hT : addT T { id := 0, par := par, ac := ac, mr := mk, kd := kd, ob := ob, rt := rt } = ⟨T.L ++ [{ id := T.last + 1, par := par, ac := ac, mr := mk, kd := kd, ob := ob, rt := rt }], T.last + 1⟩ := if_neg h32
    rw [hT, addI, addE, if_neg h32, if_neg h32]
    simp -implicitDefEqProofs (disch := (first | omega | (simp -implicitDefEqProofs only [szs, ne_eq] <;> omega) | fail)) only [go_sem, Nat.reduceAdd, Nat.reduceSub, Nat.reduceMul, Nat.reduceLT, Nat.reduceMod, Nat.reduceDiv, Nat.reduceEqDiff, Nat.reduceBEq, Nat.reduceLeDiff, ↓reduceIte, reduceCtorEq, Int.reduceAdd, Int.reduceSub, Int.reduceLT, Int.reduceLE, Int.reduceBEq, Int.reduceEq, Int.reduceToNat, r1, r2, r3, r4, r5, hR0, hW0, g2, e3, b3, t3, undefV, appendV_of ap_27, hap, ↓hcv, ↓hon, hg3, hg3b]
    refine ⟨?_, ⟨fun b _ _ => .inr (hR b), fun b _ hb => .inr (hW b (.inr (hw3 b hb)))⟩, ⟨by rw [Heap.n_set]; omega, by rw [Heap.n_set]; omega⟩, _, _, w_set_eq hlt3 rfl _, by rw [Blk.size_set, Blk.size_set]; exact r2, by rw [Blk.ro_set, Blk.ro_set]; exact r3, w_bset_eq rfl _, by simp -implicitDefEqProofs (disch := (first | omega | (simp -implicitDefEqProofs only [szs, ne_eq] <;> omega) | fail)) only [go_sem, Nat.reduceAdd, Nat.reduceSub, Nat.reduceMul, Nat.reduceLT, Nat.reduceMod, Nat.reduceDiv, Nat.reduceEqDiff, Nat.reduceBEq, Nat.reduceLeDiff, ↓reduceIte, reduceCtorEq, Int.reduceAdd, Int.reduceSub, Int.reduceLT, Int.reduceLE, Int.reduceBEq, Int.reduceEq, Int.reduceToNat], ?_⟩
    · simp only [List.not_mem_nil, or_false, false_or, and_false, false_and, false_implies, implies_true, not_false_eq_true, List.mem_singleton, List.mem_cons, and_true, true_and]
      all_goals (try and_intros)
      all_goals (intros; omega)
    · have e : (T.L ++ [d]).length = T.L.length + 1 := by simp
      show OwnS 7 n0 _ v' (T.L ++ [d]).length (flatC (T.L ++ [d])) 40
      rw [e, flatC_snoc]
      exact o3.keep fun b c' hb hb0 => by rw [w_set_ne hlt3 (fun e => by rw [e, hg3] at hb; cases hb)]; exact hb
theorem WF.fresh {T : CS} (w : WF T) {k : Int} {c : Cp} (h : findC T.L k = some c) : 0 ≤ k ∧ k ≤ T.last := by
  obtain ⟨h1, h2⟩ := findC_some h
  have := w.ids c h1
  omega
set_option maxHeartbeats 1000000 in
theorem rroot_ok {h : Heap} {R W : Set'} {n0 rd : Nat} {T : CS} (hr : RefC h n0 rd T) (w : WF T) (hR : ∀ b, R b) (hW : ∀ b, b = rd ∨ n0 ≤ b → W b) (a kd ob rt : Int) :
    SF Try.prog 30 [.ptr (some (rd, 0)), .int .i64 a, .int .i64 kd, .int .i64 ob, .int .i64 rt] h R W fun v h' => v = .tuple [.int .i64 (rootI T a kd ob rt), .int .i64 (rootE T a kd ob rt)] ∧ RefC h' n0 rd (rootT T a kd ob rt) := by
  have hlt := hr.lt
  refine SF.go hm Try.func30 ir30_eq ?_
  simp -implicitDefEqProofs (disch := (first | omega | (simp -implicitDefEqProofs only [szs, ne_eq] <;> omega) | fail)) only [go_sem, Nat.reduceAdd, Nat.reduceSub, Nat.reduceMul, Nat.reduceLT, Nat.reduceMod, Nat.reduceDiv, Nat.reduceEqDiff, Nat.reduceBEq, Nat.reduceLeDiff, ↓reduceIte, reduceCtorEq, Int.reduceAdd, Int.reduceSub, Int.reduceLT, Int.reduceLE, Int.reduceBEq, Int.reduceEq, Int.reduceToNat, ir30]
  refine GCall.of (raccount_ok a) ?_
  rintro v h1 ⟨rfl, rfl⟩
  by_cases ha : okA a
  · rw [decide_eq_true ha]
    by_cases hk : 0 ≤ kd
    · by_cases ho : 0 ≤ ob
      · simp -implicitDefEqProofs (disch := (first | omega | (simp -implicitDefEqProofs only [szs, ne_eq] <;> omega) | fail)) only [go_sem, Nat.reduceAdd, Nat.reduceSub, Nat.reduceMul, Nat.reduceLT, Nat.reduceMod, Nat.reduceDiv, Nat.reduceEqDiff, Nat.reduceBEq, Nat.reduceLeDiff, ↓reduceIte, reduceCtorEq, Int.reduceAdd, Int.reduceSub, Int.reduceLT, Int.reduceLE, Int.reduceBEq, Int.reduceEq, Int.reduceToNat, undefV]
        refine GCall.of (rrights_ok rt) ?_
        rintro v h1 ⟨rfl, rfl⟩
        by_cases hrt : okR rt
        · rw [decide_eq_true hrt]
          have hok : rootOk a kd ob rt := ⟨ha, hk, ho, hrt⟩
          rw [rootI, rootE, rootT, if_pos hok, if_pos hok, if_pos hok]
          simp -implicitDefEqProofs (disch := (first | omega | (simp -implicitDefEqProofs only [szs, ne_eq] <;> omega) | fail)) only [go_sem, Nat.reduceAdd, Nat.reduceSub, Nat.reduceMul, Nat.reduceLT, Nat.reduceMod, Nat.reduceDiv, Nat.reduceEqDiff, Nat.reduceBEq, Nat.reduceLeDiff, ↓reduceIte, reduceCtorEq, Int.reduceAdd, Int.reduceSub, Int.reduceLT, Int.reduceLE, Int.reduceBEq, Int.reduceEq, Int.reduceToNat, undefV]
          refine GCall.of (radd_ok hr w (fun b => .inr (hR b)) (fun b hb => .inr (hW b hb)) (rootC a kd ob rt) rfl) ?_
          rintro v h4 ⟨rfl, ht4⟩
          simp -implicitDefEqProofs (disch := (first | omega | (simp -implicitDefEqProofs only [szs, ne_eq] <;> omega) | fail)) only [go_sem, Nat.reduceAdd, Nat.reduceSub, Nat.reduceMul, Nat.reduceLT, Nat.reduceMod, Nat.reduceDiv, Nat.reduceEqDiff, Nat.reduceBEq, Nat.reduceLeDiff, ↓reduceIte, reduceCtorEq, Int.reduceAdd, Int.reduceSub, Int.reduceLT, Int.reduceLE, Int.reduceBEq, Int.reduceEq, Int.reduceToNat]
          exact ht4
        · rw [decide_eq_false hrt]
          have hok : ¬ rootOk a kd ob rt := fun h => hrt h.2.2.2
          rw [rootI, rootE, rootT, if_neg hok, if_neg hok, if_neg hok]
          simp -implicitDefEqProofs (disch := (first | omega | (simp -implicitDefEqProofs only [szs, ne_eq] <;> omega) | fail)) only [go_sem, Nat.reduceAdd, Nat.reduceSub, Nat.reduceMul, Nat.reduceLT, Nat.reduceMod, Nat.reduceDiv, Nat.reduceEqDiff, Nat.reduceBEq, Nat.reduceLeDiff, ↓reduceIte, reduceCtorEq, Int.reduceAdd, Int.reduceSub, Int.reduceLT, Int.reduceLE, Int.reduceBEq, Int.reduceEq, Int.reduceToNat, undefV]
          exact hr
      · have hok : ¬ rootOk a kd ob rt := fun h => ho h.2.2.1
        rw [rootI, rootE, rootT, if_neg hok, if_neg hok, if_neg hok]
        simp -implicitDefEqProofs (disch := (first | omega | (simp -implicitDefEqProofs only [szs, ne_eq] <;> omega) | fail)) only [go_sem, Nat.reduceAdd, Nat.reduceSub, Nat.reduceMul, Nat.reduceLT, Nat.reduceMod, Nat.reduceDiv, Nat.reduceEqDiff, Nat.reduceBEq, Nat.reduceLeDiff, ↓reduceIte, reduceCtorEq, Int.reduceAdd, Int.reduceSub, Int.reduceLT, Int.reduceLE, Int.reduceBEq, Int.reduceEq, Int.reduceToNat, undefV]
        exact hr
    · have hok : ¬ rootOk a kd ob rt := fun h => hk h.2.1
      rw [rootI, rootE, rootT, if_neg hok, if_neg hok, if_neg hok]
      simp -implicitDefEqProofs (disch := (first | omega | (simp -implicitDefEqProofs only [szs, ne_eq] <;> omega) | fail)) only [go_sem, Nat.reduceAdd, Nat.reduceSub, Nat.reduceMul, Nat.reduceLT, Nat.reduceMod, Nat.reduceDiv, Nat.reduceEqDiff, Nat.reduceBEq, Nat.reduceLeDiff, ↓reduceIte, reduceCtorEq, Int.reduceAdd, Int.reduceSub, Int.reduceLT, Int.reduceLE, Int.reduceBEq, Int.reduceEq, Int.reduceToNat, undefV]
      exact hr
  · rw [decide_eq_false ha]
    have hok : ¬ rootOk a kd ob rt := fun h => ha h.1
    rw [rootI, rootE, rootT, if_neg hok, if_neg hok, if_neg hok]
    simp -implicitDefEqProofs (disch := (first | omega | (simp -implicitDefEqProofs only [szs, ne_eq] <;> omega) | fail)) only [go_sem, Nat.reduceAdd, Nat.reduceSub, Nat.reduceMul, Nat.reduceLT, Nat.reduceMod, Nat.reduceDiv, Nat.reduceEqDiff, Nat.reduceBEq, Nat.reduceLeDiff, ↓reduceIte, reduceCtorEq, Int.reduceAdd, Int.reduceSub, Int.reduceLT, Int.reduceLE, Int.reduceBEq, Int.reduceEq, Int.reduceToNat, undefV]
    exact hr
set_option maxHeartbeats 2000000 in
theorem runder_ok {h : Heap} {R W : Set'} {n0 rd : Nat} {T : CS} (hr : RefC h n0 rd T) (w : WF T) (hR : ∀ b, R b) (hW : ∀ b, b = rd ∨ n0 ≤ b → W b) (a id to rt need : Int) (hneed : 0 ≤ need ∧ need ≤ 15) :
    SF Try.prog 31 [.ptr (some (rd, 0)), .int .i64 a, .int .i64 id, .int .i64 to, .int .i64 rt, .int .i64 need] h R W fun v h' => v = .tuple [.int .i64 (underI T a id to rt need), .int .i64 (underE T a id to rt need)] ∧ RefC h' n0 rd (underT T a id to rt need) := by
  have hlt := hr.lt
  have hR' : ∀ b, h.n ≤ b ∨ R b := fun b => .inr (hR b)
  have hmine := mineE_q T a id
  refine SF.go hm Try.func31 ir31_eq ?_
  simp -implicitDefEqProofs (disch := (first | omega | (simp -implicitDefEqProofs only [szs, ne_eq] <;> omega) | fail)) only [go_sem, Nat.reduceAdd, Nat.reduceSub, Nat.reduceMul, Nat.reduceLT, Nat.reduceMod, Nat.reduceDiv, Nat.reduceEqDiff, Nat.reduceBEq, Nat.reduceLeDiff, ↓reduceIte, reduceCtorEq, Int.reduceAdd, Int.reduceSub, Int.reduceLT, Int.reduceLE, Int.reduceBEq, Int.reduceEq, Int.reduceToNat, ir31]
  refine GCall.of (raccount_ok a) ?_
  rintro v h1 ⟨rfl, rfl⟩
  by_cases ha : okA a
  · rw [decide_eq_true ha]
    rw [if_neg (fun h => h ha)] at hmine
    simp -implicitDefEqProofs (disch := (first | omega | (simp -implicitDefEqProofs only [szs, ne_eq] <;> omega) | fail)) only [go_sem, Nat.reduceAdd, Nat.reduceSub, Nat.reduceMul, Nat.reduceLT, Nat.reduceMod, Nat.reduceDiv, Nat.reduceEqDiff, Nat.reduceBEq, Nat.reduceLeDiff, ↓reduceIte, reduceCtorEq, Int.reduceAdd, Int.reduceSub, Int.reduceLT, Int.reduceLE, Int.reduceBEq, Int.reduceEq, Int.reduceToNat, undefV]
    refine GCall.of (raccount_ok to) ?_
    rintro v h1 ⟨rfl, rfl⟩
    by_cases hto : okA to
    · rw [decide_eq_true hto]
      simp -implicitDefEqProofs (disch := (first | omega | (simp -implicitDefEqProofs only [szs, ne_eq] <;> omega) | fail)) only [go_sem, Nat.reduceAdd, Nat.reduceSub, Nat.reduceMul, Nat.reduceLT, Nat.reduceMod, Nat.reduceDiv, Nat.reduceEqDiff, Nat.reduceBEq, Nat.reduceLeDiff, ↓reduceIte, reduceCtorEq, Int.reduceAdd, Int.reduceSub, Int.reduceLT, Int.reduceLE, Int.reduceBEq, Int.reduceEq, Int.reduceToNat, undefV]
      refine GCall.of (rrights_ok rt) ?_
      rintro v h1 ⟨rfl, rfl⟩
      by_cases hrt : okR rt
      · rw [decide_eq_true hrt]
        have h2o : okA to ∧ okR rt := ⟨hto, hrt⟩
        simp -implicitDefEqProofs (disch := (first | omega | (simp -implicitDefEqProofs only [szs, ne_eq] <;> omega) | fail)) only [go_sem, Nat.reduceAdd, Nat.reduceSub, Nat.reduceMul, Nat.reduceLT, Nat.reduceMod, Nat.reduceDiv, Nat.reduceEqDiff, Nat.reduceBEq, Nat.reduceLeDiff, ↓reduceIte, reduceCtorEq, Int.reduceAdd, Int.reduceSub, Int.reduceLT, Int.reduceLE, Int.reduceBEq, Int.reduceEq, Int.reduceToNat, undefV]
        refine GCall.of (rmine_ok hr w hR' a id) ?_
        rintro v h1 ⟨rfl, rfl⟩
        cases hq : mineQ T a id with
        | false =>
          rw [hq] at hmine
          have hmine : mineE T a id = 6 := hmine
          obtain ⟨eI, eE, eT⟩ : underI T a id to rt need = 0 ∧ underE T a id to rt need = 6 ∧ underT T a id to rt need = T := by
            simp only [underI, underE, underT, h2o, hmine]; simp
          rw [eI, eE, eT]
          simp -implicitDefEqProofs (disch := (first | omega | (simp -implicitDefEqProofs only [szs, ne_eq] <;> omega) | fail)) only [go_sem, Nat.reduceAdd, Nat.reduceSub, Nat.reduceMul, Nat.reduceLT, Nat.reduceMod, Nat.reduceDiv, Nat.reduceEqDiff, Nat.reduceBEq, Nat.reduceLeDiff, ↓reduceIte, reduceCtorEq, Int.reduceAdd, Int.reduceSub, Int.reduceLT, Int.reduceLE, Int.reduceBEq, Int.reduceEq, Int.reduceToNat, undefV]
          exact hr
        | true =>
          rw [hq] at hmine
          have hmine : mineE T a id = 0 := hmine
          obtain ⟨cp, hf, hmc, hac, _⟩ := mine_zero hmine
          obtain ⟨ct, lv, r1, r2, r3, r4, r5, r6⟩ := hr.t
          have hRd := hR' rd
          simp -implicitDefEqProofs (disch := (first | omega | (simp -implicitDefEqProofs only [szs, ne_eq] <;> omega) | fail)) only [go_sem, Nat.reduceAdd, Nat.reduceSub, Nat.reduceMul, Nat.reduceLT, Nat.reduceMod, Nat.reduceDiv, Nat.reduceEqDiff, Nat.reduceBEq, Nat.reduceLeDiff, ↓reduceIte, reduceCtorEq, Int.reduceAdd, Int.reduceSub, Int.reduceLT, Int.reduceLE, Int.reduceBEq, Int.reduceEq, Int.reduceToNat, undefV, r1, r2, r4, hRd]
          refine GCallD.of (R' := fun _ => True) (W' := fun _ => False) (find_ok hr w (fun _ => trivial) id) ?_
          rintro vf hf1 ⟨⟨p, cp', rfl, hcp, hf'⟩ | ⟨rfl, hf'⟩, rfl⟩
          · rw [hf] at hf'
            obtain rfl : cp = cp' := Option.some.inj hf'
            obtain ⟨bi, oi, capi, exi, ci, cei, rfl, hbi, i1, i2, y0, y1, y2, y3, y4, y5, y6⟩ := CapsV.get r6.lr hcp
            have hl := (List.getElem?_eq_some_iff.1 hcp).1
            have hRb := hR' bi
            obtain ⟨h3, e3, n3, ⟨sb, s0, s1, s2, q0, q1, q2, q3, q4, q5, q6⟩, k3⟩ := stC hf1 cp
            have hr3 := hr.old (by omega) k3
            have hRn : hf1.n ≤ hf1.n ∨ R hf1.n := .inl (Nat.le_refl _)
            simp -implicitDefEqProofs (disch := (first | omega | (simp -implicitDefEqProofs only [szs, ne_eq] <;> omega) | fail)) only [go_sem, Nat.reduceAdd, Nat.reduceSub, Nat.reduceMul, Nat.reduceLT, Nat.reduceMod, Nat.reduceDiv, Nat.reduceEqDiff, Nat.reduceBEq, Nat.reduceLeDiff, ↓reduceIte, reduceCtorEq, Int.reduceAdd, Int.reduceSub, Int.reduceLT, Int.reduceLE, Int.reduceBEq, Int.reduceEq, Int.reduceToNat, i1, i2, y0, y1, y2, y3, y4, y5, y6, hRb, e3, s0, s1, q6, hRn]
            refine ⟨?_, ⟨fun _ => hRd, fun b _ _ => hR' b, fun b _ h => h.elim⟩, ?_⟩
            · simp only [List.not_mem_nil, or_false, false_or, and_false, false_and, false_implies, implies_true, not_false_eq_true, List.mem_singleton, List.mem_cons, and_true, true_and]
              all_goals (try and_intros)
              all_goals (intros; omega)
            have hrt2 : 0 ≤ rt ∧ rt ≤ 15 := by have h := hrt; unfold okR at h; omega
            refine GCall.of (subset_ok cp.rt hrt2) ?_
            rintro v h4 ⟨rfl, rfl⟩
            by_cases hx : anot rt cp.rt = 0
            · rw [decide_eq_true hx]
              simp -implicitDefEqProofs (disch := (first | omega | (simp -implicitDefEqProofs only [szs, ne_eq] <;> omega) | fail)) only [go_sem, Nat.reduceAdd, Nat.reduceSub, Nat.reduceMul, Nat.reduceLT, Nat.reduceMod, Nat.reduceDiv, Nat.reduceEqDiff, Nat.reduceBEq, Nat.reduceLeDiff, ↓reduceIte, reduceCtorEq, Int.reduceAdd, Int.reduceSub, Int.reduceLT, Int.reduceLE, Int.reduceBEq, Int.reduceEq, Int.reduceToNat, undefV, s0, s1, q6, hRn]
              refine GCall.of (subset_ok cp.rt hneed) ?_
              rintro v h4 ⟨rfl, rfl⟩
              by_cases hy : anot need cp.rt = 0
              · rw [decide_eq_true hy]
                obtain ⟨eI, eE, eT⟩ : underI T a id to rt need = addI T (underC T a id to rt) ∧ underE T a id to rt need = addE T (underC T a id to rt) ∧ underT T a id to rt need = addT T (underC T a id to rt) := by
                  simp only [underI, underE, underT, h2o, hmine, hmc, hx, hy]; simp
                rw [eI, eE, eT]
                have hcc : underC T a id to rt = ⟨0, id, to, a, cp.kd, cp.ob, rt⟩ := by simp [underC, hmc]
                rw [hcc]
                simp -implicitDefEqProofs (disch := (first | omega | (simp -implicitDefEqProofs only [szs, ne_eq] <;> omega) | fail)) only [go_sem, Nat.reduceAdd, Nat.reduceSub, Nat.reduceMul, Nat.reduceLT, Nat.reduceMod, Nat.reduceDiv, Nat.reduceEqDiff, Nat.reduceBEq, Nat.reduceLeDiff, ↓reduceIte, reduceCtorEq, Int.reduceAdd, Int.reduceSub, Int.reduceLT, Int.reduceLE, Int.reduceBEq, Int.reduceEq, Int.reduceToNat, undefV, s0, s1, q4, q5, hRn]
                refine GCall.of (radd_ok hr3 w hR' (fun b hb => .inr (hW b hb)) ⟨0, id, to, a, cp.kd, cp.ob, rt⟩ rfl) ?_
                rintro v h5 ⟨rfl, hr5⟩
                simp -implicitDefEqProofs (disch := (first | omega | (simp -implicitDefEqProofs only [szs, ne_eq] <;> omega) | fail)) only [go_sem, Nat.reduceAdd, Nat.reduceSub, Nat.reduceMul, Nat.reduceLT, Nat.reduceMod, Nat.reduceDiv, Nat.reduceEqDiff, Nat.reduceBEq, Nat.reduceLeDiff, ↓reduceIte, reduceCtorEq, Int.reduceAdd, Int.reduceSub, Int.reduceLT, Int.reduceLE, Int.reduceBEq, Int.reduceEq, Int.reduceToNat]
                exact hr5
              · rw [decide_eq_false hy]
                obtain ⟨eI, eE, eT⟩ : underI T a id to rt need = 0 ∧ underE T a id to rt need = 8 ∧ underT T a id to rt need = T := by
                  simp only [underI, underE, underT, h2o, hmine, hmc, hx]; simp [hy]
                rw [eI, eE, eT]
                simp -implicitDefEqProofs (disch := (first | omega | (simp -implicitDefEqProofs only [szs, ne_eq] <;> omega) | fail)) only [go_sem, Nat.reduceAdd, Nat.reduceSub, Nat.reduceMul, Nat.reduceLT, Nat.reduceMod, Nat.reduceDiv, Nat.reduceEqDiff, Nat.reduceBEq, Nat.reduceLeDiff, ↓reduceIte, reduceCtorEq, Int.reduceAdd, Int.reduceSub, Int.reduceLT, Int.reduceLE, Int.reduceBEq, Int.reduceEq, Int.reduceToNat, undefV]
                exact hr3
            · rw [decide_eq_false hx]
              obtain ⟨eI, eE, eT⟩ : underI T a id to rt need = 0 ∧ underE T a id to rt need = 8 ∧ underT T a id to rt need = T := by
                simp only [underI, underE, underT, h2o, hmine, hmc]; simp [hx]
              rw [eI, eE, eT]
              simp -implicitDefEqProofs (disch := (first | omega | (simp -implicitDefEqProofs only [szs, ne_eq] <;> omega) | fail)) only [go_sem, Nat.reduceAdd, Nat.reduceSub, Nat.reduceMul, Nat.reduceLT, Nat.reduceMod, Nat.reduceDiv, Nat.reduceEqDiff, Nat.reduceBEq, Nat.reduceLeDiff, ↓reduceIte, reduceCtorEq, Int.reduceAdd, Int.reduceSub, Int.reduceLT, Int.reduceLE, Int.reduceBEq, Int.reduceEq, Int.reduceToNat, undefV]
              exact hr3
          · rw [hf] at hf'; cases hf'
      · rw [decide_eq_false hrt]
        simp -implicitDefEqProofs (disch := (first | omega | (simp -implicitDefEqProofs only [szs, ne_eq] <;> omega) | fail)) only [go_sem, Nat.reduceAdd, Nat.reduceSub, Nat.reduceMul, Nat.reduceLT, Nat.reduceMod, Nat.reduceDiv, Nat.reduceEqDiff, Nat.reduceBEq, Nat.reduceLeDiff, ↓reduceIte, reduceCtorEq, Int.reduceAdd, Int.reduceSub, Int.reduceLT, Int.reduceLE, Int.reduceBEq, Int.reduceEq, Int.reduceToNat, undefV]
        obtain ⟨eI, eE, eT⟩ : underI T a id to rt need = 0 ∧ underE T a id to rt need = 2 ∧ underT T a id to rt need = T := by
          simp [underI, underE, underT, hrt]
        rw [eI, eE, eT]
        exact ⟨rfl, hr⟩
    · rw [decide_eq_false hto]
      simp -implicitDefEqProofs (disch := (first | omega | (simp -implicitDefEqProofs only [szs, ne_eq] <;> omega) | fail)) only [go_sem, Nat.reduceAdd, Nat.reduceSub, Nat.reduceMul, Nat.reduceLT, Nat.reduceMod, Nat.reduceDiv, Nat.reduceEqDiff, Nat.reduceBEq, Nat.reduceLeDiff, ↓reduceIte, reduceCtorEq, Int.reduceAdd, Int.reduceSub, Int.reduceLT, Int.reduceLE, Int.reduceBEq, Int.reduceEq, Int.reduceToNat, undefV]
      obtain ⟨eI, eE, eT⟩ : underI T a id to rt need = 0 ∧ underE T a id to rt need = 2 ∧ underT T a id to rt need = T := by
        simp [underI, underE, underT, hto]
      rw [eI, eE, eT]
      exact ⟨rfl, hr⟩
  · rw [decide_eq_false ha]
    rw [if_pos ha] at hmine
    simp -implicitDefEqProofs (disch := (first | omega | (simp -implicitDefEqProofs only [szs, ne_eq] <;> omega) | fail)) only [go_sem, Nat.reduceAdd, Nat.reduceSub, Nat.reduceMul, Nat.reduceLT, Nat.reduceMod, Nat.reduceDiv, Nat.reduceEqDiff, Nat.reduceBEq, Nat.reduceLeDiff, ↓reduceIte, reduceCtorEq, Int.reduceAdd, Int.reduceSub, Int.reduceLT, Int.reduceLE, Int.reduceBEq, Int.reduceEq, Int.reduceToNat, undefV]
    obtain ⟨eI, eE, eT⟩ : underI T a id to rt need = 0 ∧ underE T a id to rt need = 2 ∧ underT T a id to rt need = T := by
      simp only [underI, underE, underT, hmine]
      by_cases h2 : okA to ∧ okR rt <;> simp [h2]
    rw [eI, eE, eT]
    exact ⟨rfl, hr⟩
/-- What the document's Gone leaves. -/
noncomputable def keepQ (L : List Cp) (id : Int) (it : Bool) (c : Cp) : Bool := !decide (c.id = id ∨ Un L id c.id) || (decide (c.id = id) && !it)
noncomputable def goneT (T : CS) (a id : Int) (it : Bool) : CS := if mineE T a id = 0 then ⟨T.L.filter (keepQ T.L id it), T.last⟩ else T
noncomputable def goneN (T : CS) (a id : Int) (it : Bool) : Int := if mineE T a id = 0 then (T.L.length : Int) - (T.L.filter (keepQ T.L id it)).length else 0
theorem filter_snoc {L : List Cp} {f : Cp → Bool} (c : Cp) : (L ++ [c]).filter f = if f c = true then L.filter f ++ [c] else L.filter f := by
  rw [List.filter_append]
  cases h : f c <;> simp [List.filter_cons, h]
set_option maxHeartbeats 2000000 in
theorem rgone_loop {h1 : Heap} {R W : Set'} {Q' : Ex → Fr → Heap → Prop} {t : List It} {n0 rd : Nat} {T : CS} (hr : RefC h1 n0 rd T) (w : WF T) (hR : ∀ b, R b) (hW : ∀ b, h1.n ≤ b → W b) (id : Int) (it : Bool)
    (hk : ∀ (tr : Tr V) (g : Heap) (rv : V), h1.n ≤ g.n → (∀ b, b < h1.n → g.get b = h1.get b) → OwnS 7 h1.n g rv (T.L.filter (keepQ T.L id it)).length (flatC (T.L.filter (keepQ T.L id it))) 40 → tr.get 0 = some (.ptr (some (rd, 0))) → tr.get 10 = some rv → resume Try.prog R W none Q' t (.exit 0) ⟨⟨71, tr⟩, []⟩ g)
    {tr : Tr V} (w0 : tr.get 0 = some (.ptr (some (rd, 0)))) (w2 : tr.get 2 = some (.int .i64 id)) (w3 : tr.get 3 = some (.bool it)) (w10 : tr.get 10 = some (.slice none 0 0 true)) (w11 : tr.get 11 = some (.int .i64 0)) : GLoop Try.prog R W none Q' ir32_l0 t ⟨⟨71, tr⟩, []⟩ h1 := by
  obtain ⟨ct, lv, r1, r2, r3, r4, r5, r6⟩ := hr.t
  have hRd := hR rd
  have hlt := hr.lt
  have hlen := r6.lr.lenV Try.underlying27
  have hwl := w.last
  have hwn := w.len
  refine GLoop.inv hm (fun k f g => f.mks = [] ∧ f.tm.n = 71 ∧ f.tm.get 0 = some (.ptr (some (rd, 0))) ∧ f.tm.get 2 = some (.int .i64 id) ∧ f.tm.get 3 = some (.bool it) ∧ h1.n ≤ g.n ∧ (∀ b, b < h1.n → g.get b = h1.get b) ∧ ∃ (p : Nat) (rv : V), p + k = T.L.length ∧ f.tm.get 11 = some (.int .i64 p) ∧ f.tm.get 10 = some rv ∧ OwnS 7 h1.n g rv ((T.L.take p).filter (keepQ T.L id it)).length (flatC ((T.L.take p).filter (keepQ T.L id it))) 40) T.L.length ?_ ?_
  · exact ⟨rfl, rfl, w0, w2, w3, Nat.le_refl _, fun _ _ => rfl, 0, _, by omega, w11, w10, OwnS.nil _ _ _ _⟩
  clear w0 w2 w3 w10 w11 tr
  rintro k ⟨⟨n', tr⟩, mks⟩ g ⟨hmk, hn', t0, u2, u3, gn, hgo, p, rv, hpk, t11, t10, hown⟩
  simp only [Tm.get_mk] at hmk hn' t0 u2 u3 t11 t10
  subst hmk hn'
  have r1g := (hgo rd (by omega)).trans r1
  by_cases hp : p < T.L.length
  · have hcp : T.L[p]? = some (T.L[p]) := List.getElem?_eq_getElem hp
    generalize hc0 : T.L[p] = cp at hcp
    obtain ⟨bi, oi, capi, exi, ci, cei, rfl, hbi, i1, i2, y0, y1, y2, y3, y4, y5, y6⟩ := CapsV.get r6.lr hcp
    have hRb := hR bi
    have i1' := (hgo bi (Heap.lt_of_get i1)).trans i1
    obtain ⟨h3, e3, n3, ⟨sb, s0, s1, s2, q0, q1, q2, q3, q4, q5, q6⟩, k3⟩ := stC g cp
    have hRn : R g.n := hR _
    have hr3 : RefC h3 n0 rd T := hr.old (by omega) fun b hb => by rw [k3 b (by omega), hgo b hb]
    let F : List Cp := (T.L.take p).filter (keepQ T.L id it)
    have hF : F.length ≤ p := by
      have := List.length_filter_le (keepQ T.L id it) (T.L.take p)
      rw [List.length_take] at this
      show (List.filter _ _).length ≤ p
      omega
    have one : allOne cp.l = true := rfl
    have hlen7 : cp.l.length = 1 * 7 := rfl
    obtain ⟨v', g3, r3', w3, hap, o3, m3, kk3, hw3, kw3, ht3, hr3'⟩ := app_ownS (n0 := h1.n) (h := h3.push (.cells (Blk.of cp.l) 40)) (v := rv) (x := .slice (some (h3.n, 0)) 1 1 true) (n := F.length) (m := 1) (news := cp.l) (rs := [h3.n]) (e := 40) (sz := 7) (bytes := 56) (hown.old fun b hb => by rw [w_push_ne (by omega), k3 b hb]) (by simp; omega) rfl (firstS (e := 40) (w_push_eq rfl _) (Nat.le_refl _) (gets_all _ rfl)) hlen7 one (by omega) (by omega) (by omega)
    simp only [Cp.l] at hap
    have m3' : h3.n + 1 ≤ g3.n := by simpa using m3
    have hcv := o3.lr.cells
    have hon := o3.lr.one
    have htake := take_snoc' hcp
    simp -implicitDefEqProofs (disch := (first | omega | (simp -implicitDefEqProofs only [szs, ne_eq] <;> omega) | fail)) only [go_sem, Nat.reduceAdd, Nat.reduceSub, Nat.reduceMul, Nat.reduceLT, Nat.reduceMod, Nat.reduceDiv, Nat.reduceEqDiff, Nat.reduceBEq, Nat.reduceLeDiff, ↓reduceIte, reduceCtorEq, Int.reduceAdd, Int.reduceSub, Int.reduceLT, Int.reduceLE, Int.reduceBEq, Int.reduceEq, Int.reduceToNat, ir32_l0, t0, u2, u3, t10, t11, r1g, r2, r4, hRd, hRb, i1', i2, y0, y1, y2, y3, y4, y5, y6, e3, s0, s1, q0, hRn, ↓hlen]
    refine ⟨hW _ (by omega), GCall.of (rover_ok hr3 w hR id cp.id) ?_⟩
    rintro v h3 ⟨rfl, rfl⟩
    have fin : keepQ T.L id it cp = true → allB (R) r3' ∧ allB (W) w3 ∧ ∃ k', k' < k ∧ h1.n ≤ g3.n ∧ (∀ (b : Nat), b < h1.n → g3.get b = h1.get b) ∧ ∃ p_1 rv_1, p_1 + k' = T.L.length ∧ V.int IntKind.i64 (↑p + 1) = V.int IntKind.i64 ↑p_1 ∧ v' = rv_1 ∧ OwnS 7 h1.n g3 rv_1 (List.filter (keepQ T.L id it) (List.take p_1 T.L)).length (flatC (List.filter (keepQ T.L id it) (List.take p_1 T.L))) 40 := fun hk => by
      refine ⟨allB_of fun b _ => hR b, allB_of fun b hb => hW b (hw3 b hb), k - 1, by omega, by omega, fun b hb => by rw [kk3 b hb, w_push_ne (by omega), k3 b (by omega), hgo b hb], p + 1, v', by omega, by simp, rfl, ?_⟩
      rw [htake, filter_snoc, if_pos hk, flatC_snoc, List.length_append]
      exact o3
    have skip : keepQ T.L id it cp = false → ∃ k', k' < k ∧ h1.n ≤ h3.n ∧ (∀ (b : Nat), b < h1.n → h3.get b = h1.get b) ∧ ∃ p_1 rv_1, p_1 + k' = T.L.length ∧ V.int IntKind.i64 (↑p + 1) = V.int IntKind.i64 ↑p_1 ∧ rv = rv_1 ∧ OwnS 7 h1.n h3 rv_1 (List.filter (keepQ T.L id it) (List.take p_1 T.L)).length (flatC (List.filter (keepQ T.L id it) (List.take p_1 T.L))) 40 := fun hk => by
      refine ⟨k - 1, by omega, by omega, fun b hb => by rw [k3 b (by omega), hgo b hb], p + 1, rv, by omega, by simp, rfl, ?_⟩
      rw [htake, filter_snoc, hk]
      exact hown.old k3
    have hkq : keepQ T.L id it cp = (!decide (cp.id = id ∨ Un T.L id cp.id) || (decide (cp.id = id) && !it)) := rfl
    by_cases hov : cp.id = id ∨ Un T.L id cp.id
    · rw [decide_eq_true hov] at hkq ⊢
      by_cases hid : cp.id = id
      · cases it with
        | true =>
          rw [decide_eq_true hid] at hkq
          simp -implicitDefEqProofs (disch := (first | omega | (simp -implicitDefEqProofs only [szs, ne_eq] <;> omega) | fail)) only [go_sem, Nat.reduceAdd, Nat.reduceSub, Nat.reduceMul, Nat.reduceLT, Nat.reduceMod, Nat.reduceDiv, Nat.reduceEqDiff, Nat.reduceBEq, Nat.reduceLeDiff, ↓reduceIte, reduceCtorEq, Int.reduceAdd, Int.reduceSub, Int.reduceLT, Int.reduceLE, Int.reduceBEq, Int.reduceEq, Int.reduceToNat, undefV, s0, s1, q0, hRn, hid, t0, u2, u3, t10, t11]
          exact skip hkq
        | false =>
          rw [decide_eq_true hid] at hkq
          simp only [hid] at hap
          simp -implicitDefEqProofs (disch := (first | omega | (simp -implicitDefEqProofs only [szs, ne_eq] <;> omega) | fail)) only [go_sem, Nat.reduceAdd, Nat.reduceSub, Nat.reduceMul, Nat.reduceLT, Nat.reduceMod, Nat.reduceDiv, Nat.reduceEqDiff, Nat.reduceBEq, Nat.reduceLeDiff, ↓reduceIte, reduceCtorEq, Int.reduceAdd, Int.reduceSub, Int.reduceLT, Int.reduceLE, Int.reduceBEq, Int.reduceEq, Int.reduceToNat, undefV, s0, s1, q0, q1, q2, q3, q4, q5, q6, hRn, hid, t0, u2, u3, t10, t11, appendV_of ap_27, hap, ↓hcv, ↓hon]
          exact fin hkq
      · rw [decide_eq_false hid] at hkq
        have hne : (cp.id == id) = false := by simpa using hid
        simp -implicitDefEqProofs (disch := (first | omega | (simp -implicitDefEqProofs only [szs, ne_eq] <;> omega) | fail)) only [go_sem, Nat.reduceAdd, Nat.reduceSub, Nat.reduceMul, Nat.reduceLT, Nat.reduceMod, Nat.reduceDiv, Nat.reduceEqDiff, Nat.reduceBEq, Nat.reduceLeDiff, ↓reduceIte, reduceCtorEq, Int.reduceAdd, Int.reduceSub, Int.reduceLT, Int.reduceLE, Int.reduceBEq, Int.reduceEq, Int.reduceToNat, undefV, s0, s1, q0, hRn, hne, t0, u2, u3, t10, t11]
        exact skip hkq
    · rw [decide_eq_false hov] at hkq ⊢
      simp -implicitDefEqProofs (disch := (first | omega | (simp -implicitDefEqProofs only [szs, ne_eq] <;> omega) | fail)) only [go_sem, Nat.reduceAdd, Nat.reduceSub, Nat.reduceMul, Nat.reduceLT, Nat.reduceMod, Nat.reduceDiv, Nat.reduceEqDiff, Nat.reduceBEq, Nat.reduceLeDiff, ↓reduceIte, reduceCtorEq, Int.reduceAdd, Int.reduceSub, Int.reduceLT, Int.reduceLE, Int.reduceBEq, Int.reduceEq, Int.reduceToNat, undefV, s0, s1, q0, q1, q2, q3, q4, q5, q6, hRn, t0, u2, u3, t10, t11, appendV_of ap_27, hap, ↓hcv, ↓hon]
      exact fin hkq
  · obtain rfl : p = T.L.length := by omega
    rw [List.take_length] at hown
    simp -implicitDefEqProofs (disch := (first | omega | (simp -implicitDefEqProofs only [szs, ne_eq] <;> omega) | fail)) only [go_sem, Nat.reduceAdd, Nat.reduceSub, Nat.reduceMul, Nat.reduceLT, Nat.reduceMod, Nat.reduceDiv, Nat.reduceEqDiff, Nat.reduceBEq, Nat.reduceLeDiff, ↓reduceIte, reduceCtorEq, Int.reduceAdd, Int.reduceSub, Int.reduceLT, Int.reduceLE, Int.reduceBEq, Int.reduceEq, Int.reduceToNat, ir32_l0, t0, u2, u3, t10, t11, r1g, r2, r4, hRd, ↓hlen]
    exact hk _ g rv gn hgo hown (by simp -implicitDefEqProofs (disch := (first | omega | (simp -implicitDefEqProofs only [szs, ne_eq] <;> omega) | fail)) only [go_sem, Nat.reduceAdd, Nat.reduceSub, Nat.reduceMul, Nat.reduceLT, Nat.reduceMod, Nat.reduceDiv, Nat.reduceEqDiff, Nat.reduceBEq, Nat.reduceLeDiff, ↓reduceIte, reduceCtorEq, Int.reduceAdd, Int.reduceSub, Int.reduceLT, Int.reduceLE, Int.reduceBEq, Int.reduceEq, Int.reduceToNat, t0]) (by simp -implicitDefEqProofs (disch := (first | omega | (simp -implicitDefEqProofs only [szs, ne_eq] <;> omega) | fail)) only [go_sem, Nat.reduceAdd, Nat.reduceSub, Nat.reduceMul, Nat.reduceLT, Nat.reduceMod, Nat.reduceDiv, Nat.reduceEqDiff, Nat.reduceBEq, Nat.reduceLeDiff, ↓reduceIte, reduceCtorEq, Int.reduceAdd, Int.reduceSub, Int.reduceLT, Int.reduceLE, Int.reduceBEq, Int.reduceEq, Int.reduceToNat, t10])
set_option maxHeartbeats 2000000 in
theorem rgone_ok {h : Heap} {R W : Set'} {n0 rd : Nat} {T : CS} (hr : RefC h n0 rd T) (w : WF T) (hR : ∀ b, R b) (hW : ∀ b, b = rd ∨ n0 ≤ b → W b) (a id : Int) (it : Bool) :
    SF Try.prog 32 [.ptr (some (rd, 0)), .int .i64 a, .int .i64 id, .bool it] h R W fun v h' => v = .tuple [.int .i64 (goneN T a id it), .int .i64 (mineE T a id)] ∧ RefC h' n0 rd (goneT T a id it) := by
  have hlt := hr.lt
  have hR' : ∀ b, h.n ≤ b ∨ R b := fun b => .inr (hR b)
  have hmine := mineE_q T a id
  have hwl := w.last
  have hwn := w.len
  have hW0 := hW rd (.inl rfl)
  refine SF.go hm Try.func32 ir32_eq ?_
  simp -implicitDefEqProofs (disch := (first | omega | (simp -implicitDefEqProofs only [szs, ne_eq] <;> omega) | fail)) only [go_sem, Nat.reduceAdd, Nat.reduceSub, Nat.reduceMul, Nat.reduceLT, Nat.reduceMod, Nat.reduceDiv, Nat.reduceEqDiff, Nat.reduceBEq, Nat.reduceLeDiff, ↓reduceIte, reduceCtorEq, Int.reduceAdd, Int.reduceSub, Int.reduceLT, Int.reduceLE, Int.reduceBEq, Int.reduceEq, Int.reduceToNat, ir32]
  refine GCall.of (raccount_ok a) ?_
  rintro v h1 ⟨rfl, rfl⟩
  by_cases ha : okA a
  · rw [decide_eq_true ha]
    rw [if_neg (fun h => h ha)] at hmine
    simp -implicitDefEqProofs (disch := (first | omega | (simp -implicitDefEqProofs only [szs, ne_eq] <;> omega) | fail)) only [go_sem, Nat.reduceAdd, Nat.reduceSub, Nat.reduceMul, Nat.reduceLT, Nat.reduceMod, Nat.reduceDiv, Nat.reduceEqDiff, Nat.reduceBEq, Nat.reduceLeDiff, ↓reduceIte, reduceCtorEq, Int.reduceAdd, Int.reduceSub, Int.reduceLT, Int.reduceLE, Int.reduceBEq, Int.reduceEq, Int.reduceToNat, undefV]
    refine GCall.of (rmine_ok hr w hR' a id) ?_
    rintro v h1 ⟨rfl, rfl⟩
    cases hq : mineQ T a id with
    | false =>
      rw [hq] at hmine
      have hmine : mineE T a id = 6 := hmine
      rw [goneN, goneT, hmine]
      simp -implicitDefEqProofs (disch := (first | omega | (simp -implicitDefEqProofs only [szs, ne_eq] <;> omega) | fail)) only [go_sem, Nat.reduceAdd, Nat.reduceSub, Nat.reduceMul, Nat.reduceLT, Nat.reduceMod, Nat.reduceDiv, Nat.reduceEqDiff, Nat.reduceBEq, Nat.reduceLeDiff, ↓reduceIte, reduceCtorEq, Int.reduceAdd, Int.reduceSub, Int.reduceLT, Int.reduceLE, Int.reduceBEq, Int.reduceEq, Int.reduceToNat, undefV]
      exact hr
    | true =>
      rw [hq] at hmine
      have hmine : mineE T a id = 0 := hmine
      rw [goneN, goneT, hmine]
      obtain ⟨ct, lv, r1, r2, r3, r4, r5, r6⟩ := hr.t
      have hRd := hR' rd
      have hlen := r6.lr.lenV Try.underlying27
      simp -implicitDefEqProofs (disch := (first | omega | (simp -implicitDefEqProofs only [szs, ne_eq] <;> omega) | fail)) only [go_sem, Nat.reduceAdd, Nat.reduceSub, Nat.reduceMul, Nat.reduceLT, Nat.reduceMod, Nat.reduceDiv, Nat.reduceEqDiff, Nat.reduceBEq, Nat.reduceLeDiff, ↓reduceIte, reduceCtorEq, Int.reduceAdd, Int.reduceSub, Int.reduceLT, Int.reduceLE, Int.reduceBEq, Int.reduceEq, Int.reduceToNat, undefV]
      refine rgone_loop (id := id) (it := it) hr w hR' (fun b hb => .inl hb) ?_ (by simp -implicitDefEqProofs (disch := (first | omega | (simp -implicitDefEqProofs only [szs, ne_eq] <;> omega) | fail)) only [go_sem, Nat.reduceAdd, Nat.reduceSub, Nat.reduceMul, Nat.reduceLT, Nat.reduceMod, Nat.reduceDiv, Nat.reduceEqDiff, Nat.reduceBEq, Nat.reduceLeDiff, ↓reduceIte, reduceCtorEq, Int.reduceAdd, Int.reduceSub, Int.reduceLT, Int.reduceLE, Int.reduceBEq, Int.reduceEq, Int.reduceToNat]) (by simp -implicitDefEqProofs (disch := (first | omega | (simp -implicitDefEqProofs only [szs, ne_eq] <;> omega) | fail)) only [go_sem, Nat.reduceAdd, Nat.reduceSub, Nat.reduceMul, Nat.reduceLT, Nat.reduceMod, Nat.reduceDiv, Nat.reduceEqDiff, Nat.reduceBEq, Nat.reduceLeDiff, ↓reduceIte, reduceCtorEq, Int.reduceAdd, Int.reduceSub, Int.reduceLT, Int.reduceLE, Int.reduceBEq, Int.reduceEq, Int.reduceToNat]) (by simp -implicitDefEqProofs (disch := (first | omega | (simp -implicitDefEqProofs only [szs, ne_eq] <;> omega) | fail)) only [go_sem, Nat.reduceAdd, Nat.reduceSub, Nat.reduceMul, Nat.reduceLT, Nat.reduceMod, Nat.reduceDiv, Nat.reduceEqDiff, Nat.reduceBEq, Nat.reduceLeDiff, ↓reduceIte, reduceCtorEq, Int.reduceAdd, Int.reduceSub, Int.reduceLT, Int.reduceLE, Int.reduceBEq, Int.reduceEq, Int.reduceToNat]) (by simp -implicitDefEqProofs (disch := (first | omega | (simp -implicitDefEqProofs only [szs, ne_eq] <;> omega) | fail)) only [go_sem, Nat.reduceAdd, Nat.reduceSub, Nat.reduceMul, Nat.reduceLT, Nat.reduceMod, Nat.reduceDiv, Nat.reduceEqDiff, Nat.reduceBEq, Nat.reduceLeDiff, ↓reduceIte, reduceCtorEq, Int.reduceAdd, Int.reduceSub, Int.reduceLT, Int.reduceLE, Int.reduceBEq, Int.reduceEq, Int.reduceToNat]) (by simp -implicitDefEqProofs (disch := (first | omega | (simp -implicitDefEqProofs only [szs, ne_eq] <;> omega) | fail)) only [go_sem, Nat.reduceAdd, Nat.reduceSub, Nat.reduceMul, Nat.reduceLT, Nat.reduceMod, Nat.reduceDiv, Nat.reduceEqDiff, Nat.reduceBEq, Nat.reduceLeDiff, ↓reduceIte, reduceCtorEq, Int.reduceAdd, Int.reduceSub, Int.reduceLT, Int.reduceLE, Int.reduceBEq, Int.reduceEq, Int.reduceToNat])
      intro tr g rv gn hgo hown t0 t10
      have hlen2 := hown.lr.lenV Try.underlying27
      have hcv := hown.lr.cells
      have hon := hown.lr.one
      have r1g := (hgo rd (by omega)).trans r1
      have hrl := Heap.lt_of_get r1g
      have hfl := List.length_filter_le (keepQ T.L id it) T.L
      simp -implicitDefEqProofs (disch := (first | omega | (simp -implicitDefEqProofs only [szs, ne_eq] <;> omega) | fail)) only [go_sem, Nat.reduceAdd, Nat.reduceSub, Nat.reduceMul, Nat.reduceLT, Nat.reduceMod, Nat.reduceDiv, Nat.reduceEqDiff, Nat.reduceBEq, Nat.reduceLeDiff, ↓reduceIte, reduceCtorEq, Int.reduceAdd, Int.reduceSub, Int.reduceLT, Int.reduceLE, Int.reduceBEq, Int.reduceEq, Int.reduceToNat, t0, t10, r1g, r2, r3, r4, hRd, hW0, ↓hlen, ↓hlen2, ↓hcv, ↓hon]
      refine ⟨⟨by rw [Heap.n_set]; omega, by rw [Heap.n_set]; omega⟩, _, _, w_set_eq hrl rfl _, by rw [Blk.size_set]; exact r2, by rw [Blk.ro_set]; exact r3, w_bset_eq rfl _, by rw [w_bset_ne (by omega)]; exact r5, ?_⟩
      exact (hown.keep fun b c' hb hb0 => by rw [w_set_ne hrl (by omega)]; exact hb).mono hlt.2
  · rw [decide_eq_false ha]
    rw [if_pos ha] at hmine
    rw [goneN, goneT, hmine]
    simp -implicitDefEqProofs (disch := (first | omega | (simp -implicitDefEqProofs only [szs, ne_eq] <;> omega) | fail)) only [go_sem, Nat.reduceAdd, Nat.reduceSub, Nat.reduceMul, Nat.reduceLT, Nat.reduceMod, Nat.reduceDiv, Nat.reduceEqDiff, Nat.reduceBEq, Nat.reduceLeDiff, ↓reduceIte, reduceCtorEq, Int.reduceAdd, Int.reduceSub, Int.reduceLT, Int.reduceLE, Int.reduceBEq, Int.reduceEq, Int.reduceToNat, undefV]
    exact hr
def mayQ (T : CS) (a kd ob rt : Int) : Bool := T.L.any fun c => decide (okR rt) && (decide (c.ac = a) && mayC kd ob rt c)
set_option maxHeartbeats 2000000 in
theorem rmay_ok {h : Heap} {R W : Set'} {n0 rd : Nat} {T : CS} (hr : RefC h n0 rd T) (w : WF T) (hR : ∀ b, R b) (a kd ob rt : Int) :
    SF Try.prog 13 [.ptr (some (rd, 0)), .int .i64 a, .int .i64 kd, .int .i64 ob, .int .i64 rt] h R W fun v h' => v = .bool (mayQ T a kd ob rt) := by
  have hR' : ∀ b, h.n ≤ b ∨ R b := fun b => .inr (hR b)
  obtain ⟨ct, lv, r1, r2, r3, r4, r5, r6⟩ := hr.t
  have hRd := hR rd
  have hlt := hr.lt
  have hlen := r6.lr.lenV Try.underlying27
  have hwl := w.last
  have hwn := w.len
  refine SF.go hm Try.func13 ir13_eq ?_
  simp -implicitDefEqProofs (disch := (first | omega | (simp -implicitDefEqProofs only [szs, ne_eq] <;> omega) | fail)) only [go_sem, Nat.reduceAdd, Nat.reduceSub, Nat.reduceMul, Nat.reduceLT, Nat.reduceMod, Nat.reduceDiv, Nat.reduceEqDiff, Nat.reduceBEq, Nat.reduceLeDiff, ↓reduceIte, reduceCtorEq, Int.reduceAdd, Int.reduceSub, Int.reduceLT, Int.reduceLE, Int.reduceBEq, Int.reduceEq, Int.reduceToNat, ir13]
  refine GLoop.inv hm (fun k f g => f.mks = [] ∧ f.tm.n = 55 ∧ f.tm.get 0 = some (.ptr (some (rd, 0))) ∧ f.tm.get 1 = some (.int .i64 a) ∧ f.tm.get 2 = some (.int .i64 kd) ∧ f.tm.get 3 = some (.int .i64 ob) ∧ f.tm.get 4 = some (.int .i64 rt) ∧ h.n ≤ g.n ∧ (∀ b, b < h.n → g.get b = h.get b) ∧ ∃ p : Nat, p + k = T.L.length ∧ f.tm.get 11 = some (.int .i64 p) ∧ ((T.L.take p).any fun c => decide (okR rt) && (decide (c.ac = a) && mayC kd ob rt c)) = false) T.L.length ?_ ?_
  · exact ⟨rfl, rfl, by simp -implicitDefEqProofs (disch := (first | omega | (simp -implicitDefEqProofs only [szs, ne_eq] <;> omega) | fail)) only [go_sem, Nat.reduceAdd, Nat.reduceSub, Nat.reduceMul, Nat.reduceLT, Nat.reduceMod, Nat.reduceDiv, Nat.reduceEqDiff, Nat.reduceBEq, Nat.reduceLeDiff, ↓reduceIte, reduceCtorEq, Int.reduceAdd, Int.reduceSub, Int.reduceLT, Int.reduceLE, Int.reduceBEq, Int.reduceEq, Int.reduceToNat], by simp -implicitDefEqProofs (disch := (first | omega | (simp -implicitDefEqProofs only [szs, ne_eq] <;> omega) | fail)) only [go_sem, Nat.reduceAdd, Nat.reduceSub, Nat.reduceMul, Nat.reduceLT, Nat.reduceMod, Nat.reduceDiv, Nat.reduceEqDiff, Nat.reduceBEq, Nat.reduceLeDiff, ↓reduceIte, reduceCtorEq, Int.reduceAdd, Int.reduceSub, Int.reduceLT, Int.reduceLE, Int.reduceBEq, Int.reduceEq, Int.reduceToNat], by simp -implicitDefEqProofs (disch := (first | omega | (simp -implicitDefEqProofs only [szs, ne_eq] <;> omega) | fail)) only [go_sem, Nat.reduceAdd, Nat.reduceSub, Nat.reduceMul, Nat.reduceLT, Nat.reduceMod, Nat.reduceDiv, Nat.reduceEqDiff, Nat.reduceBEq, Nat.reduceLeDiff, ↓reduceIte, reduceCtorEq, Int.reduceAdd, Int.reduceSub, Int.reduceLT, Int.reduceLE, Int.reduceBEq, Int.reduceEq, Int.reduceToNat], by simp -implicitDefEqProofs (disch := (first | omega | (simp -implicitDefEqProofs only [szs, ne_eq] <;> omega) | fail)) only [go_sem, Nat.reduceAdd, Nat.reduceSub, Nat.reduceMul, Nat.reduceLT, Nat.reduceMod, Nat.reduceDiv, Nat.reduceEqDiff, Nat.reduceBEq, Nat.reduceLeDiff, ↓reduceIte, reduceCtorEq, Int.reduceAdd, Int.reduceSub, Int.reduceLT, Int.reduceLE, Int.reduceBEq, Int.reduceEq, Int.reduceToNat], by simp -implicitDefEqProofs (disch := (first | omega | (simp -implicitDefEqProofs only [szs, ne_eq] <;> omega) | fail)) only [go_sem, Nat.reduceAdd, Nat.reduceSub, Nat.reduceMul, Nat.reduceLT, Nat.reduceMod, Nat.reduceDiv, Nat.reduceEqDiff, Nat.reduceBEq, Nat.reduceLeDiff, ↓reduceIte, reduceCtorEq, Int.reduceAdd, Int.reduceSub, Int.reduceLT, Int.reduceLE, Int.reduceBEq, Int.reduceEq, Int.reduceToNat], Nat.le_refl _, fun _ _ => rfl, 0, by omega, by simp -implicitDefEqProofs (disch := (first | omega | (simp -implicitDefEqProofs only [szs, ne_eq] <;> omega) | fail)) only [go_sem, Nat.reduceAdd, Nat.reduceSub, Nat.reduceMul, Nat.reduceLT, Nat.reduceMod, Nat.reduceDiv, Nat.reduceEqDiff, Nat.reduceBEq, Nat.reduceLeDiff, ↓reduceIte, reduceCtorEq, Int.reduceAdd, Int.reduceSub, Int.reduceLT, Int.reduceLE, Int.reduceBEq, Int.reduceEq, Int.reduceToNat]; rfl, rfl⟩
  rintro k ⟨⟨n', tr⟩, mks⟩ g ⟨hmk, hn', t0, u1, u2, u3, u4, gn, hgo, p, hpk, t11, hno⟩
  simp only [Tm.get_mk] at hmk hn' t0 u1 u2 u3 u4 t11
  subst hmk hn'
  have r1g := (hgo rd (by omega)).trans r1
  by_cases hp : p < T.L.length
  · have hcp : T.L[p]? = some (T.L[p]) := List.getElem?_eq_getElem hp
    generalize hc0 : T.L[p] = cp at hcp
    obtain ⟨bi, oi, capi, exi, ci, cei, rfl, hbi, i1, i2, y0, y1, y2, y3, y4, y5, y6⟩ := CapsV.get r6.lr hcp
    have hRb := hR bi
    have i1' := (hgo bi (Heap.lt_of_get i1)).trans i1
    obtain ⟨h3, e3, n3, ⟨sb, s0, s1, s2, q0, q1, q2, q3, q4, q5, q6⟩, k3⟩ := stC g cp
    have hRn : R g.n := hR _
    have hmem := List.mem_of_getElem? hcp
    have hend : (decide (okR rt) && (decide (cp.ac = a) && mayC kd ob rt cp)) = true → V.bool true = V.bool (mayQ T a kd ob rt) := fun hx => by
      have : mayQ T a kd ob rt = true := List.any_eq_true.2 ⟨cp, hmem, hx⟩
      rw [this]
    have skip : (decide (okR rt) && (decide (cp.ac = a) && mayC kd ob rt cp)) = false → ∃ k', k' < k ∧ h.n ≤ h3.n ∧ (∀ (b : Nat), b < h.n → h3.get b = h.get b) ∧ ∃ p_1, p_1 + k' = T.L.length ∧ V.int IntKind.i64 (↑p + 1) = V.int IntKind.i64 ↑p_1 ∧ ((T.L.take p_1).any fun c => decide (okR rt) && (decide (c.ac = a) && mayC kd ob rt c)) = false := fun hx =>
      ⟨k - 1, by omega, by omega, fun b hb => by rw [k3 b (by omega), hgo b hb], p + 1, by omega, by simp, by rw [take_snoc' hcp, List.any_append, hno, List.any_cons, List.any_nil, hx]; rfl⟩
    simp -implicitDefEqProofs (disch := (first | omega | (simp -implicitDefEqProofs only [szs, ne_eq] <;> omega) | fail)) only [go_sem, Nat.reduceAdd, Nat.reduceSub, Nat.reduceMul, Nat.reduceLT, Nat.reduceMod, Nat.reduceDiv, Nat.reduceEqDiff, Nat.reduceBEq, Nat.reduceLeDiff, ↓reduceIte, reduceCtorEq, Int.reduceAdd, Int.reduceSub, Int.reduceLT, Int.reduceLE, Int.reduceBEq, Int.reduceEq, Int.reduceToNat, ir13_l0, t0, u1, u2, u3, u4, t11, r1g, r2, r4, hRd, hRb, i1', i2, y0, y1, y2, y3, y4, y5, y6, e3, s0, s1, q0, hRn, ↓hlen]
    refine ⟨.inl (by omega), GCall.of (rrights_ok rt) ?_⟩
    rintro v h3 ⟨rfl, rfl⟩
    by_cases hrt : okR rt
    · rw [decide_eq_true hrt] at skip hend ⊢
      by_cases e1 : cp.ac = a
      · rw [decide_eq_true e1] at skip hend
        by_cases e2 : cp.kd = kd
        · by_cases e3' : cp.ob = ob
          · have hrt2 : 0 ≤ rt ∧ rt ≤ 15 := by have h := hrt; unfold okR at h; omega
            simp -implicitDefEqProofs (disch := (first | omega | (simp -implicitDefEqProofs only [szs, ne_eq] <;> omega) | fail)) only [go_sem, Nat.reduceAdd, Nat.reduceSub, Nat.reduceMul, Nat.reduceLT, Nat.reduceMod, Nat.reduceDiv, Nat.reduceEqDiff, Nat.reduceBEq, Nat.reduceLeDiff, ↓reduceIte, reduceCtorEq, Int.reduceAdd, Int.reduceSub, Int.reduceLT, Int.reduceLE, Int.reduceBEq, Int.reduceEq, Int.reduceToNat, t0, u1, u2, u3, u4, t11, s0, s1, q2, q4, q5, q6, hRn, e1, e2, e3', undefV]
            refine GCall.of (subset_ok cp.rt hrt2) ?_
            rintro v h3 ⟨rfl, rfl⟩
            by_cases e4 : anot rt cp.rt = 0
            · rw [decide_eq_true e4]
              simp -implicitDefEqProofs (disch := (first | omega | (simp -implicitDefEqProofs only [szs, ne_eq] <;> omega) | fail)) only [go_sem, Nat.reduceAdd, Nat.reduceSub, Nat.reduceMul, Nat.reduceLT, Nat.reduceMod, Nat.reduceDiv, Nat.reduceEqDiff, Nat.reduceBEq, Nat.reduceLeDiff, ↓reduceIte, reduceCtorEq, Int.reduceAdd, Int.reduceSub, Int.reduceLT, Int.reduceLE, Int.reduceBEq, Int.reduceEq, Int.reduceToNat, t0, u1, u2, u3, u4, t11, undefV]
              exact hend (by simp [mayC, e2, e3', e4])
            · rw [decide_eq_false e4]
              simp -implicitDefEqProofs (disch := (first | omega | (simp -implicitDefEqProofs only [szs, ne_eq] <;> omega) | fail)) only [go_sem, Nat.reduceAdd, Nat.reduceSub, Nat.reduceMul, Nat.reduceLT, Nat.reduceMod, Nat.reduceDiv, Nat.reduceEqDiff, Nat.reduceBEq, Nat.reduceLeDiff, ↓reduceIte, reduceCtorEq, Int.reduceAdd, Int.reduceSub, Int.reduceLT, Int.reduceLE, Int.reduceBEq, Int.reduceEq, Int.reduceToNat, t0, u1, u2, u3, u4, t11, undefV]
              exact skip (by simp [mayC, e4])
          · simp -implicitDefEqProofs (disch := (first | omega | (simp -implicitDefEqProofs only [szs, ne_eq] <;> omega) | fail)) only [go_sem, Nat.reduceAdd, Nat.reduceSub, Nat.reduceMul, Nat.reduceLT, Nat.reduceMod, Nat.reduceDiv, Nat.reduceEqDiff, Nat.reduceBEq, Nat.reduceLeDiff, ↓reduceIte, reduceCtorEq, Int.reduceAdd, Int.reduceSub, Int.reduceLT, Int.reduceLE, Int.reduceBEq, Int.reduceEq, Int.reduceToNat, t0, u1, u2, u3, u4, t11, s0, s1, q2, q4, q5, q6, hRn, e1, e2, e3', undefV]
            exact skip (by simp [mayC, e3'])
        · simp -implicitDefEqProofs (disch := (first | omega | (simp -implicitDefEqProofs only [szs, ne_eq] <;> omega) | fail)) only [go_sem, Nat.reduceAdd, Nat.reduceSub, Nat.reduceMul, Nat.reduceLT, Nat.reduceMod, Nat.reduceDiv, Nat.reduceEqDiff, Nat.reduceBEq, Nat.reduceLeDiff, ↓reduceIte, reduceCtorEq, Int.reduceAdd, Int.reduceSub, Int.reduceLT, Int.reduceLE, Int.reduceBEq, Int.reduceEq, Int.reduceToNat, t0, u1, u2, u3, u4, t11, s0, s1, q2, q4, q5, q6, hRn, e1, e2, undefV]
          exact skip (by simp [mayC, e2])
      · simp -implicitDefEqProofs (disch := (first | omega | (simp -implicitDefEqProofs only [szs, ne_eq] <;> omega) | fail)) only [go_sem, Nat.reduceAdd, Nat.reduceSub, Nat.reduceMul, Nat.reduceLT, Nat.reduceMod, Nat.reduceDiv, Nat.reduceEqDiff, Nat.reduceBEq, Nat.reduceLeDiff, ↓reduceIte, reduceCtorEq, Int.reduceAdd, Int.reduceSub, Int.reduceLT, Int.reduceLE, Int.reduceBEq, Int.reduceEq, Int.reduceToNat, t0, u1, u2, u3, u4, t11, s0, s1, q2, q4, q5, q6, hRn, e1, undefV]
        exact skip (by simp [e1])
    · rw [decide_eq_false hrt] at skip ⊢
      simp -implicitDefEqProofs (disch := (first | omega | (simp -implicitDefEqProofs only [szs, ne_eq] <;> omega) | fail)) only [go_sem, Nat.reduceAdd, Nat.reduceSub, Nat.reduceMul, Nat.reduceLT, Nat.reduceMod, Nat.reduceDiv, Nat.reduceEqDiff, Nat.reduceBEq, Nat.reduceLeDiff, ↓reduceIte, reduceCtorEq, Int.reduceAdd, Int.reduceSub, Int.reduceLT, Int.reduceLE, Int.reduceBEq, Int.reduceEq, Int.reduceToNat, t0, u1, u2, u3, u4, t11, undefV]
      exact skip (by simp)
  · obtain rfl : p = T.L.length := by omega
    rw [List.take_length] at hno
    have hq : mayQ T a kd ob rt = false := hno
    rw [hq]
    simp -implicitDefEqProofs (disch := (first | omega | (simp -implicitDefEqProofs only [szs, ne_eq] <;> omega) | fail)) only [go_sem, Nat.reduceAdd, Nat.reduceSub, Nat.reduceMul, Nat.reduceLT, Nat.reduceMod, Nat.reduceDiv, Nat.reduceEqDiff, Nat.reduceBEq, Nat.reduceLeDiff, ↓reduceIte, reduceCtorEq, Int.reduceAdd, Int.reduceSub, Int.reduceLT, Int.reduceLE, Int.reduceBEq, Int.reduceEq, Int.reduceToNat, ir13_l0, t0, u1, t11, r1g, r2, r4, hRd, ↓hlen]
end Go.Proofs.Ytehgjkopobkbmaa
