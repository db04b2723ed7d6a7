/- A table of capabilities: Root, mine, under, Derive, Grant, Of. -/
import Derived.Test.YtehgjkopobkbmaaC1
set_option linter.unusedVariables false
set_option linter.unusedSimpArgs false
set_option linter.unusedSimpArgs false
set_option maxRecDepth 100000
set_option linter.unusedVariables false
set_option linter.unusedSimpArgs false
namespace Go.Proofs.Ytehgjkopobkbmaa
open Go Go.Vm
/-- What of a is not in b. -/
def anot (a b : Int) : Int := IntKind.i64.wrap (BitVec.ofInt 64 a &&& ~~~ BitVec.ofInt 64 b).toNat
theorem anot_op (a b : Int) : intBin .andNot .i64 a b = some (.int .i64 (anot a b)) := rfl
def okA (a : Int) : Prop := 0 ≤ a ∧ a < 8
instance (a : Int) : Decidable (okA a) := by unfold okA; infer_instance
def okR (r : Int) : Prop := 1 ≤ r ∧ r ≤ 15
instance (a : Int) : Decidable (okR a) := by unfold okR; infer_instance
def mineE (T : CS) (a id : Int) : Int := if ¬ okA a then 2 else match findC T.L id with
  | none => 6
  | some c => if c.ac = a then 0 else 6
def mineC (T : CS) (a id : Int) : Cp := if ¬ okA a then cp0 else match findC T.L id with
  | none => cp0
  | some c => if c.ac = a then c else cp0
theorem look_int2 {P : Program} {t kt et : TypeId} {z : V} (ht : P.underlying t = some (.map kt et)) (hu : P.underlying kt = some (.int .i64)) (hz : zeroV P et = some z) {h : Heap} {r : Nat} {es : Ents} {ck : Nat} (hr : h.get r = some (.map es ck)) (hm : IMap es ck) (k : Int) :
    lookV P t h (.map (some r)) (.int .i64 k) true = some (.tuple [(getI es k).getD z, .bool (getI es k).isSome], [r]) := by
  have hk : keyOk P 10 kt (.int .i64 k) = true := by simp [keyOk, hu]
  simp only [lookV, ht, hu, hk, hz, hr]
  cases hg : getI es k with
  | none => rw [findV_none hu hm.ints hg]; rfl
  | some v =>
    obtain ⟨j, e, _, _, _, hf⟩ := findV_some (i := 0) hu hm.ints hg
    rw [hf]; rfl
theorem CapAt.look {h : Heap} {tb r : Nat} {T : CS} (ht : CapAt h tb r T) (k : Int) : lookV Try.prog 59 h (.map (some r)) (.int .i64 k) true = some (.tuple [((findC T.L k).map Cp.v).getD cp0.v, .bool (findC T.L k).isSome], [r]) := by
  obtain ⟨es, ck, m1, m2, m3⟩ := ht.m
  rw [look_int2 Try.underlying59 Try.underlying2 zv_40 m1 m2, m3]
  cases findC T.L k <;> rfl
theorem CapAt.look1 {h : Heap} {tb r : Nat} {T : CS} (ht : CapAt h tb r T) (k : Int) : lookV Try.prog 59 h (.map (some r)) (.int .i64 k) false = some (((findC T.L k).map Cp.v).getD cp0.v, [r]) := by
  obtain ⟨es, ck, m1, m2, m3⟩ := ht.m
  rw [look_int Try.underlying59 Try.underlying2 zv_40 m1 m2, m3]
  cases findC T.L k <;> rfl
set_option maxHeartbeats 1000000 in
theorem mine_ok {h : Heap} {R W : Set'} {tb r : Nat} {T : CS} (ht : CapAt h tb r T) (hR : ∀ b, b = tb ∨ b = r → R b) (a id : Int) :
    SF Try.prog 41 [.ptr (some (tb, 0)), .int .i64 a, .int .i64 id] h R W fun v h' => v = .tuple [(mineC T a id).v, .int .i64 (mineE T a id)] ∧ h.n ≤ h'.n ∧ ∀ b, b < h.n → h'.get b = h.get b := by
  obtain ⟨l1, l2, l3⟩ := ht.lt
  have hR1 := hR tb (.inl rfl)
  have hR2 := hR r (.inr rfl)
  refine SF.go hm Try.func41 ir41_eq ?_
  obtain ⟨h1, e1, n1, b1, k1⟩ : ∃ h1, h.push (O.cells (Blk.of [V.int IntKind.i64 0, V.int IntKind.i64 0, V.int IntKind.i64 0, V.int IntKind.i64 0, V.int IntKind.i64 0, V.int IntKind.i64 0, V.int IntKind.i64 0]) 40) = h1 ∧ h1.n = h.n + 1 ∧ h1.get h.n = some (O.cells (Blk.of [V.int IntKind.i64 0, V.int IntKind.i64 0, V.int IntKind.i64 0, V.int IntKind.i64 0, V.int IntKind.i64 0, V.int IntKind.i64 0, V.int IntKind.i64 0]) 40) ∧ ∀ b, b < h.n → h1.get b = h.get b := ⟨_, rfl, by simp, w_push_eq rfl _, fun b hb => w_push_ne (by omega) _⟩
  simp -implicitDefEqProofs (disch := (first | omega | (simp -implicitDefEqProofs only [szs, ne_eq] <;> omega) | fail)) only [go_sem, Nat.reduceAdd, Nat.reduceSub, Nat.reduceMul, Nat.reduceLT, Nat.reduceMod, Nat.reduceDiv, Nat.reduceEqDiff, Nat.reduceBEq, Nat.reduceLeDiff, ↓reduceIte, reduceCtorEq, Int.reduceAdd, Int.reduceSub, Int.reduceLT, Int.reduceLE, Int.reduceBEq, Int.reduceEq, Int.reduceToNat, ir41, e1]
  clear e1
  have ht1 := ht.old k1
  refine GCall.of (there_ok ht1 (.inr hR1)) ?_
  rintro v h1 ⟨rfl, rfl⟩
  simp -implicitDefEqProofs (disch := (first | omega | (simp -implicitDefEqProofs only [szs, ne_eq] <;> omega) | fail)) only [go_sem, Nat.reduceAdd, Nat.reduceSub, Nat.reduceMul, Nat.reduceLT, Nat.reduceMod, Nat.reduceDiv, Nat.reduceEqDiff, Nat.reduceBEq, Nat.reduceLeDiff, ↓reduceIte, reduceCtorEq, Int.reduceAdd, Int.reduceSub, Int.reduceLT, Int.reduceLE, Int.reduceBEq, Int.reduceEq, Int.reduceToNat]
  refine GCall.of (account_ok a) ?_
  rintro v h1 ⟨rfl, rfl⟩
  by_cases ha : okA a
  · have ha' : (0 ≤ a ∧ a < 8) := ha
    rw [decide_eq_true ha']
    have htl := ht1.look id
    obtain ⟨ct, t1, t2, t3, t4, t5⟩ := ht1.t
    cases hf : findC T.L id with
    | none =>
      rw [hf] at htl
      simp only [Option.map_none, Option.getD_none, Option.isSome_none, Cp.v, Cp.l, cp0] at htl
      simp -implicitDefEqProofs (disch := (first | omega | (simp -implicitDefEqProofs only [szs, ne_eq] <;> omega) | fail)) only [go_sem, Nat.reduceAdd, Nat.reduceSub, Nat.reduceMul, Nat.reduceLT, Nat.reduceMod, Nat.reduceDiv, Nat.reduceEqDiff, Nat.reduceBEq, Nat.reduceLeDiff, ↓reduceIte, reduceCtorEq, Int.reduceAdd, Int.reduceSub, Int.reduceLT, Int.reduceLE, Int.reduceBEq, Int.reduceEq, Int.reduceToNat, t1, t2, t4, htl, hR1, hR2, undefV, b1]
      rw [mineE, mineC, if_neg (fun h => h ha), if_neg (fun h => h ha), hf]
      and_intros
      all_goals first | exact .inl (by omega) | rfl | omega | (intro b hb; simp -implicitDefEqProofs (disch := (first | omega | (simp -implicitDefEqProofs only [szs, ne_eq] <;> omega) | fail)) only [go_sem, Nat.reduceAdd, Nat.reduceSub, Nat.reduceMul, Nat.reduceLT, Nat.reduceMod, Nat.reduceDiv, Nat.reduceEqDiff, Nat.reduceBEq, Nat.reduceLeDiff, ↓reduceIte, reduceCtorEq, Int.reduceAdd, Int.reduceSub, Int.reduceLT, Int.reduceLE, Int.reduceBEq, Int.reduceEq, Int.reduceToNat, k1])
    | some c =>
      rw [hf] at htl
      simp only [Option.map_some, Option.getD_some, Option.isSome_some, Cp.v, Cp.l] at htl
      by_cases hac : c.ac = a
      · subst hac
        simp -implicitDefEqProofs (disch := (first | omega | (simp -implicitDefEqProofs only [szs, ne_eq] <;> omega) | fail)) only [go_sem, Nat.reduceAdd, Nat.reduceSub, Nat.reduceMul, Nat.reduceLT, Nat.reduceMod, Nat.reduceDiv, Nat.reduceEqDiff, Nat.reduceBEq, Nat.reduceLeDiff, ↓reduceIte, reduceCtorEq, Int.reduceAdd, Int.reduceSub, Int.reduceLT, Int.reduceLE, Int.reduceBEq, Int.reduceEq, Int.reduceToNat, t1, t2, t4, htl, hR1, hR2, undefV, b1]
        rw [mineE, mineC, if_neg (fun h => h ha), if_neg (fun h => h ha), hf]
        simp only [if_true]
        and_intros
        all_goals first | exact .inl (by omega) | rfl | omega | (intro b hb; simp -implicitDefEqProofs (disch := (first | omega | (simp -implicitDefEqProofs only [szs, ne_eq] <;> omega) | fail)) only [go_sem, Nat.reduceAdd, Nat.reduceSub, Nat.reduceMul, Nat.reduceLT, Nat.reduceMod, Nat.reduceDiv, Nat.reduceEqDiff, Nat.reduceBEq, Nat.reduceLeDiff, ↓reduceIte, reduceCtorEq, Int.reduceAdd, Int.reduceSub, Int.reduceLT, Int.reduceLE, Int.reduceBEq, Int.reduceEq, Int.reduceToNat, k1])
      · simp -implicitDefEqProofs (disch := (first | omega | (simp -implicitDefEqProofs only [szs, ne_eq] <;> omega) | fail)) only [go_sem, Nat.reduceAdd, Nat.reduceSub, Nat.reduceMul, Nat.reduceLT, Nat.reduceMod, Nat.reduceDiv, Nat.reduceEqDiff, Nat.reduceBEq, Nat.reduceLeDiff, ↓reduceIte, reduceCtorEq, Int.reduceAdd, Int.reduceSub, Int.reduceLT, Int.reduceLE, Int.reduceBEq, Int.reduceEq, Int.reduceToNat, t1, t2, t4, htl, hR1, hR2, undefV, hac, b1]
        rw [mineE, mineC, if_neg (fun h => h ha), if_neg (fun h => h ha), hf]
        simp only [hac, if_false]
        and_intros
        all_goals first | exact .inl (by omega) | rfl | omega | (intro b hb; simp -implicitDefEqProofs (disch := (first | omega | (simp -implicitDefEqProofs only [szs, ne_eq] <;> omega) | fail)) only [go_sem, Nat.reduceAdd, Nat.reduceSub, Nat.reduceMul, Nat.reduceLT, Nat.reduceMod, Nat.reduceDiv, Nat.reduceEqDiff, Nat.reduceBEq, Nat.reduceLeDiff, ↓reduceIte, reduceCtorEq, Int.reduceAdd, Int.reduceSub, Int.reduceLT, Int.reduceLE, Int.reduceBEq, Int.reduceEq, Int.reduceToNat, k1])
  · have ha' : ¬ (0 ≤ a ∧ a < 8) := ha
    rw [decide_eq_false ha']
    simp -implicitDefEqProofs (disch := (first | omega | (simp -implicitDefEqProofs only [szs, ne_eq] <;> omega) | fail)) only [go_sem, Nat.reduceAdd, Nat.reduceSub, Nat.reduceMul, Nat.reduceLT, Nat.reduceMod, Nat.reduceDiv, Nat.reduceEqDiff, Nat.reduceBEq, Nat.reduceLeDiff, ↓reduceIte, reduceCtorEq, Int.reduceAdd, Int.reduceSub, Int.reduceLT, Int.reduceLE, Int.reduceBEq, Int.reduceEq, Int.reduceToNat, b1]
    rw [mineE, mineC, if_pos ha, if_pos ha]
    exact ⟨rfl, by omega, fun b hb => by simp -implicitDefEqProofs (disch := (first | omega | (simp -implicitDefEqProofs only [szs, ne_eq] <;> omega) | fail)) only [go_sem, Nat.reduceAdd, Nat.reduceSub, Nat.reduceMul, Nat.reduceLT, Nat.reduceMod, Nat.reduceDiv, Nat.reduceEqDiff, Nat.reduceBEq, Nat.reduceLeDiff, ↓reduceIte, reduceCtorEq, Int.reduceAdd, Int.reduceSub, Int.reduceLT, Int.reduceLE, Int.reduceBEq, Int.reduceEq, Int.reduceToNat, k1]⟩
/-- What under answers, and leaves. -/
def underC (T : CS) (a id to r : Int) : Cp := let c := mineC T a id; ⟨0, id, to, a, c.kd, c.ob, r⟩
def underE (T : CS) (a id to r need : Int) : Int := if ¬ (okA to ∧ okR r) then 2 else if mineE T a id ≠ 0 then mineE T a id else if anot r (mineC T a id).rt ≠ 0 ∨ anot need (mineC T a id).rt ≠ 0 then 8 else addE T (underC T a id to r)
def underI (T : CS) (a id to r need : Int) : Int := if ¬ (okA to ∧ okR r) then 0 else if mineE T a id ≠ 0 then 0 else if anot r (mineC T a id).rt ≠ 0 ∨ anot need (mineC T a id).rt ≠ 0 then 0 else addI T (underC T a id to r)
def underT (T : CS) (a id to r need : Int) : CS := if ¬ (okA to ∧ okR r) then T else if mineE T a id ≠ 0 then T else if anot r (mineC T a id).rt ≠ 0 ∨ anot need (mineC T a id).rt ≠ 0 then T else addT T (underC T a id to r)
/-- A capability in a place of its own. -/
theorem stC (h : Heap) (c : Cp) : ∃ h2, ((h.push (O.cells (Blk.of [V.int IntKind.i64 0, V.int IntKind.i64 0, V.int IntKind.i64 0, V.int IntKind.i64 0, V.int IntKind.i64 0, V.int IntKind.i64 0, V.int IntKind.i64 0]) 40)).set h.n (O.cells ((((((((Blk.of [V.int IntKind.i64 0, V.int IntKind.i64 0, V.int IntKind.i64 0, V.int IntKind.i64 0, V.int IntKind.i64 0, V.int IntKind.i64 0, V.int IntKind.i64 0]).set 0 (V.int IntKind.i64 c.id)).set 1 (V.int IntKind.i64 c.par)).set 2 (V.int IntKind.i64 c.ac)).set 3 (V.int IntKind.i64 c.mr)).set 4 (V.int IntKind.i64 c.kd)).set 5 (V.int IntKind.i64 c.ob)).set 6 (V.int IntKind.i64 c.rt)) 40)) = h2 ∧ h2.n = h.n + 1 ∧
    (∃ s, h2.get h.n = some (.cells s 40) ∧ s.size = 7 ∧ s.ro = false ∧ s.get 0 = .int .i64 c.id ∧ s.get 1 = .int .i64 c.par ∧ s.get 2 = .int .i64 c.ac ∧ s.get 3 = .int .i64 c.mr ∧ s.get 4 = .int .i64 c.kd ∧ s.get 5 = .int .i64 c.ob ∧ s.get 6 = .int .i64 c.rt) ∧ ∀ b, b < h.n → h2.get b = h.get b := by
  refine ⟨_, rfl, by simp, ⟨_, w_set_eq (by simp) rfl _, rfl, rfl, ?_, ?_, ?_, ?_, ?_, ?_, ?_⟩, fun b hb => by simp -implicitDefEqProofs (disch := (first | omega | (simp -implicitDefEqProofs only [szs, ne_eq] <;> omega) | fail)) only [go_sem, Nat.reduceAdd, Nat.reduceSub, Nat.reduceMul, Nat.reduceLT, Nat.reduceMod, Nat.reduceDiv, Nat.reduceEqDiff, Nat.reduceBEq, Nat.reduceLeDiff, ↓reduceIte, reduceCtorEq, Int.reduceAdd, Int.reduceSub, Int.reduceLT, Int.reduceLE, Int.reduceBEq, Int.reduceEq, Int.reduceToNat]⟩ <;> simp -implicitDefEqProofs (disch := (first | omega | (simp -implicitDefEqProofs only [szs, ne_eq] <;> omega) | fail)) only [go_sem, Nat.reduceAdd, Nat.reduceSub, Nat.reduceMul, Nat.reduceLT, Nat.reduceMod, Nat.reduceDiv, Nat.reduceEqDiff, Nat.reduceBEq, Nat.reduceLeDiff, ↓reduceIte, reduceCtorEq, Int.reduceAdd, Int.reduceSub, Int.reduceLT, Int.reduceLE, Int.reduceBEq, Int.reduceEq, Int.reduceToNat]
set_option maxHeartbeats 1000000 in
theorem under_ok {h : Heap} {R W : Set'} {tb r : Nat} {T : CS} (ht : CapAt h tb r T) (w : WF T) (hR : ∀ b, b = tb ∨ b = r → R b) (hW : ∀ b, b = tb ∨ b = r → W b) (a id to rt need : Int) :
    SF Try.prog 44 [.ptr (some (tb, 0)), .int .i64 a, .int .i64 id, .int .i64 to, .int .i64 rt, .int .i64 need] h R W fun v h' => v = .tuple [.int .i64 (underI T a id to rt need), .int .i64 (underE T a id to rt need)] ∧ CapAt h' tb r (underT T a id to rt need) := by
  obtain ⟨l1, l2, l3⟩ := ht.lt
  have hR1 := hR tb (.inl rfl)
  have hR2 := hR r (.inr rfl)
  refine SF.go hm Try.func44 ir44_eq ?_
  simp -implicitDefEqProofs (disch := (first | omega | (simp -implicitDefEqProofs only [szs, ne_eq] <;> omega) | fail)) only [go_sem, Nat.reduceAdd, Nat.reduceSub, Nat.reduceMul, Nat.reduceLT, Nat.reduceMod, Nat.reduceDiv, Nat.reduceEqDiff, Nat.reduceBEq, Nat.reduceLeDiff, ↓reduceIte, reduceCtorEq, Int.reduceAdd, Int.reduceSub, Int.reduceLT, Int.reduceLE, Int.reduceBEq, Int.reduceEq, Int.reduceToNat, ir44]
  refine GCall.of (there_ok ht (.inr hR1)) ?_
  rintro v h1 ⟨rfl, rfl⟩
  simp -implicitDefEqProofs (disch := (first | omega | (simp -implicitDefEqProofs only [szs, ne_eq] <;> omega) | fail)) only [go_sem, Nat.reduceAdd, Nat.reduceSub, Nat.reduceMul, Nat.reduceLT, Nat.reduceMod, Nat.reduceDiv, Nat.reduceEqDiff, Nat.reduceBEq, Nat.reduceLeDiff, ↓reduceIte, reduceCtorEq, Int.reduceAdd, Int.reduceSub, Int.reduceLT, Int.reduceLE, Int.reduceBEq, Int.reduceEq, Int.reduceToNat, undefV]
  refine GCall.of (account_ok to) ?_
  rintro v h1 ⟨rfl, rfl⟩
  by_cases hto : okA to
  · have hto' : (0 ≤ to ∧ to < 8) := hto
    rw [decide_eq_true hto']
    simp -implicitDefEqProofs (disch := (first | omega | (simp -implicitDefEqProofs only [szs, ne_eq] <;> omega) | fail)) only [go_sem, Nat.reduceAdd, Nat.reduceSub, Nat.reduceMul, Nat.reduceLT, Nat.reduceMod, Nat.reduceDiv, Nat.reduceEqDiff, Nat.reduceBEq, Nat.reduceLeDiff, ↓reduceIte, reduceCtorEq, Int.reduceAdd, Int.reduceSub, Int.reduceLT, Int.reduceLE, Int.reduceBEq, Int.reduceEq, Int.reduceToNat, undefV]
    refine GCall.of (rights_ok rt) ?_
    rintro v h1 ⟨rfl, rfl⟩
    by_cases hrt : okR rt
    · have hrt' : (1 ≤ rt ∧ rt ≤ 15) := hrt
      rw [decide_eq_true hrt']
      simp -implicitDefEqProofs (disch := (first | omega | (simp -implicitDefEqProofs only [szs, ne_eq] <;> omega) | fail)) only [go_sem, Nat.reduceAdd, Nat.reduceSub, Nat.reduceMul, Nat.reduceLT, Nat.reduceMod, Nat.reduceDiv, Nat.reduceEqDiff, Nat.reduceBEq, Nat.reduceLeDiff, ↓reduceIte, reduceCtorEq, Int.reduceAdd, Int.reduceSub, Int.reduceLT, Int.reduceLE, Int.reduceBEq, Int.reduceEq, Int.reduceToNat, undefV]
      refine GCall.of (mine_ok ht (fun b hb => .inr (hR b hb)) a id) ?_
      rintro v h2 ⟨rfl, n2, k2⟩
      have ht2 := ht.old k2
      obtain ⟨h3, e3, n3, ⟨sb, s0, s1, _, _, _, _, _, s6, s7, s8⟩, k3⟩ := stC h2 (mineC T a id)
      have ht3 := ht2.old k3
      have h2o : okA to ∧ okR rt := ⟨hto, hrt⟩
      by_cases he : mineE T a id = 0
      · have hR3 : h1.n ≤ h2.n ∨ R h2.n := .inl (by omega)
        by_cases hx : anot rt (mineC T a id).rt = 0
        · by_cases hy : anot need (mineC T a id).rt = 0
          · obtain ⟨eI, eE, eT⟩ : underI T a id to rt need = addI T (underC T a id to rt) ∧ underE T a id to rt need = addE T (underC T a id to rt) ∧ underT T a id to rt need = addT T (underC T a id to rt) := by
              simp only [underI, underE, underT, h2o, he, hx, hy]; simp
            rw [eI, eE, eT]
            simp -implicitDefEqProofs (disch := (first | omega | (simp -implicitDefEqProofs only [szs, ne_eq] <;> omega) | fail)) only [go_sem, Nat.reduceAdd, Nat.reduceSub, Nat.reduceMul, Nat.reduceLT, Nat.reduceMod, Nat.reduceDiv, Nat.reduceEqDiff, Nat.reduceBEq, Nat.reduceLeDiff, ↓reduceIte, reduceCtorEq, Int.reduceAdd, Int.reduceSub, Int.reduceLT, Int.reduceLE, Int.reduceBEq, Int.reduceEq, Int.reduceToNat, Cp.v, Cp.l, e3, s0, s1, s8, s6, s7, hR3, undefV, ↓anot_op, hx, hy, he]
            refine ⟨.inl (by omega), GCall.of (add_ok ht3 w (fun b hb => .inr (hR b hb)) (fun b hb => .inr (hW b hb)) (underC T a id to rt) rfl) ?_⟩
            rintro v h4 ⟨rfl, ht4⟩
            simp -implicitDefEqProofs (disch := (first | omega | (simp -implicitDefEqProofs only [szs, ne_eq] <;> omega) | fail)) only [go_sem, Nat.reduceAdd, Nat.reduceSub, Nat.reduceMul, Nat.reduceLT, Nat.reduceMod, Nat.reduceDiv, Nat.reduceEqDiff, Nat.reduceBEq, Nat.reduceLeDiff, ↓reduceIte, reduceCtorEq, Int.reduceAdd, Int.reduceSub, Int.reduceLT, Int.reduceLE, Int.reduceBEq, Int.reduceEq, Int.reduceToNat]
            exact ht4
          · obtain ⟨eI, eE, eT⟩ : underI T a id to rt need = 0 ∧ underE T a id to rt need = 8 ∧ underT T a id to rt need = T := by
              simp only [underI, underE, underT, h2o, he, hx]; simp [hy]
            rw [eI, eE, eT]
            simp -implicitDefEqProofs (disch := (first | omega | (simp -implicitDefEqProofs only [szs, ne_eq] <;> omega) | fail)) only [go_sem, Nat.reduceAdd, Nat.reduceSub, Nat.reduceMul, Nat.reduceLT, Nat.reduceMod, Nat.reduceDiv, Nat.reduceEqDiff, Nat.reduceBEq, Nat.reduceLeDiff, ↓reduceIte, reduceCtorEq, Int.reduceAdd, Int.reduceSub, Int.reduceLT, Int.reduceLE, Int.reduceBEq, Int.reduceEq, Int.reduceToNat, Cp.v, Cp.l, e3, s0, s1, s8, hR3, undefV, ↓anot_op, hx, hy, he]
            exact ⟨.inl (by omega), ht3⟩
        · obtain ⟨eI, eE, eT⟩ : underI T a id to rt need = 0 ∧ underE T a id to rt need = 8 ∧ underT T a id to rt need = T := by
            simp only [underI, underE, underT, h2o, he]; simp [hx]
          rw [eI, eE, eT]
          simp -implicitDefEqProofs (disch := (first | omega | (simp -implicitDefEqProofs only [szs, ne_eq] <;> omega) | fail)) only [go_sem, Nat.reduceAdd, Nat.reduceSub, Nat.reduceMul, Nat.reduceLT, Nat.reduceMod, Nat.reduceDiv, Nat.reduceEqDiff, Nat.reduceBEq, Nat.reduceLeDiff, ↓reduceIte, reduceCtorEq, Int.reduceAdd, Int.reduceSub, Int.reduceLT, Int.reduceLE, Int.reduceBEq, Int.reduceEq, Int.reduceToNat, Cp.v, Cp.l, e3, s0, s1, s8, hR3, undefV, ↓anot_op, hx, he]
          exact ⟨.inl (by omega), ht3⟩
      · obtain ⟨eI, eE, eT⟩ : underI T a id to rt need = 0 ∧ underE T a id to rt need = mineE T a id ∧ underT T a id to rt need = T := by
          simp only [underI, underE, underT, h2o]; simp [he]
        rw [eI, eE, eT]
        have hne : (mineE T a id != 0) = true := by simpa using he
        simp -implicitDefEqProofs (disch := (first | omega | (simp -implicitDefEqProofs only [szs, ne_eq] <;> omega) | fail)) only [go_sem, Nat.reduceAdd, Nat.reduceSub, Nat.reduceMul, Nat.reduceLT, Nat.reduceMod, Nat.reduceDiv, Nat.reduceEqDiff, Nat.reduceBEq, Nat.reduceLeDiff, ↓reduceIte, reduceCtorEq, Int.reduceAdd, Int.reduceSub, Int.reduceLT, Int.reduceLE, Int.reduceBEq, Int.reduceEq, Int.reduceToNat, Cp.v, Cp.l, e3, undefV, hne]
        exact ⟨.inl (by omega), ht3⟩
    · have hrt' : ¬ (1 ≤ rt ∧ rt ≤ 15) := hrt
      rw [decide_eq_false hrt']
      simp -implicitDefEqProofs (disch := (first | omega | (simp -implicitDefEqProofs only [szs, ne_eq] <;> omega) | fail)) only [go_sem, Nat.reduceAdd, Nat.reduceSub, Nat.reduceMul, Nat.reduceLT, Nat.reduceMod, Nat.reduceDiv, Nat.reduceEqDiff, Nat.reduceBEq, Nat.reduceLeDiff, ↓reduceIte, reduceCtorEq, Int.reduceAdd, Int.reduceSub, Int.reduceLT, Int.reduceLE, Int.reduceBEq, Int.reduceEq, Int.reduceToNat, undefV]
      obtain ⟨eI, eE, eT⟩ : underI T a id to rt need = 0 ∧ underE T a id to rt need = 2 ∧ underT T a id to rt need = T := by
        simp [underI, underE, underT, hrt]
      rw [eI, eE, eT]
      exact ⟨rfl, ht⟩
  · have hto' : ¬ (0 ≤ to ∧ to < 8) := hto
    rw [decide_eq_false hto']
    simp -implicitDefEqProofs (disch := (first | omega | (simp -implicitDefEqProofs only [szs, ne_eq] <;> omega) | fail)) only [go_sem, Nat.reduceAdd, Nat.reduceSub, Nat.reduceMul, Nat.reduceLT, Nat.reduceMod, Nat.reduceDiv, Nat.reduceEqDiff, Nat.reduceBEq, Nat.reduceLeDiff, ↓reduceIte, reduceCtorEq, Int.reduceAdd, Int.reduceSub, Int.reduceLT, Int.reduceLE, Int.reduceBEq, Int.reduceEq, Int.reduceToNat, undefV]
    obtain ⟨eI, eE, eT⟩ : underI T a id to rt need = 0 ∧ underE T a id to rt need = 2 ∧ underT T a id to rt need = T := by
      simp [underI, underE, underT, hto]
    rw [eI, eE, eT]
    exact ⟨rfl, ht⟩
theorem derive_ok {h : Heap} {R W : Set'} {tb r : Nat} {T : CS} (ht : CapAt h tb r T) (w : WF T) (hR : ∀ b, b = tb ∨ b = r → R b) (hW : ∀ b, b = tb ∨ b = r → W b) (a id rt : Int) :
    SF Try.prog 21 [.ptr (some (tb, 0)), .int .i64 a, .int .i64 id, .int .i64 rt] h R W fun v h' => v = .tuple [.int .i64 (underI T a id a rt 0), .int .i64 (underE T a id a rt 0)] ∧ CapAt h' tb r (underT T a id a rt 0) := by
  refine SF.go hm Try.func21 ir21_eq ?_
  simp -implicitDefEqProofs (disch := (first | omega | (simp -implicitDefEqProofs only [szs, ne_eq] <;> omega) | fail)) only [go_sem, Nat.reduceAdd, Nat.reduceSub, Nat.reduceMul, Nat.reduceLT, Nat.reduceMod, Nat.reduceDiv, Nat.reduceEqDiff, Nat.reduceBEq, Nat.reduceLeDiff, ↓reduceIte, reduceCtorEq, Int.reduceAdd, Int.reduceSub, Int.reduceLT, Int.reduceLE, Int.reduceBEq, Int.reduceEq, Int.reduceToNat, ir21]
  refine GCall.of (under_ok ht w (fun b hb => .inr (hR b hb)) (fun b hb => .inr (hW b hb)) a id a rt 0) ?_
  rintro v h4 ⟨rfl, ht4⟩
  simp -implicitDefEqProofs (disch := (first | omega | (simp -implicitDefEqProofs only [szs, ne_eq] <;> omega) | fail)) only [go_sem, Nat.reduceAdd, Nat.reduceSub, Nat.reduceMul, Nat.reduceLT, Nat.reduceMod, Nat.reduceDiv, Nat.reduceEqDiff, Nat.reduceBEq, Nat.reduceLeDiff, ↓reduceIte, reduceCtorEq, Int.reduceAdd, Int.reduceSub, Int.reduceLT, Int.reduceLE, Int.reduceBEq, Int.reduceEq, Int.reduceToNat]
  exact ht4
theorem grant_ok {h : Heap} {R W : Set'} {tb r : Nat} {T : CS} (ht : CapAt h tb r T) (w : WF T) (hR : ∀ b, b = tb ∨ b = r → R b) (hW : ∀ b, b = tb ∨ b = r → W b) (a id to rt : Int) :
    SF Try.prog 26 [.ptr (some (tb, 0)), .int .i64 a, .int .i64 id, .int .i64 to, .int .i64 rt] h R W fun v h' => v = .tuple [.int .i64 (underI T a id to rt 8), .int .i64 (underE T a id to rt 8)] ∧ CapAt h' tb r (underT T a id to rt 8) := by
  refine SF.go hm Try.func26 ir26_eq ?_
  simp -implicitDefEqProofs (disch := (first | omega | (simp -implicitDefEqProofs only [szs, ne_eq] <;> omega) | fail)) only [go_sem, Nat.reduceAdd, Nat.reduceSub, Nat.reduceMul, Nat.reduceLT, Nat.reduceMod, Nat.reduceDiv, Nat.reduceEqDiff, Nat.reduceBEq, Nat.reduceLeDiff, ↓reduceIte, reduceCtorEq, Int.reduceAdd, Int.reduceSub, Int.reduceLT, Int.reduceLE, Int.reduceBEq, Int.reduceEq, Int.reduceToNat, ir26]
  refine GCall.of (under_ok ht w (fun b hb => .inr (hR b hb)) (fun b hb => .inr (hW b hb)) a id to rt 8) ?_
  rintro v h4 ⟨rfl, ht4⟩
  simp -implicitDefEqProofs (disch := (first | omega | (simp -implicitDefEqProofs only [szs, ne_eq] <;> omega) | fail)) only [go_sem, Nat.reduceAdd, Nat.reduceSub, Nat.reduceMul, Nat.reduceLT, Nat.reduceMod, Nat.reduceDiv, Nat.reduceEqDiff, Nat.reduceBEq, Nat.reduceLeDiff, ↓reduceIte, reduceCtorEq, Int.reduceAdd, Int.reduceSub, Int.reduceLT, Int.reduceLE, Int.reduceBEq, Int.reduceEq, Int.reduceToNat]
  exact ht4
def rootC (a kd ob rt : Int) : Cp := ⟨0, 0, a, a, kd, ob, rt⟩
def rootOk (a kd ob rt : Int) : Prop := okA a ∧ 0 ≤ kd ∧ 0 ≤ ob ∧ okR rt
instance (a kd ob rt : Int) : Decidable (rootOk a kd ob rt) := by unfold rootOk; infer_instance
def rootE (T : CS) (a kd ob rt : Int) : Int := if rootOk a kd ob rt then addE T (rootC a kd ob rt) else 2
def rootI (T : CS) (a kd ob rt : Int) : Int := if rootOk a kd ob rt then addI T (rootC a kd ob rt) else 0
def rootT (T : CS) (a kd ob rt : Int) : CS := if rootOk a kd ob rt then addT T (rootC a kd ob rt) else T
set_option maxHeartbeats 1000000 in
theorem root_ok {h : Heap} {R W : Set'} {tb r : Nat} {T : CS} (ht : CapAt h tb r T) (w : WF T) (hR : ∀ b, b = tb ∨ b = r → R b) (hW : ∀ b, b = tb ∨ b = r → W b) (a kd ob rt : Int) :
    SF Try.prog 20 [.ptr (some (tb, 0)), .int .i64 a, .int .i64 kd, .int .i64 ob, .int .i64 rt] h R W fun v h' => v = .tuple [.int .i64 (rootI T a kd ob rt), .int .i64 (rootE T a kd ob rt)] ∧ CapAt h' tb r (rootT T a kd ob rt) := by
  have hR1 := hR tb (.inl rfl)
  refine SF.go hm Try.func20 ir20_eq ?_
  simp -implicitDefEqProofs (disch := (first | omega | (simp -implicitDefEqProofs only [szs, ne_eq] <;> omega) | fail)) only [go_sem, Nat.reduceAdd, Nat.reduceSub, Nat.reduceMul, Nat.reduceLT, Nat.reduceMod, Nat.reduceDiv, Nat.reduceEqDiff, Nat.reduceBEq, Nat.reduceLeDiff, ↓reduceIte, reduceCtorEq, Int.reduceAdd, Int.reduceSub, Int.reduceLT, Int.reduceLE, Int.reduceBEq, Int.reduceEq, Int.reduceToNat, ir20]
  refine GCall.of (there_ok ht (.inr hR1)) ?_
  rintro v h1 ⟨rfl, rfl⟩
  simp -implicitDefEqProofs (disch := (first | omega | (simp -implicitDefEqProofs only [szs, ne_eq] <;> omega) | fail)) only [go_sem, Nat.reduceAdd, Nat.reduceSub, Nat.reduceMul, Nat.reduceLT, Nat.reduceMod, Nat.reduceDiv, Nat.reduceEqDiff, Nat.reduceBEq, Nat.reduceLeDiff, ↓reduceIte, reduceCtorEq, Int.reduceAdd, Int.reduceSub, Int.reduceLT, Int.reduceLE, Int.reduceBEq, Int.reduceEq, Int.reduceToNat]
  refine GCall.of (account_ok a) ?_
  rintro v h1 ⟨rfl, rfl⟩
  by_cases ha : okA a
  · have ha' : (0 ≤ a ∧ a < 8) := ha
    rw [decide_eq_true ha']
    by_cases hk : 0 ≤ kd
    · by_cases ho : 0 ≤ ob
      · simp -implicitDefEqProofs (disch := (first | omega | (simp -implicitDefEqProofs only [szs, ne_eq] <;> omega) | fail)) only [go_sem, Nat.reduceAdd, Nat.reduceSub, Nat.reduceMul, Nat.reduceLT, Nat.reduceMod, Nat.reduceDiv, Nat.reduceEqDiff, Nat.reduceBEq, Nat.reduceLeDiff, ↓reduceIte, reduceCtorEq, Int.reduceAdd, Int.reduceSub, Int.reduceLT, Int.reduceLE, Int.reduceBEq, Int.reduceEq, Int.reduceToNat, undefV]
        refine GCall.of (rights_ok rt) ?_
        rintro v h1 ⟨rfl, rfl⟩
        by_cases hrt : okR rt
        · have hrt' : (1 ≤ rt ∧ rt ≤ 15) := hrt
          rw [decide_eq_true hrt']
          have hok : rootOk a kd ob rt := ⟨ha, hk, ho, hrt⟩
          rw [rootI, rootE, rootT, if_pos hok, if_pos hok, if_pos hok]
          simp -implicitDefEqProofs (disch := (first | omega | (simp -implicitDefEqProofs only [szs, ne_eq] <;> omega) | fail)) only [go_sem, Nat.reduceAdd, Nat.reduceSub, Nat.reduceMul, Nat.reduceLT, Nat.reduceMod, Nat.reduceDiv, Nat.reduceEqDiff, Nat.reduceBEq, Nat.reduceLeDiff, ↓reduceIte, reduceCtorEq, Int.reduceAdd, Int.reduceSub, Int.reduceLT, Int.reduceLE, Int.reduceBEq, Int.reduceEq, Int.reduceToNat, undefV]
          refine GCall.of (add_ok ht w (fun b hb => .inr (hR b hb)) (fun b hb => .inr (hW b hb)) (rootC a kd ob rt) rfl) ?_
          rintro v h4 ⟨rfl, ht4⟩
          simp -implicitDefEqProofs (disch := (first | omega | (simp -implicitDefEqProofs only [szs, ne_eq] <;> omega) | fail)) only [go_sem, Nat.reduceAdd, Nat.reduceSub, Nat.reduceMul, Nat.reduceLT, Nat.reduceMod, Nat.reduceDiv, Nat.reduceEqDiff, Nat.reduceBEq, Nat.reduceLeDiff, ↓reduceIte, reduceCtorEq, Int.reduceAdd, Int.reduceSub, Int.reduceLT, Int.reduceLE, Int.reduceBEq, Int.reduceEq, Int.reduceToNat]
          exact ht4
        · have hrt' : ¬ (1 ≤ rt ∧ rt ≤ 15) := hrt
          rw [decide_eq_false hrt']
          have hok : ¬ rootOk a kd ob rt := fun h => hrt h.2.2.2
          rw [rootI, rootE, rootT, if_neg hok, if_neg hok, if_neg hok]
          simp -implicitDefEqProofs (disch := (first | omega | (simp -implicitDefEqProofs only [szs, ne_eq] <;> omega) | fail)) only [go_sem, Nat.reduceAdd, Nat.reduceSub, Nat.reduceMul, Nat.reduceLT, Nat.reduceMod, Nat.reduceDiv, Nat.reduceEqDiff, Nat.reduceBEq, Nat.reduceLeDiff, ↓reduceIte, reduceCtorEq, Int.reduceAdd, Int.reduceSub, Int.reduceLT, Int.reduceLE, Int.reduceBEq, Int.reduceEq, Int.reduceToNat, undefV]
          exact ht
      · have hok : ¬ rootOk a kd ob rt := fun h => ho h.2.2.1
        rw [rootI, rootE, rootT, if_neg hok, if_neg hok, if_neg hok]
        simp -implicitDefEqProofs (disch := (first | omega | (simp -implicitDefEqProofs only [szs, ne_eq] <;> omega) | fail)) only [go_sem, Nat.reduceAdd, Nat.reduceSub, Nat.reduceMul, Nat.reduceLT, Nat.reduceMod, Nat.reduceDiv, Nat.reduceEqDiff, Nat.reduceBEq, Nat.reduceLeDiff, ↓reduceIte, reduceCtorEq, Int.reduceAdd, Int.reduceSub, Int.reduceLT, Int.reduceLE, Int.reduceBEq, Int.reduceEq, Int.reduceToNat, undefV]
        exact ht
    · have hok : ¬ rootOk a kd ob rt := fun h => hk h.2.1
      rw [rootI, rootE, rootT, if_neg hok, if_neg hok, if_neg hok]
      simp -implicitDefEqProofs (disch := (first | omega | (simp -implicitDefEqProofs only [szs, ne_eq] <;> omega) | fail)) only [go_sem, Nat.reduceAdd, Nat.reduceSub, Nat.reduceMul, Nat.reduceLT, Nat.reduceMod, Nat.reduceDiv, Nat.reduceEqDiff, Nat.reduceBEq, Nat.reduceLeDiff, ↓reduceIte, reduceCtorEq, Int.reduceAdd, Int.reduceSub, Int.reduceLT, Int.reduceLE, Int.reduceBEq, Int.reduceEq, Int.reduceToNat, undefV]
      exact ht
  · have ha' : ¬ (0 ≤ a ∧ a < 8) := ha
    rw [decide_eq_false ha']
    have hok : ¬ rootOk a kd ob rt := fun h => ha h.1
    rw [rootI, rootE, rootT, if_neg hok, if_neg hok, if_neg hok]
    simp -implicitDefEqProofs (disch := (first | omega | (simp -implicitDefEqProofs only [szs, ne_eq] <;> omega) | fail)) only [go_sem, Nat.reduceAdd, Nat.reduceSub, Nat.reduceMul, Nat.reduceLT, Nat.reduceMod, Nat.reduceDiv, Nat.reduceEqDiff, Nat.reduceBEq, Nat.reduceLeDiff, ↓reduceIte, reduceCtorEq, Int.reduceAdd, Int.reduceSub, Int.reduceLT, Int.reduceLE, Int.reduceBEq, Int.reduceEq, Int.reduceToNat, undefV]
    exact ht
def ofE (T : CS) (id : Int) : Int := if (findC T.L id).isSome then 0 else 6
def ofC (T : CS) (id : Int) : Cp := (findC T.L id).getD cp0
set_option maxHeartbeats 1000000 in
theorem of_ok {h : Heap} {R W : Set'} {tb r : Nat} {T : CS} (ht : CapAt h tb r T) (hR : ∀ b, b = tb ∨ b = r → R b) (id : Int) :
    SF Try.prog 16 [.ptr (some (tb, 0)), .int .i64 id] h R W fun v h' => v = .tuple [(ofC T id).v, .int .i64 (ofE T id)] ∧ h.n ≤ h'.n ∧ ∀ b, b < h.n → h'.get b = h.get b := by
  have hR1 := hR tb (.inl rfl)
  have hR2 := hR r (.inr rfl)
  refine SF.go hm Try.func16 ir16_eq ?_
  obtain ⟨h1, e1, n1, b1, k1⟩ : ∃ h1, h.push (O.cells (Blk.of [V.int IntKind.i64 0, V.int IntKind.i64 0, V.int IntKind.i64 0, V.int IntKind.i64 0, V.int IntKind.i64 0, V.int IntKind.i64 0, V.int IntKind.i64 0]) 40) = h1 ∧ h1.n = h.n + 1 ∧ h1.get h.n = some (O.cells (Blk.of [V.int IntKind.i64 0, V.int IntKind.i64 0, V.int IntKind.i64 0, V.int IntKind.i64 0, V.int IntKind.i64 0, V.int IntKind.i64 0, V.int IntKind.i64 0]) 40) ∧ ∀ b, b < h.n → h1.get b = h.get b := ⟨_, rfl, by simp, w_push_eq rfl _, fun b hb => w_push_ne (by omega) _⟩
  simp -implicitDefEqProofs (disch := (first | omega | (simp -implicitDefEqProofs only [szs, ne_eq] <;> omega) | fail)) only [go_sem, Nat.reduceAdd, Nat.reduceSub, Nat.reduceMul, Nat.reduceLT, Nat.reduceMod, Nat.reduceDiv, Nat.reduceEqDiff, Nat.reduceBEq, Nat.reduceLeDiff, ↓reduceIte, reduceCtorEq, Int.reduceAdd, Int.reduceSub, Int.reduceLT, Int.reduceLE, Int.reduceBEq, Int.reduceEq, Int.reduceToNat, ir16, e1]
  clear e1
  have ht1 := ht.old k1
  refine GCall.of (there_ok ht1 (.inr hR1)) ?_
  rintro v h1 ⟨rfl, rfl⟩
  have htl := ht1.look id
  obtain ⟨ct, t1, t2, t3, t4, t5⟩ := ht1.t
  rw [ofC, ofE]
  cases hf : findC T.L id with
  | none =>
    rw [hf] at htl
    simp only [Option.map_none, Option.getD_none, Option.isSome_none, Cp.v, Cp.l, cp0] at htl
    simp -implicitDefEqProofs (disch := (first | omega | (simp -implicitDefEqProofs only [szs, ne_eq] <;> omega) | fail)) only [go_sem, Nat.reduceAdd, Nat.reduceSub, Nat.reduceMul, Nat.reduceLT, Nat.reduceMod, Nat.reduceDiv, Nat.reduceEqDiff, Nat.reduceBEq, Nat.reduceLeDiff, ↓reduceIte, reduceCtorEq, Int.reduceAdd, Int.reduceSub, Int.reduceLT, Int.reduceLE, Int.reduceBEq, Int.reduceEq, Int.reduceToNat, t1, t2, t4, htl, hR1, hR2, undefV, b1]
    and_intros
    all_goals first | exact .inl (by omega) | rfl | omega | (intro b hb; simp -implicitDefEqProofs (disch := (first | omega | (simp -implicitDefEqProofs only [szs, ne_eq] <;> omega) | fail)) only [go_sem, Nat.reduceAdd, Nat.reduceSub, Nat.reduceMul, Nat.reduceLT, Nat.reduceMod, Nat.reduceDiv, Nat.reduceEqDiff, Nat.reduceBEq, Nat.reduceLeDiff, ↓reduceIte, reduceCtorEq, Int.reduceAdd, Int.reduceSub, Int.reduceLT, Int.reduceLE, Int.reduceBEq, Int.reduceEq, Int.reduceToNat, k1])
  | some c =>
    rw [hf] at htl
    simp only [Option.map_some, Option.getD_some, Option.isSome_some, Cp.v, Cp.l] at htl
    simp -implicitDefEqProofs (disch := (first | omega | (simp -implicitDefEqProofs only [szs, ne_eq] <;> omega) | fail)) only [go_sem, Nat.reduceAdd, Nat.reduceSub, Nat.reduceMul, Nat.reduceLT, Nat.reduceMod, Nat.reduceDiv, Nat.reduceEqDiff, Nat.reduceBEq, Nat.reduceLeDiff, ↓reduceIte, reduceCtorEq, Int.reduceAdd, Int.reduceSub, Int.reduceLT, Int.reduceLE, Int.reduceBEq, Int.reduceEq, Int.reduceToNat, t1, t2, t4, htl, hR1, hR2, undefV, b1]
    and_intros
    all_goals first | exact .inl (by omega) | rfl | omega | (intro b hb; simp -implicitDefEqProofs (disch := (first | omega | (simp -implicitDefEqProofs only [szs, ne_eq] <;> omega) | fail)) only [go_sem, Nat.reduceAdd, Nat.reduceSub, Nat.reduceMul, Nat.reduceLT, Nat.reduceMod, Nat.reduceDiv, Nat.reduceEqDiff, Nat.reduceBEq, Nat.reduceLeDiff, ↓reduceIte, reduceCtorEq, Int.reduceAdd, Int.reduceSub, Int.reduceLT, Int.reduceLE, Int.reduceBEq, Int.reduceEq, Int.reduceToNat, k1])
end Go.Proofs.Ytehgjkopobkbmaa
