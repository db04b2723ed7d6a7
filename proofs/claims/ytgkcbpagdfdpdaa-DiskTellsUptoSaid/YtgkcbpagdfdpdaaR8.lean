/- The document's disk: Same. -/
import Derived.Test.YtgkcbpagdfdpdaaR7
set_option linter.unusedVariables false
set_option linter.unusedSimpArgs false
set_option linter.unusedSimpArgs false
set_option maxRecDepth 100000
set_option linter.unusedVariables false
set_option linter.unusedSimpArgs false
namespace Go.Proofs.Ytgkcbpagdfdpdaa
open Go Go.Vm
attribute [-go_sem] sz_67
def SameD (D1 D2 : DS) : Prop := (D1.n = D2.n ∧ ∀ s, s < D1.n → D1.fl s = D2.fl s) ∧ ∀ x, D1.pe x = D2.pe x
theorem sb_neqD (a b : ByteArray) : strBin .neq a b = some (.bool (decide (a ≠ b))) := by
  show some (V.bool (!eqB a.data.toList b.data.toList)) = _
  congr 2
  by_cases h : a = b
  · subst h; rw [eqB_eq]; simp
  · have : a.data ≠ b.data := fun e => h (ByteArray.ext e)
    rw [eqB_eq]; simp [h, this]
theorem byteOf_inj {x y : V} (hx : ∃ n : Int, x = .int .u8 n ∧ 0 ≤ n ∧ n ≤ 255) (hy : ∃ n : Int, y = .int .u8 n ∧ 0 ≤ n ∧ n ≤ 255) (h : byteOf x = byteOf y) : x = y := by
  obtain ⟨n, rfl, h1, h2⟩ := hx
  obtain ⟨m, rfl, h3, h4⟩ := hy
  have := congrArg UInt8.toNat h
  simp only [byteOf] at this
  have : n = m := by simp at this; omega
  rw [this]
theorem map_byte_inj : ∀ {l m : List V}, (∀ v ∈ l, ∃ n : Int, v = .int .u8 n ∧ 0 ≤ n ∧ n ≤ 255) → (∀ v ∈ m, ∃ n : Int, v = .int .u8 n ∧ 0 ≤ n ∧ n ≤ 255) → l.map byteOf = m.map byteOf → l = m
  | [], [], _, _, _ => rfl
  | [], _ :: _, _, _, h => by simp at h
  | _ :: _, [], _, _, h => by simp at h
  | x :: l, y :: m, hl, hm, h => by
    simp only [List.map_cons, List.cons.injEq] at h
    rw [byteOf_inj (hl x (by simp)) (hm y (by simp)) h.1, map_byte_inj (fun v hv => hl v (by simp [hv])) (fun v hv => hm v (by simp [hv])) h.2]
theorem strB_inj {l m : List V} (hl : ∀ v ∈ l, ∃ n : Int, v = .int .u8 n ∧ 0 ≤ n ∧ n ≤ 255) (hm : ∀ v ∈ m, ∃ n : Int, v = .int .u8 n ∧ 0 ≤ n ∧ n ≤ 255) : strB l = strB m ↔ l = m := by
  constructor
  · intro h
    have := congrArg (fun b => b.data.toList) h
    exact map_byte_inj hl hm this
  · rintro rfl; rfl
theorem flatF_inj {f g : Nat → List V} : ∀ {n : Nat}, (∀ s, s < n → IsSec (f s)) → (∀ s, s < n → IsSec (g s)) → (flatF f n = flatF g n ↔ ∀ s, s < n → f s = g s)
  | 0, _, _ => ⟨fun _ s hs => by omega, fun _ => rfl⟩
  | n + 1, hf, hg => by
    have ih := flatF_inj (f := f) (g := g) (n := n) (fun s hs => hf s (by omega)) (fun s hs => hg s (by omega))
    have l1 := flatF_len (f := f) (n := n) fun s hs => hf s (by omega)
    have l2 := flatF_len (f := g) (n := n) fun s hs => hg s (by omega)
    constructor
    · intro h s hs
      have := List.append_inj h (by rw [l1, l2])
      by_cases e : s = n
      · rw [e]; exact this.2
      · exact ih.1 this.1 s (by omega)
    · intro h
      show flatF f n ++ f n = flatF g n ++ g n
      rw [ih.2 fun s hs => h s (by omega), h n (by omega)]
set_option maxHeartbeats 1000000 in
theorem rsame_in {h : Heap} {R W S1 S2 : Set'} {Q' : Ex → Fr → Heap → Prop} {t : List It} {rd1 rd2 i : Nat} {D1 D2 : DS} (hr1 : RefAt h S1 rd1 D1) (hr2 : RefAt h S2 rd2 D2) (hR : ∀ b, R b) (hi : i < D1.n ∧ i < D2.n) (hlen : (D1.pe i).length = (D2.pe i).length)
    (hbad : ∀ tr : Tr V, tr.get 4 = some (.bool false) → D1.pe i ≠ D2.pe i → Q' .ret ⟨⟨100, tr⟩, []⟩ h)
    (hk : ∀ tr : Tr V, tr.get 0 = some (.ptr (some (rd1, 0))) → tr.get 1 = some (.ptr (some (rd2, 0))) → tr.get 5 = some (.int .i64 i) → D1.pe i = D2.pe i → resume (Try.prog : MP) R W none Q' t (.exit 2) ⟨⟨100, tr⟩, []⟩ h)
    {tr : Tr V} (t0 : tr.get 0 = some (.ptr (some (rd1, 0)))) (t1 : tr.get 1 = some (.ptr (some (rd2, 0)))) (t5 : tr.get 5 = some (.int .i64 i)) (t6 : tr.get 6 = some (.int .i64 0)) : GLoop (Try.prog : MP) R W none Q' ir26_l0 t ⟨⟨100, tr⟩, []⟩ h := by
  obtain ⟨c, fb, pb, xf, xp, d1, d2, d3, d4, d5, d6, _, _, _, ⟨cp, p1, p2, p3, p4⟩⟩ := hr1.d
  obtain ⟨c', fb', pb', xf', xp', d1', d2', d3', d4', d5', d6', _, _, _, ⟨cp', p1', p2', p3', p4'⟩⟩ := hr2.d
  obtain ⟨vs, v1, vl, v3⟩ := p4 i hi.1
  obtain ⟨vs', v1', vl', v3'⟩ := p4' i hi.2
  have hlp := v1.lenV Try.underlying75
  rw [vl] at hlp
  have q1 := hR rd1
  have q2 := hR pb
  have q3 := hR rd2
  have q4 := hR pb'
  have few := hr1.few i
  refine GLoop.inv hm (fun k f g' => f.mks = [] ∧ f.tm.n = 100 ∧ f.tm.get 0 = some (.ptr (some (rd1, 0))) ∧ f.tm.get 1 = some (.ptr (some (rd2, 0))) ∧ f.tm.get 5 = some (.int .i64 i) ∧ g' = h ∧ ∃ j : Nat, j + k = (D1.pe i).length ∧ f.tm.get 6 = some (.int .i64 j) ∧ ∀ x, x < j → (D1.pe i)[x]? = (D2.pe i)[x]?) (D1.pe i).length ?_ ?_
  · exact ⟨rfl, rfl, t0, t1, t5, rfl, 0, by omega, t6, fun x hx => by omega⟩
  clear t0 t1 t5 t6
  clear tr
  rintro k2 ⟨⟨n', tr⟩, mks⟩ g' ⟨hmk, hn', t0, t1, t5, rfl, j, hjk, t6, hall⟩
  simp only [Tm.get_mk] at hmk hn' t0 t1 t5 t6
  subst hmk hn'
  by_cases hj : j < (D1.pe i).length
  · have e1 : (D1.pe i)[j]? = some ((D1.pe i)[j]'hj) := List.getElem?_eq_getElem hj
    have e2 : (D2.pe i)[j]? = some ((D2.pe i)[j]'(by omega)) := List.getElem?_eq_getElem (by omega)
    obtain ⟨b, o, cap, ex, cc, ce, y1, y2, y3, y4, y5⟩ := v1.get (i := j) (by omega)
    obtain ⟨b', o', cap', ex', cc', ce', z1, z2, z3, z4, z5⟩ := v1'.get (i := j) (by omega)
    rw [vl] at y1 y4
    rw [vl', ← hlen] at z1 z4
    have s1 := hr1.pe i _ (List.mem_of_getElem? e1)
    have s2 := hr2.pe i _ (List.mem_of_getElem? e2)
    obtain ⟨rs1, hrs1, c1'⟩ := conv_lr (v3 _ _ e1) s1.2
    obtain ⟨rs2, hrs2, c2'⟩ := conv_lr (v3' _ _ e2) s2.2
    have c1 := c1' g' (fun _ _ _ => rfl)
    have c2 := c2' g' (fun _ _ _ => rfl)
    have a1 : allB R rs1 := allB_of fun b _ => hR b
    have a2 : allB R rs2 := allB_of fun b _ => hR b
    have q5 := hR b
    have q6 := hR b'
    rw [y1] at hlp
    by_cases he : (D1.pe i)[j]'hj = (D2.pe i)[j]'(by omega)
    · rw [← he] at c2
      simp -implicitDefEqProofs (disch := (first | omega | (simp -implicitDefEqProofs only [szs, ne_eq] <;> omega) | fail)) only [go_sem, Nat.reduceAdd, Nat.reduceSub, Nat.reduceMul, Nat.reduceLT, Nat.reduceMod, Nat.reduceDiv, Nat.reduceEqDiff, Nat.reduceBEq, Nat.reduceLeDiff, ↓reduceIte, reduceCtorEq, Int.reduceAdd, Int.reduceSub, Int.reduceLT, Int.reduceLE, Int.reduceBEq, Int.reduceEq, Int.reduceToNat, ir26_l0, t0, t1, t5, t6, d1, d2, d5, p1, p2, y1, y3, y4, y5, d1', d2', d5', p1', p2', z1, z3, z4, z5, ↓hlp, q1, q2, q3, q4, q5, q6, ↓cv_op, ↓cv_opD, c1, c2, a1, a2, sb_neq]
      refine ⟨⟨fun b _ _ => hR b, fun b _ _ => hR b⟩, k2 - 1, by omega, j + 1, by omega, rfl, fun x hx => ?_⟩
      by_cases e : x = j
      · subst e; rw [e1, e2, he]
      · exact hall x (by omega)
    · have hne : strB ((D1.pe i)[j]'hj) ≠ strB ((D2.pe i)[j]'(by omega)) := fun e => he ((strB_inj s1.2 s2.2).1 e)
      have hdn : decide (strB ((D1.pe i)[j]'hj) ≠ strB ((D2.pe i)[j]'(by omega))) = true := decide_eq_true hne
      simp -implicitDefEqProofs (disch := (first | omega | (simp -implicitDefEqProofs only [szs, ne_eq] <;> omega) | fail)) only [go_sem, Nat.reduceAdd, Nat.reduceSub, Nat.reduceMul, Nat.reduceLT, Nat.reduceMod, Nat.reduceDiv, Nat.reduceEqDiff, Nat.reduceBEq, Nat.reduceLeDiff, ↓reduceIte, reduceCtorEq, Int.reduceAdd, Int.reduceSub, Int.reduceLT, Int.reduceLE, Int.reduceBEq, Int.reduceEq, Int.reduceToNat, ir26_l0, t0, t1, t5, t6, d1, d2, d5, p1, p2, y1, y3, y4, y5, d1', d2', d5', p1', p2', z1, z3, z4, z5, ↓hlp, q1, q2, q3, q4, q5, q6, ↓cv_op, ↓cv_opD, c1, c2, a1, a2, sb_neqD, ↓hdn]
      refine ⟨⟨fun b _ _ => hR b, fun b _ _ => hR b⟩, hbad _ (by simp -implicitDefEqProofs (disch := (first | omega | (simp -implicitDefEqProofs only [szs, ne_eq] <;> omega) | fail)) only [go_sem, Nat.reduceAdd, Nat.reduceSub, Nat.reduceMul, Nat.reduceLT, Nat.reduceMod, Nat.reduceDiv, Nat.reduceEqDiff, Nat.reduceBEq, Nat.reduceLeDiff, ↓reduceIte, reduceCtorEq, Int.reduceAdd, Int.reduceSub, Int.reduceLT, Int.reduceLE, Int.reduceBEq, Int.reduceEq, Int.reduceToNat]) fun e => he ?_⟩
      have := e1.symm.trans ((congrArg (fun l : List (List V) => l[j]?) e).trans e2)
      exact Option.some.inj this
  · obtain rfl : j = (D1.pe i).length := by omega
    simp -implicitDefEqProofs (disch := (first | omega | (simp -implicitDefEqProofs only [szs, ne_eq] <;> omega) | fail)) only [go_sem, Nat.reduceAdd, Nat.reduceSub, Nat.reduceMul, Nat.reduceLT, Nat.reduceMod, Nat.reduceDiv, Nat.reduceEqDiff, Nat.reduceBEq, Nat.reduceLeDiff, ↓reduceIte, reduceCtorEq, Int.reduceAdd, Int.reduceSub, Int.reduceLT, Int.reduceLE, Int.reduceBEq, Int.reduceEq, Int.reduceToNat, ir26_l0, t0, t1, t5, t6, d1, d2, d5, p1, p2, ↓hlp, q1, q2]
    refine hk _ (by simp -implicitDefEqProofs (disch := (first | omega | (simp -implicitDefEqProofs only [szs, ne_eq] <;> omega) | fail)) only [go_sem, Nat.reduceAdd, Nat.reduceSub, Nat.reduceMul, Nat.reduceLT, Nat.reduceMod, Nat.reduceDiv, Nat.reduceEqDiff, Nat.reduceBEq, Nat.reduceLeDiff, ↓reduceIte, reduceCtorEq, Int.reduceAdd, Int.reduceSub, Int.reduceLT, Int.reduceLE, Int.reduceBEq, Int.reduceEq, Int.reduceToNat, t0]) (by simp -implicitDefEqProofs (disch := (first | omega | (simp -implicitDefEqProofs only [szs, ne_eq] <;> omega) | fail)) only [go_sem, Nat.reduceAdd, Nat.reduceSub, Nat.reduceMul, Nat.reduceLT, Nat.reduceMod, Nat.reduceDiv, Nat.reduceEqDiff, Nat.reduceBEq, Nat.reduceLeDiff, ↓reduceIte, reduceCtorEq, Int.reduceAdd, Int.reduceSub, Int.reduceLT, Int.reduceLE, Int.reduceBEq, Int.reduceEq, Int.reduceToNat, t1]) (by simp -implicitDefEqProofs (disch := (first | omega | (simp -implicitDefEqProofs only [szs, ne_eq] <;> omega) | fail)) only [go_sem, Nat.reduceAdd, Nat.reduceSub, Nat.reduceMul, Nat.reduceLT, Nat.reduceMod, Nat.reduceDiv, Nat.reduceEqDiff, Nat.reduceBEq, Nat.reduceLeDiff, ↓reduceIte, reduceCtorEq, Int.reduceAdd, Int.reduceSub, Int.reduceLT, Int.reduceLE, Int.reduceBEq, Int.reduceEq, Int.reduceToNat, t5]) (List.ext_getElem? fun x => ?_)
    by_cases hx : x < (D1.pe i).length
    · exact hall x hx
    · rw [List.getElem?_eq_none (by omega), List.getElem?_eq_none (by omega)]
set_option maxHeartbeats 1000000 in
theorem rsame_ok {h : Heap} {R W S1 S2 : Set'} {rd1 rd2 : Nat} {D1 D2 : DS} (hr1 : RefAt h S1 rd1 D1) (hr2 : RefAt h S2 rd2 D2) (hR : ∀ b, R b) {b : Bool} (hb : b = true ↔ SameD D1 D2) :
    SF Try.prog 26 [.ptr (some (rd1, 0)), .ptr (some (rd2, 0))] h R W fun v h' => v = .bool b ∧ ∀ x, x < h.n → h'.get x = h.get x := by
  have hp1 := hr1.pos
  have hp2 := hr2.pos
  have hRT : ∀ b, h.n ≤ b ∨ R b := fun b => .inr (hR b)
  refine SF.go hm Try.func26 ir26_eq ?_
  simp -implicitDefEqProofs (disch := (first | omega | (simp -implicitDefEqProofs only [szs, ne_eq] <;> omega) | fail)) only [go_sem, Nat.reduceAdd, Nat.reduceSub, Nat.reduceMul, Nat.reduceLT, Nat.reduceMod, Nat.reduceDiv, Nat.reduceEqDiff, Nat.reduceBEq, Nat.reduceLeDiff, ↓reduceIte, reduceCtorEq, Int.reduceAdd, Int.reduceSub, Int.reduceLT, Int.reduceLE, Int.reduceBEq, Int.reduceEq, Int.reduceToNat, ir26, Option.isNone_some, undefV]
  refine GCallD.of (R' := fun _ => True) (W' := fun _ => False) (((rbytes_ok (R := fun _ => True) (W := fun _ => False) hr1 (fun _ => trivial)).kept).foot (fun _ h => h) (fun _ h => h)) ?_
  rintro v g1 ⟨⟨o1, k1⟩, vf1⟩
  have n1 := vf1.n
  obtain ⟨rs1, hrs1, c1'⟩ := conv_lr o1.lr (flatF_int hr1.fl)
  have c1 := c1' g1 (fun _ _ _ => rfl)
  simp -implicitDefEqProofs (disch := (first | omega | (simp -implicitDefEqProofs only [szs, ne_eq] <;> omega) | fail)) only [go_sem, Nat.reduceAdd, Nat.reduceSub, Nat.reduceMul, Nat.reduceLT, Nat.reduceMod, Nat.reduceDiv, Nat.reduceEqDiff, Nat.reduceBEq, Nat.reduceLeDiff, ↓reduceIte, reduceCtorEq, Int.reduceAdd, Int.reduceSub, Int.reduceLT, Int.reduceLE, Int.reduceBEq, Int.reduceEq, Int.reduceToNat, ↓cv_opD, c1]
  refine GCallD.of (R' := fun _ => True) (W' := fun _ => False) (((rbytes_ok (R := fun _ => True) (W := fun _ => False) (hr2.old k1) (fun _ => trivial)).kept).foot (fun _ h => h) (fun _ h => h)) ?_
  rintro v2 g2 ⟨⟨o2, k2⟩, vf2⟩
  have n2 := vf2.n
  obtain ⟨rs2, hrs2, c2'⟩ := conv_lr o2.lr (flatF_int hr2.fl)
  have c2 := c2' g2 (fun _ _ _ => rfl)
  have k12 : ∀ x, x < h.n → g2.get x = h.get x := fun x hx => by rw [k2 x (by omega), k1 x hx]
  have hr1' := hr1.old k12
  have hr2' := hr2.old k12
  obtain ⟨c, fb, pb, xf, xp, d1, d2, d3, d4, d5, d6, _, _, _, ⟨cp, p1, p2, p3, p4⟩⟩ := hr1'.d
  obtain ⟨c', fb', pb', xf', xp', d1', d2', d3', d4', d5', d6', _, _, _, ⟨cp', p1', p2', p3', p4'⟩⟩ := hr2'.d
  by_cases hf : flatF D1.fl D1.n = flatF D2.fl D2.n
  · have hd0 : decide (strB (flatF D1.fl D1.n) ≠ strB (flatF D2.fl D2.n)) = false := decide_eq_false fun h => h (by rw [hf])
    have hn12 : D1.n = D2.n := by
      have := congrArg List.length hf
      rw [flatF_len hr1.fl, flatF_len hr2.fl] at this; omega
    have hfl : ∀ s, s < D1.n → D1.fl s = D2.fl s := (flatF_inj hr1.fl fun s hs => hr2.fl s (by omega)).1 (by rw [hf, hn12])
    rw [← hf] at c2
    rw [← hn12] at d4'
    simp -implicitDefEqProofs (disch := (first | omega | (simp -implicitDefEqProofs only [szs, ne_eq] <;> omega) | fail)) only [go_sem, Nat.reduceAdd, Nat.reduceSub, Nat.reduceMul, Nat.reduceLT, Nat.reduceMod, Nat.reduceDiv, Nat.reduceEqDiff, Nat.reduceBEq, Nat.reduceLeDiff, ↓reduceIte, reduceCtorEq, Int.reduceAdd, Int.reduceSub, Int.reduceLT, Int.reduceLE, Int.reduceBEq, Int.reduceEq, Int.reduceToNat, ↓cv_opD, c2, sb_neq, i64_neq, undefV, d1, d2, d4, d1', d2', d4']
    refine ⟨by (try simp only [List.not_mem_nil, or_false, false_or, and_false, false_and, false_implies, implies_true, not_false_eq_true, List.mem_singleton, List.mem_cons, and_true, true_and, forall_const]; try and_intros; all_goals (try trivial); all_goals (intro b hb; first | omega | (intro hc; first | omega | (rcases hb with hb | hb <;> first | omega)))), by (try and_intros; all_goals (intros; first | exact trivial | exact (by assumption : False).elim | exact .inr (hR _) | exact .inl (by omega))), ?_⟩
    have q1 := hR rd1
    have q2 := hR pb
    have q3 := hR rd2
    have q4 := hR pb'
    refine GLoop.inv hm (fun k f g' => f.mks = [] ∧ f.tm.n = 100 ∧ f.tm.get 0 = some (.ptr (some (rd1, 0))) ∧ f.tm.get 1 = some (.ptr (some (rd2, 0))) ∧ g' = g2 ∧ ∃ i : Nat, i + k = D1.n ∧ f.tm.get 5 = some (.int .i64 i) ∧ ∀ x, x < i → D1.pe x = D2.pe x) D1.n ?_ ?_
    · exact ⟨rfl, rfl, by simp -implicitDefEqProofs (disch := (first | omega | (simp -implicitDefEqProofs only [szs, ne_eq] <;> omega) | fail)) only [go_sem, Nat.reduceAdd, Nat.reduceSub, Nat.reduceMul, Nat.reduceLT, Nat.reduceMod, Nat.reduceDiv, Nat.reduceEqDiff, Nat.reduceBEq, Nat.reduceLeDiff, ↓reduceIte, reduceCtorEq, Int.reduceAdd, Int.reduceSub, Int.reduceLT, Int.reduceLE, Int.reduceBEq, Int.reduceEq, Int.reduceToNat], by simp -implicitDefEqProofs (disch := (first | omega | (simp -implicitDefEqProofs only [szs, ne_eq] <;> omega) | fail)) only [go_sem, Nat.reduceAdd, Nat.reduceSub, Nat.reduceMul, Nat.reduceLT, Nat.reduceMod, Nat.reduceDiv, Nat.reduceEqDiff, Nat.reduceBEq, Nat.reduceLeDiff, ↓reduceIte, reduceCtorEq, Int.reduceAdd, Int.reduceSub, Int.reduceLT, Int.reduceLE, Int.reduceBEq, Int.reduceEq, Int.reduceToNat], rfl, 0, by omega, by simp -implicitDefEqProofs (disch := (first | omega | (simp -implicitDefEqProofs only [szs, ne_eq] <;> omega) | fail)) only [go_sem, Nat.reduceAdd, Nat.reduceSub, Nat.reduceMul, Nat.reduceLT, Nat.reduceMod, Nat.reduceDiv, Nat.reduceEqDiff, Nat.reduceBEq, Nat.reduceLeDiff, ↓reduceIte, reduceCtorEq, Int.reduceAdd, Int.reduceSub, Int.reduceLT, Int.reduceLE, Int.reduceBEq, Int.reduceEq, Int.reduceToNat]; rfl, fun x hx => by omega⟩
    rintro k ⟨⟨n', tr⟩, mks⟩ g' ⟨hmk, hn', t0, t1, rfl, i, hik, t5, hall⟩
    simp only [Tm.get_mk] at hmk hn' t0 t1 t5
    subst hmk hn'
    by_cases hin : i < D1.n
    · obtain ⟨vs, v1, vl, v3⟩ := p4 i hin
      obtain ⟨vs', v1', vl', v3'⟩ := p4' i (by omega)
      have hlp := v1.lenV Try.underlying75
      have hlp' := v1'.lenV Try.underlying75
      rw [vl] at hlp
      rw [vl'] at hlp'
      by_cases hlen : (D1.pe i).length = (D2.pe i).length
      · rw [← hlen] at hlp'
        simp -implicitDefEqProofs (disch := (first | omega | (simp -implicitDefEqProofs only [szs, ne_eq] <;> omega) | fail)) only [go_sem, Nat.reduceAdd, Nat.reduceSub, Nat.reduceMul, Nat.reduceLT, Nat.reduceMod, Nat.reduceDiv, Nat.reduceEqDiff, Nat.reduceBEq, Nat.reduceLeDiff, ↓reduceIte, reduceCtorEq, Int.reduceAdd, Int.reduceSub, Int.reduceLT, Int.reduceLE, Int.reduceBEq, Int.reduceEq, Int.reduceToNat, ir26_l1, t0, t1, t5, d1, d2, d5, p1, p2, d1', d2', d5', p1', p2', ↓hlp, ↓hlp', i64_neq, q1, q2, q3, q4]
        refine rsame_in hr1' hr2' hRT ⟨hin, by omega⟩ hlen ?_ ?_ (by simp -implicitDefEqProofs (disch := (first | omega | (simp -implicitDefEqProofs only [szs, ne_eq] <;> omega) | fail)) only [go_sem, Nat.reduceAdd, Nat.reduceSub, Nat.reduceMul, Nat.reduceLT, Nat.reduceMod, Nat.reduceDiv, Nat.reduceEqDiff, Nat.reduceBEq, Nat.reduceLeDiff, ↓reduceIte, reduceCtorEq, Int.reduceAdd, Int.reduceSub, Int.reduceLT, Int.reduceLE, Int.reduceBEq, Int.reduceEq, Int.reduceToNat, t0]) (by simp -implicitDefEqProofs (disch := (first | omega | (simp -implicitDefEqProofs only [szs, ne_eq] <;> omega) | fail)) only [go_sem, Nat.reduceAdd, Nat.reduceSub, Nat.reduceMul, Nat.reduceLT, Nat.reduceMod, Nat.reduceDiv, Nat.reduceEqDiff, Nat.reduceBEq, Nat.reduceLeDiff, ↓reduceIte, reduceCtorEq, Int.reduceAdd, Int.reduceSub, Int.reduceLT, Int.reduceLE, Int.reduceBEq, Int.reduceEq, Int.reduceToNat, t1]) (by simp -implicitDefEqProofs (disch := (first | omega | (simp -implicitDefEqProofs only [szs, ne_eq] <;> omega) | fail)) only [go_sem, Nat.reduceAdd, Nat.reduceSub, Nat.reduceMul, Nat.reduceLT, Nat.reduceMod, Nat.reduceDiv, Nat.reduceEqDiff, Nat.reduceBEq, Nat.reduceLeDiff, ↓reduceIte, reduceCtorEq, Int.reduceAdd, Int.reduceSub, Int.reduceLT, Int.reduceLE, Int.reduceBEq, Int.reduceEq, Int.reduceToNat, t5]) (by simp -implicitDefEqProofs (disch := (first | omega | (simp -implicitDefEqProofs only [szs, ne_eq] <;> omega) | fail)) only [go_sem, Nat.reduceAdd, Nat.reduceSub, Nat.reduceMul, Nat.reduceLT, Nat.reduceMod, Nat.reduceDiv, Nat.reduceEqDiff, Nat.reduceBEq, Nat.reduceLeDiff, ↓reduceIte, reduceCtorEq, Int.reduceAdd, Int.reduceSub, Int.reduceLT, Int.reduceLE, Int.reduceBEq, Int.reduceEq, Int.reduceToNat])
        · intro tr u4 hne
          have hbf : b = false := by
            cases b
            · rfl
            · exact absurd ((hb.1 rfl).2 i) hne
          rw [hbf]
          simp -implicitDefEqProofs (disch := (first | omega | (simp -implicitDefEqProofs only [szs, ne_eq] <;> omega) | fail)) only [go_sem, Nat.reduceAdd, Nat.reduceSub, Nat.reduceMul, Nat.reduceLT, Nat.reduceMod, Nat.reduceDiv, Nat.reduceEqDiff, Nat.reduceBEq, Nat.reduceLeDiff, ↓reduceIte, reduceCtorEq, Int.reduceAdd, Int.reduceSub, Int.reduceLT, Int.reduceLE, Int.reduceBEq, Int.reduceEq, Int.reduceToNat, u4]
          exact k12
        · intro tr u0 u1 u5 he
          simp -implicitDefEqProofs (disch := (first | omega | (simp -implicitDefEqProofs only [szs, ne_eq] <;> omega) | fail)) only [go_sem, Nat.reduceAdd, Nat.reduceSub, Nat.reduceMul, Nat.reduceLT, Nat.reduceMod, Nat.reduceDiv, Nat.reduceEqDiff, Nat.reduceBEq, Nat.reduceLeDiff, ↓reduceIte, reduceCtorEq, Int.reduceAdd, Int.reduceSub, Int.reduceLT, Int.reduceLE, Int.reduceBEq, Int.reduceEq, Int.reduceToNat, u0, u1, u5]
          refine ⟨k - 1, by omega, i + 1, by omega, rfl, fun x hx => ?_⟩
          by_cases e : x = i
          · rw [e]; exact he
          · exact hall x (by omega)
      · have hlb : (((D1.pe i).length : Int) == ((D2.pe i).length : Int)) = false := by
          simp only [beq_eq_false_iff_ne, ne_eq]; omega
        simp -implicitDefEqProofs (disch := (first | omega | (simp -implicitDefEqProofs only [szs, ne_eq] <;> omega) | fail)) only [go_sem, Nat.reduceAdd, Nat.reduceSub, Nat.reduceMul, Nat.reduceLT, Nat.reduceMod, Nat.reduceDiv, Nat.reduceEqDiff, Nat.reduceBEq, Nat.reduceLeDiff, ↓reduceIte, reduceCtorEq, Int.reduceAdd, Int.reduceSub, Int.reduceLT, Int.reduceLE, Int.reduceBEq, Int.reduceEq, Int.reduceToNat, ir26_l1, t0, t1, t5, d1, d2, d5, p1, p2, d1', d2', d5', p1', p2', ↓hlp, ↓hlp', hlb, q1, q2, q3, q4]
        have hbf : b = false := by
          cases b
          · rfl
          · exact absurd (by rw [(hb.1 rfl).2 i]) hlen
        rw [hbf]
        exact ⟨rfl, k12⟩
    · obtain rfl : i = D1.n := by omega
      have hbt : b = true := hb.2 ⟨⟨hn12, hfl⟩, fun x => by
        by_cases hx : x < D1.n
        · exact hall x hx
        · rw [hr1.out x (by omega), hr2.out x (by omega)]⟩
      rw [hbt]
      simp -implicitDefEqProofs (disch := (first | omega | (simp -implicitDefEqProofs only [szs, ne_eq] <;> omega) | fail)) only [go_sem, Nat.reduceAdd, Nat.reduceSub, Nat.reduceMul, Nat.reduceLT, Nat.reduceMod, Nat.reduceDiv, Nat.reduceEqDiff, Nat.reduceBEq, Nat.reduceLeDiff, ↓reduceIte, reduceCtorEq, Int.reduceAdd, Int.reduceSub, Int.reduceLT, Int.reduceLE, Int.reduceBEq, Int.reduceEq, Int.reduceToNat, ir26_l1, t0, t1, t5, d1, d2, d5, q1]
      exact k12
  · have hd0 : decide (strB (flatF D1.fl D1.n) ≠ strB (flatF D2.fl D2.n)) = true := decide_eq_true fun h => hf ((strB_inj (flatF_int hr1.fl) (flatF_int hr2.fl)).1 h)
    simp -implicitDefEqProofs (disch := (first | omega | (simp -implicitDefEqProofs only [szs, ne_eq] <;> omega) | fail)) only [go_sem, Nat.reduceAdd, Nat.reduceSub, Nat.reduceMul, Nat.reduceLT, Nat.reduceMod, Nat.reduceDiv, Nat.reduceEqDiff, Nat.reduceBEq, Nat.reduceLeDiff, ↓reduceIte, reduceCtorEq, Int.reduceAdd, Int.reduceSub, Int.reduceLT, Int.reduceLE, Int.reduceBEq, Int.reduceEq, Int.reduceToNat, ↓cv_opD, c2, sb_neqD, ↓hd0, undefV]
    have hbf : b = false := by
      cases b
      · rfl
      · have := (hb.1 rfl).1
        exact absurd (by rw [← this.1]; exact (flatF_inj hr1.fl fun s hs => hr2.fl s (by omega)).2 this.2) hf
    rw [hbf]
    exact ⟨by (try simp only [List.not_mem_nil, or_false, false_or, and_false, false_and, false_implies, implies_true, not_false_eq_true, List.mem_singleton, List.mem_cons, and_true, true_and, forall_const]; try and_intros; all_goals (try trivial); all_goals (intro b hb; first | omega | (intro hc; first | omega | (rcases hb with hb | hb <;> first | omega)))), by (try and_intros; all_goals (intros; first | exact trivial | exact (by assumption : False).elim | exact .inr (hR _) | exact .inl (by omega))), rfl, k12⟩
end Go.Proofs.Ytgkcbpagdfdpdaa
