/- The document's disk: Crash. -/
import Derived.Test.YtgkcbpagdfdpdaaR6
set_option linter.unusedVariables false
set_option linter.unusedSimpArgs false
set_option linter.unusedSimpArgs false
set_option maxRecDepth 100000
set_option linter.unusedVariables false
set_option linter.unusedSimpArgs false
namespace Go.Proofs.Ytgkcbpagdfdpdaa
open Go Go.Vm
attribute [-go_sem] sz_67
def RCrashQ (h : Heap) (S : Set') (D : DS) (ks kw : Nat → Int) (m : Nat) (v : V) (h' : Heap) : Prop := (h.n ≤ h'.n ∧ ∀ b, b < h.n → h'.get b = h.get b) ∧ match crashF D ks kw m with
  | none => v = .tuple [.ptr none, .int .i64 2]
  | some f => ∃ rd' fb' pb', v = .tuple [.ptr (some (rd', 0)), .int .i64 0] ∧ h.n ≤ rd' ∧ h.n ≤ fb' ∧ h.n ≤ pb' ∧ RefX h' (Rn S h.n h'.n) rd' fb' pb' (D.crashed f)
theorem RCrashQ.bad {h h' : Heap} {S : Set'} {D : DS} {ks kw : Nat → Int} {i m : Nat} (hn : h.n ≤ h'.n) (hk : ∀ b, b < h.n → h'.get b = h.get b) (hc : crashF D ks kw i = none) (him : i ≤ m) : RCrashQ h S D ks kw m (.tuple [.ptr none, .int .i64 2]) h' := by
  refine ⟨⟨hn, hk⟩, ?_⟩
  rw [crashF_none hc him]
theorem RefX.freshP {h h' : Heap} {S : Set'} {rd fb pb : Nat} {D : DS} {x : Bool} (hr : RefX h S rd fb pb D) (hS : S h.n)
    (kd : ∃ c c', h.get rd = some (.cells c 78) ∧ h'.get rd = some (.cells c' 78) ∧ c'.size = c.size ∧ c'.ro = c.ro ∧ c'.get 0 = c.get 0 ∧ c'.get 1 = .slice (some (h.n, 0)) D.n D.n x ∧ c'.get 2 = c.get 2)
    (kp : h'.get h.n = some (.cells (Blk.rep D.n [.slice none 0 0 true]) 75)) (hk : ∀ b, b ≠ rd → b < h.n → h'.get b = h.get b) : RefX h' S rd fb h.n { D with pe := fun _ => [] } := by
  obtain ⟨e1, e2, e3⟩ := hr.ne
  obtain ⟨hp, r, ⟨c, xf, xp, d1, d2, d3, d4, d5, d6⟩, ⟨cf, f1, f2, f3, f4⟩, ⟨cp, p1, p2, p3, p4⟩, h1, h2, h3, h4⟩ := hr
  obtain ⟨c0, c', k0, k1, k2, k3, k4, k5, k6⟩ := kd
  rw [d1] at k0; cases k0
  refine ⟨hp, ⟨r.1, r.2.1, hS⟩, ⟨c', xf, x, k1, by rw [k2]; exact d2, by rw [k3]; exact d3, by rw [k4]; exact d4, k5, by rw [k6]; exact d6⟩, ⟨cf, by rw [hk _ (Ne.symm e1) (Heap.lt_of_get f1)]; exact f1, f2, f3, fun y hy => ?_⟩, ⟨_, kp, rfl, rfl, fun y hy => ?_⟩, h1, fun y l hl => by simp at hl, fun _ _ => rfl, fun _ => by simp⟩
  · exact ((f4 y hy).mono fun b hb h => ⟨h.1, h.2.1, h.2.2.1, by omega⟩).same fun b hb hlt => hk b hb.2.1 hlt
  · rw [rep_get, show y % [V.slice none 0 0 true].length = 0 from Nat.mod_one y]
    exact PLs.nil _ _
set_option maxHeartbeats 1000000 in
theorem rcrash_in {h : Heap} {R W : Set'} {Q' : Ex → Fr → Heap → Prop} {t : List It} {b off m cap i g8 : Nat} {ex : Bool} {cv s2 : Blk} {ce : TypeId} {ks : Nat → Int} {v0 v6 : V} (hb : h.get b = some (.cells cv ce)) (hm : i < m ∧ off + m * 2 ≤ cv.size ∧ m ≤ 9223372036854775807) (hv : ∀ j, j < i → cv.get (off + j * 2) = .int .i64 (ks j)) (q1 : h.get g8 = some (.cells s2 63)) (q2 : s2.size = 2) (q3 : s2.get 0 = .int .i64 (ks i)) (hRb : R b) (hR8 : R g8)
    (hbad : ∀ tr : Tr V, tr.get 4 = some (.ptr none) → tr.get 5 = some (.int .i64 2) → (∃ j, j < i ∧ ks j = ks i) → Q' .ret ⟨⟨94, tr⟩, []⟩ h)
    (hk : ∀ tr : Tr V, tr.get 0 = some v0 → tr.get 1 = some (.slice (some (b, off)) m cap ex) → tr.get 6 = some v6 → tr.get 7 = some (.int .i64 i) → tr.get 8 = some (.ptr (some (g8, 0))) → (∀ x, x < i → ks x ≠ ks i) → resume (Try.prog : MP) R W none Q' t (.exit 2) ⟨⟨94, tr⟩, []⟩ h)
    {tr : Tr V} (t0 : tr.get 0 = some v0) (t1 : tr.get 1 = some (.slice (some (b, off)) m cap ex)) (t6 : tr.get 6 = some v6) (t7 : tr.get 7 = some (.int .i64 i)) (t8 : tr.get 8 = some (.ptr (some (g8, 0)))) (t9 : tr.get 9 = some (.int .i64 0)) : GLoop (Try.prog : MP) R W none Q' ir44_l0 t ⟨⟨94, tr⟩, []⟩ h := by
  obtain ⟨him, hsz, hmm⟩ := hm
  refine GLoop.inv Go.Proofs.Ytgkcbpagdfdpdaa.hm (fun k f g' => f.mks = [] ∧ f.tm.n = 94 ∧ f.tm.get 0 = some v0 ∧ f.tm.get 1 = some (.slice (some (b, off)) m cap ex) ∧ f.tm.get 6 = some v6 ∧ f.tm.get 7 = some (.int .i64 i) ∧ f.tm.get 8 = some (.ptr (some (g8, 0))) ∧ g' = h ∧ ∃ j : Nat, j + k = i ∧ f.tm.get 9 = some (.int .i64 j) ∧ ∀ x, x < j → ks x ≠ ks i) i ?_ ?_
  · exact ⟨rfl, rfl, t0, t1, t6, t7, t8, rfl, 0, by omega, t9, fun x hx => by omega⟩
  clear t0 t1 t6 t7 t8 t9
  clear tr
  rintro k2 ⟨⟨n', tr⟩, mks⟩ g' ⟨hmk, hn', t0, t1, t6, t7, t8, rfl, j, hjk, t9, hne⟩
  simp only [Tm.get_mk] at hmk hn' t0 t1 t6 t7 t8 t9
  subst hmk hn'
  by_cases hji : j < i
  · have k0' := hv j hji
    by_cases hje : ks j = ks i
    · rw [hje] at k0'
      simp -implicitDefEqProofs (disch := (first | omega | (simp -implicitDefEqProofs only [szs, ne_eq] <;> omega) | fail)) only [go_sem, Nat.reduceAdd, Nat.reduceSub, Nat.reduceMul, Nat.reduceLT, Nat.reduceMod, Nat.reduceDiv, Nat.reduceEqDiff, Nat.reduceBEq, Nat.reduceLeDiff, ↓reduceIte, reduceCtorEq, Int.reduceAdd, Int.reduceSub, Int.reduceLT, Int.reduceLE, Int.reduceBEq, Int.reduceEq, Int.reduceToNat, ir44_l0, t0, t1, t6, t7, t8, t9, hb, k0', hRb, q1, q2, q3, hR8]
      exact hbad _ (by simp -implicitDefEqProofs (disch := (first | omega | (simp -implicitDefEqProofs only [szs, ne_eq] <;> omega) | fail)) only [go_sem, Nat.reduceAdd, Nat.reduceSub, Nat.reduceMul, Nat.reduceLT, Nat.reduceMod, Nat.reduceDiv, Nat.reduceEqDiff, Nat.reduceBEq, Nat.reduceLeDiff, ↓reduceIte, reduceCtorEq, Int.reduceAdd, Int.reduceSub, Int.reduceLT, Int.reduceLE, Int.reduceBEq, Int.reduceEq, Int.reduceToNat]) (by simp -implicitDefEqProofs (disch := (first | omega | (simp -implicitDefEqProofs only [szs, ne_eq] <;> omega) | fail)) only [go_sem, Nat.reduceAdd, Nat.reduceSub, Nat.reduceMul, Nat.reduceLT, Nat.reduceMod, Nat.reduceDiv, Nat.reduceEqDiff, Nat.reduceBEq, Nat.reduceLeDiff, ↓reduceIte, reduceCtorEq, Int.reduceAdd, Int.reduceSub, Int.reduceLT, Int.reduceLE, Int.reduceBEq, Int.reduceEq, Int.reduceToNat]) ⟨j, hji, hje⟩
    · have hbq : (ks j == ks i) = false := by simpa using hje
      simp -implicitDefEqProofs (disch := (first | omega | (simp -implicitDefEqProofs only [szs, ne_eq] <;> omega) | fail)) only [go_sem, Nat.reduceAdd, Nat.reduceSub, Nat.reduceMul, Nat.reduceLT, Nat.reduceMod, Nat.reduceDiv, Nat.reduceEqDiff, Nat.reduceBEq, Nat.reduceLeDiff, ↓reduceIte, reduceCtorEq, Int.reduceAdd, Int.reduceSub, Int.reduceLT, Int.reduceLE, Int.reduceBEq, Int.reduceEq, Int.reduceToNat, ir44_l0, t0, t1, t6, t7, t8, t9, hb, k0', hRb, q1, q2, q3, hbq, hR8]
      refine ⟨k2 - 1, by omega, j + 1, by omega, rfl, fun x hx => ?_⟩
      by_cases e : x = j
      · rw [e]; exact hje
      · exact hne x (by omega)
  · obtain rfl : j = i := by omega
    simp -implicitDefEqProofs (disch := (first | omega | (simp -implicitDefEqProofs only [szs, ne_eq] <;> omega) | fail)) only [go_sem, Nat.reduceAdd, Nat.reduceSub, Nat.reduceMul, Nat.reduceLT, Nat.reduceMod, Nat.reduceDiv, Nat.reduceEqDiff, Nat.reduceBEq, Nat.reduceLeDiff, ↓reduceIte, reduceCtorEq, Int.reduceAdd, Int.reduceSub, Int.reduceLT, Int.reduceLE, Int.reduceBEq, Int.reduceEq, Int.reduceToNat, ir44_l0, t0, t1, t6, t7, t8, t9, q1, q2, q3]
    exact hk _ (by simp -implicitDefEqProofs (disch := (first | omega | (simp -implicitDefEqProofs only [szs, ne_eq] <;> omega) | fail)) only [go_sem, Nat.reduceAdd, Nat.reduceSub, Nat.reduceMul, Nat.reduceLT, Nat.reduceMod, Nat.reduceDiv, Nat.reduceEqDiff, Nat.reduceBEq, Nat.reduceLeDiff, ↓reduceIte, reduceCtorEq, Int.reduceAdd, Int.reduceSub, Int.reduceLT, Int.reduceLE, Int.reduceBEq, Int.reduceEq, Int.reduceToNat, t0]) (by simp -implicitDefEqProofs (disch := (first | omega | (simp -implicitDefEqProofs only [szs, ne_eq] <;> omega) | fail)) only [go_sem, Nat.reduceAdd, Nat.reduceSub, Nat.reduceMul, Nat.reduceLT, Nat.reduceMod, Nat.reduceDiv, Nat.reduceEqDiff, Nat.reduceBEq, Nat.reduceLeDiff, ↓reduceIte, reduceCtorEq, Int.reduceAdd, Int.reduceSub, Int.reduceLT, Int.reduceLE, Int.reduceBEq, Int.reduceEq, Int.reduceToNat, t1]) (by simp -implicitDefEqProofs (disch := (first | omega | (simp -implicitDefEqProofs only [szs, ne_eq] <;> omega) | fail)) only [go_sem, Nat.reduceAdd, Nat.reduceSub, Nat.reduceMul, Nat.reduceLT, Nat.reduceMod, Nat.reduceDiv, Nat.reduceEqDiff, Nat.reduceBEq, Nat.reduceLeDiff, ↓reduceIte, reduceCtorEq, Int.reduceAdd, Int.reduceSub, Int.reduceLT, Int.reduceLE, Int.reduceBEq, Int.reduceEq, Int.reduceToNat, t6]) (by simp -implicitDefEqProofs (disch := (first | omega | (simp -implicitDefEqProofs only [szs, ne_eq] <;> omega) | fail)) only [go_sem, Nat.reduceAdd, Nat.reduceSub, Nat.reduceMul, Nat.reduceLT, Nat.reduceMod, Nat.reduceDiv, Nat.reduceEqDiff, Nat.reduceBEq, Nat.reduceLeDiff, ↓reduceIte, reduceCtorEq, Int.reduceAdd, Int.reduceSub, Int.reduceLT, Int.reduceLE, Int.reduceBEq, Int.reduceEq, Int.reduceToNat, t7]) (by simp -implicitDefEqProofs (disch := (first | omega | (simp -implicitDefEqProofs only [szs, ne_eq] <;> omega) | fail)) only [go_sem, Nat.reduceAdd, Nat.reduceSub, Nat.reduceMul, Nat.reduceLT, Nat.reduceMod, Nat.reduceDiv, Nat.reduceEqDiff, Nat.reduceBEq, Nat.reduceLeDiff, ↓reduceIte, reduceCtorEq, Int.reduceAdd, Int.reduceSub, Int.reduceLT, Int.reduceLE, Int.reduceBEq, Int.reduceEq, Int.reduceToNat, t8]) hne
set_option maxHeartbeats 2000000 in
theorem rcrash_ok {h : Heap} {R W S : Set'} {rd fb pb : Nat} {D : DS} (hr : RefX h S rd fb pb D) (hS : ∀ b, S b → b < h.n) (hR : ∀ b, R b) {v : V} {m : Nat} {ks kw : Nat → Int} (hv : KeepV h (fun _ => True) v m ks kw) :
    SF Try.prog 44 [.ptr (some (rd, 0)), v] h R W (RCrashQ h S D ks kw m) := by
  have hp := hr.pos
  have hlen := hv.len
  have hm1 := hv.1
  refine SF.go hm Try.func44 ir44_eq ?_
  simp -implicitDefEqProofs (disch := (first | omega | (simp -implicitDefEqProofs only [szs, ne_eq] <;> omega) | fail)) only [go_sem, Nat.reduceAdd, Nat.reduceSub, Nat.reduceMul, Nat.reduceLT, Nat.reduceMod, Nat.reduceDiv, Nat.reduceEqDiff, Nat.reduceBEq, Nat.reduceLeDiff, ↓reduceIte, reduceCtorEq, Int.reduceAdd, Int.reduceSub, Int.reduceLT, Int.reduceLE, Int.reduceBEq, Int.reduceEq, Int.reduceToNat, ir44, Option.isNone_some]
  refine GCall.of (rcopy_ok hr (fun b => .inr (hR b))) ?_
  rintro w g0 ⟨o, fo, po, rfl, ho, hfo, hpo, hx0, hn0, hold0⟩
  simp -implicitDefEqProofs (disch := (first | omega | (simp -implicitDefEqProofs only [szs, ne_eq] <;> omega) | fail)) only [go_sem, Nat.reduceAdd, Nat.reduceSub, Nat.reduceMul, Nat.reduceLT, Nat.reduceMod, Nat.reduceDiv, Nat.reduceEqDiff, Nat.reduceBEq, Nat.reduceLeDiff, ↓reduceIte, reduceCtorEq, Int.reduceAdd, Int.reduceSub, Int.reduceLT, Int.reduceLE, Int.reduceBEq, Int.reduceEq, Int.reduceToNat]
  refine GLoop.inv hm (fun k f g => f.mks = [] ∧ f.tm.n = 94 ∧ f.tm.get 0 = some (.ptr (some (rd, 0))) ∧ f.tm.get 1 = some v ∧ f.tm.get 6 = some (.ptr (some (o, 0))) ∧ ∃ i : Nat, i + k = m ∧ f.tm.get 7 = some (.int .i64 i) ∧ h.n ≤ g.n ∧ (∀ b, b < h.n → g.get b = h.get b) ∧ ∃ F, crashF D ks kw i = some F ∧ RefX g (Rn S h.n g.n) o fo po { D with fl := F }) m ?_ ?_
  · exact ⟨rfl, rfl, by simp -implicitDefEqProofs (disch := (first | omega | (simp -implicitDefEqProofs only [szs, ne_eq] <;> omega) | fail)) only [go_sem, Nat.reduceAdd, Nat.reduceSub, Nat.reduceMul, Nat.reduceLT, Nat.reduceMod, Nat.reduceDiv, Nat.reduceEqDiff, Nat.reduceBEq, Nat.reduceLeDiff, ↓reduceIte, reduceCtorEq, Int.reduceAdd, Int.reduceSub, Int.reduceLT, Int.reduceLE, Int.reduceBEq, Int.reduceEq, Int.reduceToNat], by simp -implicitDefEqProofs (disch := (first | omega | (simp -implicitDefEqProofs only [szs, ne_eq] <;> omega) | fail)) only [go_sem, Nat.reduceAdd, Nat.reduceSub, Nat.reduceMul, Nat.reduceLT, Nat.reduceMod, Nat.reduceDiv, Nat.reduceEqDiff, Nat.reduceBEq, Nat.reduceLeDiff, ↓reduceIte, reduceCtorEq, Int.reduceAdd, Int.reduceSub, Int.reduceLT, Int.reduceLE, Int.reduceBEq, Int.reduceEq, Int.reduceToNat], by simp -implicitDefEqProofs (disch := (first | omega | (simp -implicitDefEqProofs only [szs, ne_eq] <;> omega) | fail)) only [go_sem, Nat.reduceAdd, Nat.reduceSub, Nat.reduceMul, Nat.reduceLT, Nat.reduceMod, Nat.reduceDiv, Nat.reduceEqDiff, Nat.reduceBEq, Nat.reduceLeDiff, ↓reduceIte, reduceCtorEq, Int.reduceAdd, Int.reduceSub, Int.reduceLT, Int.reduceLE, Int.reduceBEq, Int.reduceEq, Int.reduceToNat], 0, by omega, by simp -implicitDefEqProofs (disch := (first | omega | (simp -implicitDefEqProofs only [szs, ne_eq] <;> omega) | fail)) only [go_sem, Nat.reduceAdd, Nat.reduceSub, Nat.reduceMul, Nat.reduceLT, Nat.reduceMod, Nat.reduceDiv, Nat.reduceEqDiff, Nat.reduceBEq, Nat.reduceLeDiff, ↓reduceIte, reduceCtorEq, Int.reduceAdd, Int.reduceSub, Int.reduceLT, Int.reduceLE, Int.reduceBEq, Int.reduceEq, Int.reduceToNat]; rfl, hn0, hold0, D.fl, rfl, hx0⟩
  clear hx0 hold0 hn0
  rintro k ⟨⟨n', tr⟩, mks⟩ g ⟨hmk, hn', t0, t1, t6, i, hik, t7, hgn, hgo, F, hF, hx⟩
  simp only [Tm.get_mk] at hmk hn' t0 t1 t6 t7
  subst hmk hn'
  by_cases him : i < m
  · rcases hv.2 with ⟨h0, _⟩ | ⟨b, off, cap, ex, cv, ce, rfl, hRb', hb, hsv, hcv⟩
    · omega
    obtain ⟨k0, k1⟩ := hcv i him
    have hRb := hR b
    have hltb := Heap.lt_of_get hb
    have hgb : g.get b = some (.cells cv ce) := by rw [hgo b hltb]; exact hb
    obtain ⟨h2, e2, hn2, ⟨s2, q1, q2, q3, q4⟩, hold⟩ := stK g (ks i) (kw i)
    have hold2 : ∀ b, b < h.n → h2.get b = h.get b := fun b hb => by rw [hold b (by omega)]; exact hgo b hb
    have hr2 : RefX h2 S rd fb pb D := hr.old hold2
    have hx2 := hx.old hold
    have hb2 := (hold2 b hltb).trans hb
    have hbad : ¬ keepOk D ks kw i → crashF D ks kw (i + 1) = none := fun hn => by simp only [crashF, hF, if_neg hn]
    obtain ⟨c, xf, xp, d1, d2, d3, d4, d5, d6⟩ := hr2.d
    obtain ⟨cp, p1, p2, p3, p4⟩ := hr2.p
    have hRr := hR rd
    have hRp := hR pb
    simp -implicitDefEqProofs (disch := (first | omega | (simp -implicitDefEqProofs only [szs, ne_eq] <;> omega) | fail)) only [go_sem, Nat.reduceAdd, Nat.reduceSub, Nat.reduceMul, Nat.reduceLT, Nat.reduceMod, Nat.reduceDiv, Nat.reduceEqDiff, Nat.reduceBEq, Nat.reduceLeDiff, ↓reduceIte, reduceCtorEq, Int.reduceAdd, Int.reduceSub, Int.reduceLT, Int.reduceLE, Int.reduceBEq, Int.reduceEq, Int.reduceToNat, ir44_l1, t0, t1, t6, t7, ↓hlen, hgb, k0, k1, hRb, e2, q1, q2, q3, q4]
    clear e2
    refine ⟨.inl (by omega), ?_⟩
    refine GCallD.of (R' := R) (W' := fun _ => False) (rin_ok hr2.at hR (ks i)) ?_
    rintro w h3 ⟨rfl, rfl⟩
    by_cases hks : 0 ≤ ks i ∧ ks i < D.n
    · rw [decide_eq_true hks]
      obtain ⟨s, hs⟩ := Int.eq_ofNat_of_zero_le hks.1
      rw [hs] at hks q3 k0 ⊢
      have hsn : s < D.n := by omega
      obtain ⟨vs, v1, vl, v3⟩ := p4 s hsn
      have hlp := v1.lenV Try.underlying75
      rw [vl] at hlp
      by_cases hw0 : kw i < 0
      · simp -implicitDefEqProofs (disch := (first | omega | (simp -implicitDefEqProofs only [szs, ne_eq] <;> omega) | fail)) only [go_sem, Nat.reduceAdd, Nat.reduceSub, Nat.reduceMul, Nat.reduceLT, Nat.reduceMod, Nat.reduceDiv, Nat.reduceEqDiff, Nat.reduceBEq, Nat.reduceLeDiff, ↓reduceIte, reduceCtorEq, Int.reduceAdd, Int.reduceSub, Int.reduceLT, Int.reduceLE, Int.reduceBEq, Int.reduceEq, Int.reduceToNat, t0, t1, t6, t7, q1, q2, q3, q4, undefV]
        refine ⟨?_, RCrashQ.bad (by omega) hold2 (hbad fun h => by have := h.2.1; omega) (by omega)⟩
        and_intros
        all_goals (intros; first | exact .inr (hR _) | exact .inl (by omega) | exact (by assumption : False).elim)
      · by_cases hw1 : kw i > (D.pe s).length
        · simp -implicitDefEqProofs (disch := (first | omega | (simp -implicitDefEqProofs only [szs, ne_eq] <;> omega) | fail)) only [go_sem, Nat.reduceAdd, Nat.reduceSub, Nat.reduceMul, Nat.reduceLT, Nat.reduceMod, Nat.reduceDiv, Nat.reduceEqDiff, Nat.reduceBEq, Nat.reduceLeDiff, ↓reduceIte, reduceCtorEq, Int.reduceAdd, Int.reduceSub, Int.reduceLT, Int.reduceLE, Int.reduceBEq, Int.reduceEq, Int.reduceToNat, t0, t1, t6, t7, q1, q2, q3, q4, undefV, d1, d2, d5, p1, p2, ↓hlp, hRr, hRp]
          refine ⟨?_, RCrashQ.bad (by omega) hold2 (hbad fun h => by have := h.2.2.1; rw [hs, Int.toNat_natCast] at this; omega) (by omega)⟩
          and_intros
          all_goals (intros; first | exact .inr (hR _) | exact .inl (by omega) | exact (by assumption : False).elim)
        · simp -implicitDefEqProofs (disch := (first | omega | (simp -implicitDefEqProofs only [szs, ne_eq] <;> omega) | fail)) only [go_sem, Nat.reduceAdd, Nat.reduceSub, Nat.reduceMul, Nat.reduceLT, Nat.reduceMod, Nat.reduceDiv, Nat.reduceEqDiff, Nat.reduceBEq, Nat.reduceLeDiff, ↓reduceIte, reduceCtorEq, Int.reduceAdd, Int.reduceSub, Int.reduceLT, Int.reduceLE, Int.reduceBEq, Int.reduceEq, Int.reduceToNat, t0, t1, t6, t7, q1, q2, q3, q4, undefV, d1, d2, d5, p1, p2, ↓hlp, hRr, hRp]
          refine ⟨?_, ?_⟩
          · and_intros
            all_goals (intros; first | exact .inr (hR _) | exact .inl (by omega) | exact (by assumption : False).elim)
          have hv2 : ∀ j, j < i → cv.get (off + j * 2) = .int .i64 (ks j) := fun j hj => (hcv j (by omega)).1
          have q3' : s2.get 0 = .int .i64 (ks i) := by rw [hs]; exact q3
          refine rcrash_in (m := m) (cap := cap) (ex := ex) (v0 := .ptr (some (rd, 0))) (v6 := .ptr (some (o, 0))) (ks := ks) (i := i) (g8 := g.n) hb2 (by omega) hv2 q1 q2 q3' (.inr hRb) (.inr (hR _)) ?_ ?_ (by simp -implicitDefEqProofs (disch := (first | omega | (simp -implicitDefEqProofs only [szs, ne_eq] <;> omega) | fail)) only [go_sem, Nat.reduceAdd, Nat.reduceSub, Nat.reduceMul, Nat.reduceLT, Nat.reduceMod, Nat.reduceDiv, Nat.reduceEqDiff, Nat.reduceBEq, Nat.reduceLeDiff, ↓reduceIte, reduceCtorEq, Int.reduceAdd, Int.reduceSub, Int.reduceLT, Int.reduceLE, Int.reduceBEq, Int.reduceEq, Int.reduceToNat, t0]) (by simp -implicitDefEqProofs (disch := (first | omega | (simp -implicitDefEqProofs only [szs, ne_eq] <;> omega) | fail)) only [go_sem, Nat.reduceAdd, Nat.reduceSub, Nat.reduceMul, Nat.reduceLT, Nat.reduceMod, Nat.reduceDiv, Nat.reduceEqDiff, Nat.reduceBEq, Nat.reduceLeDiff, ↓reduceIte, reduceCtorEq, Int.reduceAdd, Int.reduceSub, Int.reduceLT, Int.reduceLE, Int.reduceBEq, Int.reduceEq, Int.reduceToNat, t1]) (by simp -implicitDefEqProofs (disch := (first | omega | (simp -implicitDefEqProofs only [szs, ne_eq] <;> omega) | fail)) only [go_sem, Nat.reduceAdd, Nat.reduceSub, Nat.reduceMul, Nat.reduceLT, Nat.reduceMod, Nat.reduceDiv, Nat.reduceEqDiff, Nat.reduceBEq, Nat.reduceLeDiff, ↓reduceIte, reduceCtorEq, Int.reduceAdd, Int.reduceSub, Int.reduceLT, Int.reduceLE, Int.reduceBEq, Int.reduceEq, Int.reduceToNat, t6]) (by simp -implicitDefEqProofs (disch := (first | omega | (simp -implicitDefEqProofs only [szs, ne_eq] <;> omega) | fail)) only [go_sem, Nat.reduceAdd, Nat.reduceSub, Nat.reduceMul, Nat.reduceLT, Nat.reduceMod, Nat.reduceDiv, Nat.reduceEqDiff, Nat.reduceBEq, Nat.reduceLeDiff, ↓reduceIte, reduceCtorEq, Int.reduceAdd, Int.reduceSub, Int.reduceLT, Int.reduceLE, Int.reduceBEq, Int.reduceEq, Int.reduceToNat, t7]) (by simp -implicitDefEqProofs (disch := (first | omega | (simp -implicitDefEqProofs only [szs, ne_eq] <;> omega) | fail)) only [go_sem, Nat.reduceAdd, Nat.reduceSub, Nat.reduceMul, Nat.reduceLT, Nat.reduceMod, Nat.reduceDiv, Nat.reduceEqDiff, Nat.reduceBEq, Nat.reduceLeDiff, ↓reduceIte, reduceCtorEq, Int.reduceAdd, Int.reduceSub, Int.reduceLT, Int.reduceLE, Int.reduceBEq, Int.reduceEq, Int.reduceToNat]) (by simp -implicitDefEqProofs (disch := (first | omega | (simp -implicitDefEqProofs only [szs, ne_eq] <;> omega) | fail)) only [go_sem, Nat.reduceAdd, Nat.reduceSub, Nat.reduceMul, Nat.reduceLT, Nat.reduceMod, Nat.reduceDiv, Nat.reduceEqDiff, Nat.reduceBEq, Nat.reduceLeDiff, ↓reduceIte, reduceCtorEq, Int.reduceAdd, Int.reduceSub, Int.reduceLT, Int.reduceLE, Int.reduceBEq, Int.reduceEq, Int.reduceToNat])
          · intro tr' u4 u5 hx'
            simp -implicitDefEqProofs (disch := (first | omega | (simp -implicitDefEqProofs only [szs, ne_eq] <;> omega) | fail)) only [go_sem, Nat.reduceAdd, Nat.reduceSub, Nat.reduceMul, Nat.reduceLT, Nat.reduceMod, Nat.reduceDiv, Nat.reduceEqDiff, Nat.reduceBEq, Nat.reduceLeDiff, ↓reduceIte, reduceCtorEq, Int.reduceAdd, Int.reduceSub, Int.reduceLT, Int.reduceLE, Int.reduceBEq, Int.reduceEq, Int.reduceToNat, u4, u5]
            exact RCrashQ.bad (by omega) hold2 (hbad fun h => by obtain ⟨j, hj, e⟩ := hx'; exact h.2.2.2 j hj e) (by omega)
          intro tr' u0 u1 u6 u7 u8 hne
          have hok : keepOk D ks kw i := ⟨by rw [hs]; exact hks, by omega, by rw [hs, Int.toNat_natCast]; omega, hne⟩
          have hF' : crashF D ks kw (i + 1) = some (fun x : Nat => if (x : Int) = ks i ∧ 0 < kw i then (D.pe x).getD (kw i - 1).toNat [] else F x) := by simp only [crashF, hF, if_pos hok]
          have hgx : RefX h3 (Rn S h.n h3.n) o fo po { D with fl := F } := hx2.mono fun b _ h => Rn_mono h (by omega)
          by_cases hz : kw i = 0
          · rw [hz] at q4
            simp -implicitDefEqProofs (disch := (first | omega | (simp -implicitDefEqProofs only [szs, ne_eq] <;> omega) | fail)) only [go_sem, Nat.reduceAdd, Nat.reduceSub, Nat.reduceMul, Nat.reduceLT, Nat.reduceMod, Nat.reduceDiv, Nat.reduceEqDiff, Nat.reduceBEq, Nat.reduceLeDiff, ↓reduceIte, reduceCtorEq, Int.reduceAdd, Int.reduceSub, Int.reduceLT, Int.reduceLE, Int.reduceBEq, Int.reduceEq, Int.reduceToNat, u0, u1, u6, u7, u8, q1, q2, q3, q4]
            refine ⟨.inl (by omega), k - 1, by omega, i + 1, by omega, rfl, by omega, hold2, _, hF', ?_⟩
            rw [show (fun x : Nat => if (x : Int) = ks i ∧ 0 < kw i then (D.pe x).getD (kw i - 1).toNat [] else F x) = F from funext fun x => if_neg (by omega)]
            exact hgx
          · obtain ⟨w, hw⟩ : ∃ w : Nat, kw i = (w : Int) + 1 := ⟨(kw i - 1).toNat, by omega⟩
            rw [hw] at q4
            have hwl : w < (D.pe s).length := by omega
            have few := hr.few s
            have hwi : (w : Int) + 1 - 1 = w := by omega
            have hln4 : (D.pe s)[w]? = some ((D.pe s).getD w []) := by rw [List.getD_eq_getElem?_getD, List.getElem?_eq_getElem hwl]; rfl
            have hsec4 := hr.pe s _ (List.mem_of_getElem? hln4)
            obtain ⟨b', o', cap', ex', cc, ce', y1, y2, y3, y4, y5⟩ := v1.get (i := w) (by omega)
            rw [vl] at y1 y4
            have v3w := v3 w _ hln4
            have hcv' := v3w.cells
            have hon' := v3w.one
            obtain ⟨co, xf2, xp2, r1, r2, r3, r4, r5, r6⟩ := hgx.d
            obtain ⟨cf2, a1, a2, a3, a4⟩ := hgx.f
            have r4 : co.get 0 = V.slice (some (fo, 0)) D.n D.n xf2 := r4
            have a2 : cf2.size = D.n := a2
            have hRo := hR o
            have hRf := hR fo
            have hRb2 := hR b'
            have ltf := Heap.lt_of_get a1
            simp -implicitDefEqProofs (disch := (first | omega | (simp -implicitDefEqProofs only [szs, ne_eq] <;> omega) | fail)) only [go_sem, Nat.reduceAdd, Nat.reduceSub, Nat.reduceMul, Nat.reduceLT, Nat.reduceMod, Nat.reduceDiv, Nat.reduceEqDiff, Nat.reduceBEq, Nat.reduceLeDiff, ↓reduceIte, reduceCtorEq, Int.reduceAdd, Int.reduceSub, Int.reduceLT, Int.reduceLE, Int.reduceBEq, Int.reduceEq, Int.reduceToNat, u0, u1, u6, u7, u8, q1, q2, q3, q4, r1, r2, r4, d1, d2, d5, p1, p2, y1, y3, y4, y5, hwi, hRr, hRp, hRo, hRf, hRb2, a1, a2, a3, ↓hcv', ↓hon']
            refine ⟨.inl (by omega), ⟨fun _ => .inl (by omega), fun _ => .inl (by omega), fun _ => .inl (by omega), fun _ => .inl hfo⟩, k - 1, by omega, i + 1, by omega, congrArg _ (by omega), by omega, fun b hb => by rw [w_set_ne ltf (by omega)]; exact hold2 b hb, _, hF', ?_⟩
            have hEq : (fun x : Nat => if (x : Int) = ks i ∧ 0 < kw i then (D.pe x).getD (kw i - 1).toNat [] else F x) = (fun x : Nat => if x = s then (D.pe s).getD w [] else F x) := funext fun x => by
              by_cases hx : x = s
              · subst hx
                rw [if_pos ⟨hs.symm, by omega⟩, if_pos rfl, show (kw i - 1).toNat = w by omega]
              · rw [if_neg (by omega), if_neg hx]
            rw [hEq]
            exact hgx.setF hsn (v3w.mono fun b h1 h2 => ⟨.inl h2.1, by have := hS b h2.1; omega, by have := hS b h2.1; omega, by have := hS b h2.1; omega⟩) hsec4 ⟨cf2, a1, w_set_eq ltf rfl _⟩ (fun b h1 _ => w_set_ne ltf h1 _)
    · rw [decide_eq_false hks]
      simp -implicitDefEqProofs (disch := (first | omega | (simp -implicitDefEqProofs only [szs, ne_eq] <;> omega) | fail)) only [go_sem, Nat.reduceAdd, Nat.reduceSub, Nat.reduceMul, Nat.reduceLT, Nat.reduceMod, Nat.reduceDiv, Nat.reduceEqDiff, Nat.reduceBEq, Nat.reduceLeDiff, ↓reduceIte, reduceCtorEq, Int.reduceAdd, Int.reduceSub, Int.reduceLT, Int.reduceLE, Int.reduceBEq, Int.reduceEq, Int.reduceToNat, t0, t1, t6, t7, q1, q2, q3, q4, undefV]
      refine ⟨?_, RCrashQ.bad (by omega) hold2 (hbad fun h => hks h.1) (by omega)⟩
      and_intros
      all_goals (intros; first | exact .inr (hR _) | exact .inl (by omega) | exact (by assumption : False).elim)
  · obtain rfl : i = m := by omega
    obtain ⟨c, xf, xp, d1, d2, d3, d4, d5, d6⟩ := hx.d
    have d4 : c.get 0 = V.slice (some (fo, 0)) D.n D.n xf := d4
    have hc : 0 ≤ (D.n : Int) ∧ (D.n : Int) ≤ (D.n : Int) ∧ 24 * (D.n : Int).toNat ≤ 281474976710656 ∧ (D.n : Int) ≤ 9223372036854775807 := by omega
    have htn : (D.n : Int).toNat = D.n := by omega
    have hRo := hR o
    have hc2 : 24 * D.n ≤ 281474976710656 := by omega
    have hlt := Heap.lt_of_get d1
    simp -implicitDefEqProofs (disch := (first | omega | (simp -implicitDefEqProofs only [szs, ne_eq] <;> omega) | fail)) only [go_sem, Nat.reduceAdd, Nat.reduceSub, Nat.reduceMul, Nat.reduceLT, Nat.reduceMod, Nat.reduceDiv, Nat.reduceEqDiff, Nat.reduceBEq, Nat.reduceLeDiff, ↓reduceIte, reduceCtorEq, Int.reduceAdd, Int.reduceSub, Int.reduceLT, Int.reduceLE, Int.reduceBEq, Int.reduceEq, Int.reduceToNat, ir44_l1, t0, t1, t6, t7, ↓hlen, d1, d2, d3, d4, hRo, hc, hc2, htn]
    have hfin := (hx.old (h' := g.push (.cells (Blk.rep D.n [V.slice none 0 0 true]) 75)) fun b hb => w_push_ne (by omega) _)
    refine ⟨.inl (by omega), ⟨by rw [Heap.n_set, Heap.n_push]; omega, fun b hb => by rw [w_set_ne (by simp; omega) (by omega), w_push_ne (by omega), hgo b hb]⟩, ?_⟩
    rw [hF]
    refine ⟨o, fo, g.n, rfl, ho, hfo, hgn, RefX.freshP (x := true) ((hx.mono (R' := Rn S h.n (g.n + 1)) fun b _ h => Rn_mono h (by omega))) (.inr ⟨hgn, by omega⟩) ⟨c, _, d1, w_set_eq (by simp; omega) rfl _, by rw [Blk.size_set], by rw [Blk.ro_set], by simp -implicitDefEqProofs (disch := (first | omega | (simp -implicitDefEqProofs only [szs, ne_eq] <;> omega) | fail)) only [go_sem, Nat.reduceAdd, Nat.reduceSub, Nat.reduceMul, Nat.reduceLT, Nat.reduceMod, Nat.reduceDiv, Nat.reduceEqDiff, Nat.reduceBEq, Nat.reduceLeDiff, ↓reduceIte, reduceCtorEq, Int.reduceAdd, Int.reduceSub, Int.reduceLT, Int.reduceLE, Int.reduceBEq, Int.reduceEq, Int.reduceToNat], w_bset_eq rfl _, by simp -implicitDefEqProofs (disch := (first | omega | (simp -implicitDefEqProofs only [szs, ne_eq] <;> omega) | fail)) only [go_sem, Nat.reduceAdd, Nat.reduceSub, Nat.reduceMul, Nat.reduceLT, Nat.reduceMod, Nat.reduceDiv, Nat.reduceEqDiff, Nat.reduceBEq, Nat.reduceLeDiff, ↓reduceIte, reduceCtorEq, Int.reduceAdd, Int.reduceSub, Int.reduceLT, Int.reduceLE, Int.reduceBEq, Int.reduceEq, Int.reduceToNat]⟩ (by rw [w_set_ne (by simp; omega) (by omega)]; exact w_push_eq rfl _) (fun b h1 h2 => by rw [w_set_ne (by simp; omega) h1, w_push_ne (by omega)])⟩
end Go.Proofs.Ytgkcbpagdfdpdaa
