/- Over, a step, May. -/
import Derived.Test.YtehgjkopobkbmaaC5
set_option linter.unusedVariables false
set_option linter.unusedSimpArgs false
set_option linter.unusedSimpArgs false
set_option maxRecDepth 100000
set_option linter.unusedVariables false
set_option linter.unusedSimpArgs false
namespace Go.Proofs.Ytehgjkopobkbmaa
open Go Go.Vm
open Classical
theorem un_iff {L : List Cp} (ha : L.Pairwise fun a b => a.id < b.id) {a : Int} {c : Cp} (hc : c ∈ L) : Un L a c.id ↔ c.par = a ∨ Un L a c.par := by
  constructor
  · intro h
    generalize hx : c.id = x at h
    cases h with
    | kid hd e =>
      have := asc_inj ha hd hc hx.symm
      subst this; exact .inl e
    | step hu hd e =>
      have := asc_inj ha hd hc hx.symm
      subst this e; exact .inr hu
  · rintro (h | h)
    · exact .kid hc h
    · exact .step h hc rfl
def CpAt (h : Heap) (x : Nat) (c : Cp) : Prop := ∃ s, h.get x = some (.cells s 40) ∧ s.size = 7 ∧ s.ro = false ∧ s.get 0 = .int .i64 c.id ∧ s.get 1 = .int .i64 c.par ∧ s.get 2 = .int .i64 c.ac ∧ s.get 3 = .int .i64 c.mr ∧ s.get 4 = .int .i64 c.kd ∧ s.get 5 = .int .i64 c.ob ∧ s.get 6 = .int .i64 c.rt
theorem CpAt.put {h : Heap} {x : Nat} {c d : Cp} {s : Blk} (h1 : h.get x = some (.cells s 40)) (h2 : s.size = 7) (h3 : s.ro = false) : CpAt (h.set x (.cells (((((((s.set 0 (.int .i64 d.id)).set 1 (.int .i64 d.par)).set 2 (.int .i64 d.ac)).set 3 (.int .i64 d.mr)).set 4 (.int .i64 d.kd)).set 5 (.int .i64 d.ob)).set 6 (.int .i64 d.rt)) 40)) x d := by
  refine ⟨_, w_set_eq (Heap.lt_of_get h1) rfl _, ?_, ?_, ?_, ?_, ?_, ?_, ?_, ?_, ?_⟩
  all_goals simp -implicitDefEqProofs (disch := (first | omega | (simp -implicitDefEqProofs only [szs, ne_eq] <;> omega) | fail)) only [go_sem, Nat.reduceAdd, Nat.reduceSub, Nat.reduceMul, Nat.reduceLT, Nat.reduceMod, Nat.reduceDiv, Nat.reduceEqDiff, Nat.reduceBEq, Nat.reduceLeDiff, ↓reduceIte, reduceCtorEq, Int.reduceAdd, Int.reduceSub, Int.reduceLT, Int.reduceLE, Int.reduceBEq, Int.reduceEq, Int.reduceToNat, h2, h3, Blk.ro_set]
noncomputable def overV (T : CS) (a b : Int) : Bool := (findC T.L a).isSome && (findC T.L b).isSome && decide (b = a ∨ Un T.L a b)
def overE (T : CS) (a b : Int) : Int := if (findC T.L a).isSome ∧ (findC T.L b).isSome then 0 else 6
set_option maxHeartbeats 1000000 in
theorem over_ok {h : Heap} {R W : Set'} {tb r : Nat} {T : CS} (ht : CapAt h tb r T) (w : WF T) (hR : ∀ b, R b) (a b : Int) :
    SF Try.prog 17 [.ptr (some (tb, 0)), .int .i64 a, .int .i64 b] h R W fun v h' => v = .tuple [.bool (overV T a b), .int .i64 (overE T a b)] ∧ h.n ≤ h'.n ∧ ∀ b, b < h.n → h'.get b = h.get b := by
  have r1 := hR tb
  have r2 := hR r
  refine SF.go hm Try.func17 ir17_eq ?_
  simp -implicitDefEqProofs (disch := (first | omega | (simp -implicitDefEqProofs only [szs, ne_eq] <;> omega) | fail)) only [go_sem, Nat.reduceAdd, Nat.reduceSub, Nat.reduceMul, Nat.reduceLT, Nat.reduceMod, Nat.reduceDiv, Nat.reduceEqDiff, Nat.reduceBEq, Nat.reduceLeDiff, ↓reduceIte, reduceCtorEq, Int.reduceAdd, Int.reduceSub, Int.reduceLT, Int.reduceLE, Int.reduceBEq, Int.reduceEq, Int.reduceToNat, ir17]
  refine GCall.of (of_ok ht (fun b hb => .inr (hR b)) a) ?_
  rintro v h1 ⟨rfl, n1, k1⟩
  obtain ⟨h2, e2, n2, _, k2⟩ := stC h1 (ofC T a)
  cases hfa : findC T.L a with
  | none =>
    rw [overV, overE, hfa]
    have he : ofE T a = 6 := by rw [ofE, hfa]; rfl
    simp -implicitDefEqProofs (disch := (first | omega | (simp -implicitDefEqProofs only [szs, ne_eq] <;> omega) | fail)) only [go_sem, Nat.reduceAdd, Nat.reduceSub, Nat.reduceMul, Nat.reduceLT, Nat.reduceMod, Nat.reduceDiv, Nat.reduceEqDiff, Nat.reduceBEq, Nat.reduceLeDiff, ↓reduceIte, reduceCtorEq, Int.reduceAdd, Int.reduceSub, Int.reduceLT, Int.reduceLE, Int.reduceBEq, Int.reduceEq, Int.reduceToNat, Cp.v, Cp.l, e2, he]
    simp only [Option.isSome_none, Bool.false_and, Bool.false_eq_true, false_and, if_false]
    and_intros
    all_goals first | trivial | exact .inl (by omega) | rfl | omega | (intro b hb; rw [k2 b (by omega), k1 b hb])
  | some ca =>
    have he : ofE T a = 0 := by rw [ofE, hfa]; rfl
    simp -implicitDefEqProofs (disch := (first | omega | (simp -implicitDefEqProofs only [szs, ne_eq] <;> omega) | fail)) only [go_sem, Nat.reduceAdd, Nat.reduceSub, Nat.reduceMul, Nat.reduceLT, Nat.reduceMod, Nat.reduceDiv, Nat.reduceEqDiff, Nat.reduceBEq, Nat.reduceLeDiff, ↓reduceIte, reduceCtorEq, Int.reduceAdd, Int.reduceSub, Int.reduceLT, Int.reduceLE, Int.reduceBEq, Int.reduceEq, Int.reduceToNat, Cp.v, Cp.l, e2, he]
    have ht2 := ht.old (h' := h2) (fun b hb => by rw [k2 b (by omega), k1 b hb])
    refine ⟨.inl (by omega), GCall.of (of_ok ht2 (fun b hb => .inr (hR b)) b) ?_⟩
    rintro v h3 ⟨rfl, n3, k3⟩
    obtain ⟨h4, e4, n4, hc4, k4⟩ := stC h3 (ofC T b)
    cases hfb : findC T.L b with
    | none =>
      rw [overV, overE, hfa, hfb]
      have he : ofE T b = 6 := by rw [ofE, hfb]; rfl
      simp -implicitDefEqProofs (disch := (first | omega | (simp -implicitDefEqProofs only [szs, ne_eq] <;> omega) | fail)) only [go_sem, Nat.reduceAdd, Nat.reduceSub, Nat.reduceMul, Nat.reduceLT, Nat.reduceMod, Nat.reduceDiv, Nat.reduceEqDiff, Nat.reduceBEq, Nat.reduceLeDiff, ↓reduceIte, reduceCtorEq, Int.reduceAdd, Int.reduceSub, Int.reduceLT, Int.reduceLE, Int.reduceBEq, Int.reduceEq, Int.reduceToNat, Cp.v, Cp.l, e4, he]
      simp only [Option.isSome_none, Bool.and_false, Bool.false_and, Bool.false_eq_true, and_false, false_and, if_false]
      and_intros
      all_goals first | trivial | exact .inl (by omega) | rfl | omega | (intro b hb; rw [k4 b (by omega), k3 b (by omega), k2 b (by omega), k1 b hb])
    | some cb =>
      have he : ofE T b = 0 := by rw [ofE, hfb]; rfl
      have hcb : ofC T b = cb := by rw [ofC, hfb]; rfl
      rw [hcb] at hc4 e4
      obtain ⟨hbm, hbi⟩ := findC_some hfb
      obtain ⟨ham, hai⟩ := findC_some hfa
      have ha1 := (w.ids ca ham).1
      have hov : overV T a b = decide (b = a ∨ Un T.L a b) := by rw [overV, hfa, hfb]; rfl
      have hoe : overE T a b = 0 := by rw [overE, hfa, hfb]; rfl
      rw [hov, hoe]
      simp -implicitDefEqProofs (disch := (first | omega | (simp -implicitDefEqProofs only [szs, ne_eq] <;> omega) | fail)) only [go_sem, Nat.reduceAdd, Nat.reduceSub, Nat.reduceMul, Nat.reduceLT, Nat.reduceMod, Nat.reduceDiv, Nat.reduceEqDiff, Nat.reduceBEq, Nat.reduceLeDiff, ↓reduceIte, reduceCtorEq, Int.reduceAdd, Int.reduceSub, Int.reduceLT, Int.reduceLE, Int.reduceBEq, Int.reduceEq, Int.reduceToNat, Cp.v, Cp.l, e4, he, hcb]
      refine ⟨.inl (by omega), ?_⟩
      refine GLoop.inv hm (fun k f g => f.mks = [] ∧ f.tm.n = 50 ∧ f.tm.get 0 = some (.ptr (some (tb, 0))) ∧ f.tm.get 1 = some (.int .i64 a) ∧ f.tm.get 10 = some (.ptr (some (h3.n, 0))) ∧ g.n = h4.n ∧ (∀ b, b < h3.n → g.get b = h4.get b) ∧ ∃ c, CpAt g h3.n c ∧ (c ∈ T.L ∨ c = cp0) ∧ c.id.toNat ≤ k ∧ ((c.id = a ∨ Un T.L a c.id) ↔ (b = a ∨ Un T.L a b))) cb.id.toNat ?_ ?_
      · exact ⟨rfl, rfl, by simp -implicitDefEqProofs (disch := (first | omega | (simp -implicitDefEqProofs only [szs, ne_eq] <;> omega) | fail)) only [go_sem, Nat.reduceAdd, Nat.reduceSub, Nat.reduceMul, Nat.reduceLT, Nat.reduceMod, Nat.reduceDiv, Nat.reduceEqDiff, Nat.reduceBEq, Nat.reduceLeDiff, ↓reduceIte, reduceCtorEq, Int.reduceAdd, Int.reduceSub, Int.reduceLT, Int.reduceLE, Int.reduceBEq, Int.reduceEq, Int.reduceToNat], by simp -implicitDefEqProofs (disch := (first | omega | (simp -implicitDefEqProofs only [szs, ne_eq] <;> omega) | fail)) only [go_sem, Nat.reduceAdd, Nat.reduceSub, Nat.reduceMul, Nat.reduceLT, Nat.reduceMod, Nat.reduceDiv, Nat.reduceEqDiff, Nat.reduceBEq, Nat.reduceLeDiff, ↓reduceIte, reduceCtorEq, Int.reduceAdd, Int.reduceSub, Int.reduceLT, Int.reduceLE, Int.reduceBEq, Int.reduceEq, Int.reduceToNat], by simp -implicitDefEqProofs (disch := (first | omega | (simp -implicitDefEqProofs only [szs, ne_eq] <;> omega) | fail)) only [go_sem, Nat.reduceAdd, Nat.reduceSub, Nat.reduceMul, Nat.reduceLT, Nat.reduceMod, Nat.reduceDiv, Nat.reduceEqDiff, Nat.reduceBEq, Nat.reduceLeDiff, ↓reduceIte, reduceCtorEq, Int.reduceAdd, Int.reduceSub, Int.reduceLT, Int.reduceLE, Int.reduceBEq, Int.reduceEq, Int.reduceToNat], rfl, fun _ _ => rfl, cb, hc4, .inl hbm, Nat.le_refl _, by rw [hbi]⟩
      rintro k ⟨⟨n', tr⟩, mks⟩ g ⟨hmk, hn', t0, u1, t10, gn, hgo, c, ⟨s, s0, s1, s2, y0, y1, y2, y3, y4, y5, y6⟩, hmem, hk, hiff⟩
      simp only [Tm.get_mk] at hmk hn' t0 u1 t10
      subst hmk hn'
      have hRx := hR h3.n
      have fin : ∀ b', b' < h.n → g.get b' = h.get b' := fun b' hb' => by rw [hgo b' (by omega), k4 b' (by omega), k3 b' (by omega), k2 b' (by omega), k1 b' hb']
      by_cases hca : c.id = a
      · simp -implicitDefEqProofs (disch := (first | omega | (simp -implicitDefEqProofs only [szs, ne_eq] <;> omega) | fail)) only [go_sem, Nat.reduceAdd, Nat.reduceSub, Nat.reduceMul, Nat.reduceLT, Nat.reduceMod, Nat.reduceDiv, Nat.reduceEqDiff, Nat.reduceBEq, Nat.reduceLeDiff, ↓reduceIte, reduceCtorEq, Int.reduceAdd, Int.reduceSub, Int.reduceLT, Int.reduceLE, Int.reduceBEq, Int.reduceEq, Int.reduceToNat, ir17_l0, t0, u1, t10, s0, s1, y0, y1, hca, undefV]
        rw [decide_eq_true (hiff.1 (.inl hca))]
        and_intros
        all_goals first | exact .inl (by omega) | rfl | omega | exact fin
      · have hne : (c.id != a) = true := by simpa using hca
        have hne2 : (c.id == a) = false := by simpa using hca
        by_cases hp0 : c.par = 0
        · have hno : ¬ (b = a ∨ Un T.L a b) := fun hx => by
            rcases hiff.2 hx with hx | hx
            · exact hca hx
            · rcases hmem with hmem | rfl
              · rcases (un_iff w.asc hmem).1 hx with hx | hx
                · omega
                · obtain ⟨d, hd, hdi⟩ := hx.mem
                  have := (w.ids d hd).1
                  omega
              · obtain ⟨d, hd, hdi⟩ := hx.mem
                have := (w.ids d hd).1
                have e : cp0.id = 0 := rfl
                omega
          rw [decide_eq_false hno]
          simp -implicitDefEqProofs (disch := (first | omega | (simp -implicitDefEqProofs only [szs, ne_eq] <;> omega) | fail)) only [go_sem, Nat.reduceAdd, Nat.reduceSub, Nat.reduceMul, Nat.reduceLT, Nat.reduceMod, Nat.reduceDiv, Nat.reduceEqDiff, Nat.reduceBEq, Nat.reduceLeDiff, ↓reduceIte, reduceCtorEq, Int.reduceAdd, Int.reduceSub, Int.reduceLT, Int.reduceLE, Int.reduceBEq, Int.reduceEq, Int.reduceToNat, ir17_l0, t0, u1, t10, s0, s1, y0, y1, hne, hne2, hp0, undefV]
          and_intros
          all_goals first | exact .inl (by omega) | rfl | omega | exact fin
        · have hcL : c ∈ T.L := by
            rcases hmem with hmem | rfl
            · exact hmem
            · exact absurd rfl hp0
          have hpn : (c.par != 0) = true := by simpa using hp0
          have htg : CapAt g tb r T := ht.old fin
          have htl := htg.look1 c.par
          obtain ⟨ct, t1, t2, t3, t4, t5⟩ := htg.t
          obtain ⟨d, hd, hdL, hdk, hdi⟩ : ∃ d, ((findC T.L c.par).map Cp.v).getD cp0.v = d.v ∧ (d ∈ T.L ∨ d = cp0) ∧ d.id < c.id ∧ ((d.id = a ∨ Un T.L a d.id) ↔ (c.par = a ∨ Un T.L a c.par)) := by
            have hpl := w.par c hcL
            have hid := w.ids c hcL
            cases hf : findC T.L c.par with
            | some d =>
              obtain ⟨h1, h2⟩ := findC_some hf
              exact ⟨d, rfl, .inl h1, by omega, by rw [h2]⟩
            | none =>
              have hnm : ∀ e ∈ T.L, e.id ≠ c.par := findC_none hf
              refine ⟨cp0, rfl, .inr rfl, by show (0 : Int) < _; omega, ⟨fun hx => ?_, fun hx => ?_⟩⟩
              · rcases hx with hx | hx
                · have e : cp0.id = 0 := rfl
                  omega
                · obtain ⟨d, hd, hdi⟩ := hx.mem
                  have := (w.ids d hd).1
                  have e : cp0.id = 0 := rfl
                  omega
              · rcases hx with hx | hx
                · exact absurd hai (by rw [← hx]; exact hnm ca ham)
                · obtain ⟨d, hd, hdi⟩ := hx.mem
                  exact absurd hdi (hnm d hd)
          rw [hd] at htl
          simp only [Cp.v, Cp.l] at htl
          simp -implicitDefEqProofs (disch := (first | omega | (simp -implicitDefEqProofs only [szs, ne_eq] <;> omega) | fail)) only [go_sem, Nat.reduceAdd, Nat.reduceSub, Nat.reduceMul, Nat.reduceLT, Nat.reduceMod, Nat.reduceDiv, Nat.reduceEqDiff, Nat.reduceBEq, Nat.reduceLeDiff, ↓reduceIte, reduceCtorEq, Int.reduceAdd, Int.reduceSub, Int.reduceLT, Int.reduceLE, Int.reduceBEq, Int.reduceEq, Int.reduceToNat, ir17_l0, t0, u1, t10, s0, s1, s2, y0, y1, hne, hpn, undefV, t1, t2, t4, r1, r2, htl, hRx]
          have hid := (w.ids c hcL).1
          refine ⟨fun _ => .inl (by omega), k - 1, by omega, gn, fun b' hb' => by rw [w_set_ne (by omega) (by omega)]; exact hgo b' hb', d, CpAt.put (c := c) s0 s1 s2, hdL, by omega, ?_⟩
          rw [hdi, ← hiff, un_iff w.asc hcL]
          exact ⟨.inr, fun h => h.resolve_left hca⟩
end Go.Proofs.Ytehgjkopobkbmaa
