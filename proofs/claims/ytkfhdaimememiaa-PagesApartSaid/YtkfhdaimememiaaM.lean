/- Tables of pages: Spaces. -/
import Derived.Test.YtkfhdaimememiaaL
set_option linter.unusedVariables false
set_option linter.unusedSimpArgs false
set_option linter.unusedSimpArgs false
set_option maxRecDepth 100000
set_option linter.unusedVariables false
set_option linter.unusedSimpArgs false
namespace Go.Proofs.Ytkfhdaimememiaa
open Go Go.Vm
theorem takeH_all {W : Set'} {K : Heap → Prop} : ∀ (mks : List Nat) (h : Heap), mks.Nodup → (∀ m ∈ mks, h.get m = some (.deferred true) ∧ W m) → (∀ h' : Heap, h'.n = h.n → (∀ b, b ∉ mks → h'.get b = h.get b) → K h') → takeH W mks h K
  | [], h, _, _, hk => hk h rfl fun _ _ => rfl
  | b :: r, h, hn, hm, hk => by
    obtain ⟨h1, h2⟩ := hm b (by simp)
    rw [List.nodup_cons] at hn
    unfold takeH
    rw [h1]
    refine ⟨h2, takeH_all r _ hn.2 (fun m hmr => ?_) fun h' e1 e2 => ?_⟩
    · have hne : m ≠ b := fun e => hn.1 (by rw [← e]; exact hmr)
      rw [w_set_ne (Heap.lt_of_get h1) hne]
      exact hm m (by simp [hmr])
    · refine hk h' (by rw [e1, Heap.n_set]) fun x hx => ?_
      simp only [List.mem_cons, not_or] at hx
      rw [e2 x hx.2, w_set_ne (Heap.lt_of_get h1) hx.1]
theorem fin_all {M : MP} {R W : Set'} {rs : List ResultVar} {Q : V → Heap → Prop} {tm : Tm} {mks : List Nat} {h : Heap} (hn : mks.Nodup) (hm : ∀ m ∈ mks, h.get m = some (.deferred true) ∧ W m) (hk : ∀ h' : Heap, h'.n = h.n → (∀ b, b ∉ mks → h'.get b = h.get b) → Vm.Fin M R W rs Q .ret ⟨tm, []⟩ h') : Vm.Fin M R W rs Q .ret ⟨tm, mks⟩ h := by
  unfold Vm.Fin
  refine takeH_all mks h hn hm fun h' e1 e2 => ?_
  have := hk h' e1 e2
  unfold Vm.Fin takeH at this
  exact this
theorem own_at {n0 : Nat} {h : Heap} {v : V} {l : List V} {e : TypeId} (ho : Own n0 h v l e) (hl : l ≠ []) : n0 ≤ sblk v ∧ ∃ c, h.get (sblk v) = some (.cells c e) := by
  rcases ho with ⟨h0, _⟩ | ⟨b, x, c, h0, rfl, h1, hb, hs⟩
  · exact absurd h0 hl
  · exact ⟨h1, c, hb⟩
theorem own_keepS {n0 : Nat} {h h' : Heap} {v : V} {l : List V} {e : TypeId} (ho : Own n0 h v l e) (hk : h'.get (sblk v) = h.get (sblk v)) (hl : l ≠ []) : Own n0 h' v l e := by
  rcases ho with ⟨h0, _⟩ | ⟨b, x, c, h0, rfl, h1, hb, hs⟩
  · exact absurd h0 hl
  · exact .inr ⟨b, x, c, h0, rfl, h1, hk.trans hb, hs⟩
theorem natV_ne (l : List Nat) (s : Nat) : natV (l ++ [s]) ≠ [] := by rw [natV_snoc]; simp
set_option maxHeartbeats 4000000 in
theorem spaces_dem {h : Heap} {R W : Set'} {tb r : Nat} {T : Tb} (ht : TabAt h tb r T) (hR : ∀ b, R b) :
    SF ⟨Try.prog, true⟩ 46 [.ptr (some (tb, 0))] h R W fun v h' => Own (h.n + 1) h' v (natV (spcs T 16)) 3 ∧ h.n ≤ h'.n ∧ ∀ b, b < h.n → h'.get b = h.get b := by
  have hlt := ht.lt
  refine SF.go hm Try.func46 ir46_eq ?_
  obtain ⟨h0, e0, n0, b0, k0⟩ : ∃ h0, h.push (.cells (Blk.of [V.slice none 0 0 true]) 76) = h0 ∧ h0.n = h.n + 1 ∧ h0.get h.n = some (.cells (Blk.of [V.slice none 0 0 true]) 76) ∧ ∀ b, b < h.n → h0.get b = h.get b := ⟨_, rfl, by simp, w_push_eq rfl _, fun b hb => w_push_ne (by omega) _⟩
  simp -implicitDefEqProofs (disch := (first | omega | (simp -implicitDefEqProofs only [szs, ne_eq] <;> omega) | fail)) only [go_sem, Nat.reduceAdd, Nat.reduceSub, Nat.reduceMul, Nat.reduceLT, Nat.reduceMod, Nat.reduceDiv, Nat.reduceEqDiff, Nat.reduceBEq, Nat.reduceLeDiff, ↓reduceIte, reduceCtorEq, Int.reduceAdd, Int.reduceSub, Int.reduceLT, Int.reduceLE, Int.reduceBEq, Int.reduceEq, Int.reduceToNat, ir46, e0]
  refine GLoop.inv hm (fun k f g => (f.mks.Nodup ∧ ∀ m ∈ f.mks, h.n + 1 ≤ m ∧ g.get m = some (.deferred true)) ∧ f.tm.n = 19 ∧ f.tm.get 0 = some (.ptr (some (tb, 0))) ∧ f.tm.get 3 = some (.ptr (some (h.n, 0))) ∧ h.n + 1 ≤ g.n ∧ (∀ b, b < h.n → g.get b = h.get b) ∧ ∃ (s : Nat) (lv : V) (c : Blk), s + k = 16 ∧ f.tm.get 5 = some (.int .i64 s) ∧ g.get h.n = some (.cells c 76) ∧ c.size = 1 ∧ c.ro = false ∧ c.get 0 = lv ∧ Own (h.n + 1) g lv (natV (spcs T s)) 3) 16 ?_ ?_
  · exact ⟨⟨List.nodup_nil, fun m hm => by cases hm⟩, rfl, by simp -implicitDefEqProofs (disch := (first | omega | (simp -implicitDefEqProofs only [szs, ne_eq] <;> omega) | fail)) only [go_sem, Nat.reduceAdd, Nat.reduceSub, Nat.reduceMul, Nat.reduceLT, Nat.reduceMod, Nat.reduceDiv, Nat.reduceEqDiff, Nat.reduceBEq, Nat.reduceLeDiff, ↓reduceIte, reduceCtorEq, Int.reduceAdd, Int.reduceSub, Int.reduceLT, Int.reduceLE, Int.reduceBEq, Int.reduceEq, Int.reduceToNat], by simp -implicitDefEqProofs (disch := (first | omega | (simp -implicitDefEqProofs only [szs, ne_eq] <;> omega) | fail)) only [go_sem, Nat.reduceAdd, Nat.reduceSub, Nat.reduceMul, Nat.reduceLT, Nat.reduceMod, Nat.reduceDiv, Nat.reduceEqDiff, Nat.reduceBEq, Nat.reduceLeDiff, ↓reduceIte, reduceCtorEq, Int.reduceAdd, Int.reduceSub, Int.reduceLT, Int.reduceLE, Int.reduceBEq, Int.reduceEq, Int.reduceToNat], by omega, k0, 0, _, _, by omega, by simp -implicitDefEqProofs (disch := (first | omega | (simp -implicitDefEqProofs only [szs, ne_eq] <;> omega) | fail)) only [go_sem, Nat.reduceAdd, Nat.reduceSub, Nat.reduceMul, Nat.reduceLT, Nat.reduceMod, Nat.reduceDiv, Nat.reduceEqDiff, Nat.reduceBEq, Nat.reduceLeDiff, ↓reduceIte, reduceCtorEq, Int.reduceAdd, Int.reduceSub, Int.reduceLT, Int.reduceLE, Int.reduceBEq, Int.reduceEq, Int.reduceToNat]; rfl, b0, rfl, rfl, rfl, Own.nil _ _ _⟩
  rintro k ⟨⟨n', tr⟩, mks⟩ g ⟨⟨hmn, hmm⟩, hn', t0, t3, hgn, hgo, s, lv, c, hsk, t5, hc, hc1, hc2, hc3, ho⟩
  simp only [Tm.get_mk] at hmn hmm hn' t0 t3 t5
  subst hn'
  by_cases hs : s < 16
  · obtain ⟨g1, e1, n1, b1, k1⟩ : ∃ g1, (g.push (O.cells (Blk.of [V.int IntKind.i64 0]) 3)).set g.n (O.cells ((Blk.of [V.int IntKind.i64 0]).set 0 (V.int IntKind.i64 (s : Int))) 3) = g1 ∧ g1.n = g.n + 1 ∧ g1.get g.n = some (O.cells ((Blk.of [V.int IntKind.i64 0]).set 0 (V.int IntKind.i64 (s : Int))) 3) ∧ ∀ b, b < g.n → g1.get b = g.get b := ⟨_, rfl, by simp, w_set_eq (by simp) rfl _, fun b hb => by rw [w_set_ne (by simp) (by omega), w_push_ne (by omega)]⟩
    simp -implicitDefEqProofs (disch := (first | omega | (simp -implicitDefEqProofs only [szs, ne_eq] <;> omega) | fail)) only [go_sem, Nat.reduceAdd, Nat.reduceSub, Nat.reduceMul, Nat.reduceLT, Nat.reduceMod, Nat.reduceDiv, Nat.reduceEqDiff, Nat.reduceBEq, Nat.reduceLeDiff, ↓reduceIte, reduceCtorEq, Int.reduceAdd, Int.reduceSub, Int.reduceLT, Int.reduceLE, Int.reduceBEq, Int.reduceEq, Int.reduceToNat, ir46_l0, t0, t3, t5, e1, b1]
    refine ⟨.inl (by omega), .inl (by omega), GCall.of space_ok.any ?_⟩
    rintro v g3 ⟨rfl, n3, s1, s2, k3⟩
    simp -implicitDefEqProofs (disch := (first | omega | (simp -implicitDefEqProofs only [szs, ne_eq] <;> omega) | fail)) only [go_sem, Nat.reduceAdd, Nat.reduceSub, Nat.reduceMul, Nat.reduceLT, Nat.reduceMod, Nat.reduceDiv, Nat.reduceEqDiff, Nat.reduceBEq, Nat.reduceLeDiff, ↓reduceIte, reduceCtorEq, Int.reduceAdd, Int.reduceSub, Int.reduceLT, Int.reduceLE, Int.reduceBEq, Int.reduceEq, Int.reduceToNat, t0, t3, t5]
    have ht3 : TabAt g3 tb r T := ht.old fun b hb => by rw [k3 b (by omega), k1 b (by omega), hgo b hb]
    have hk3 : ∀ b, b < g.n → g3.get b = g.get b := fun b hb => by rw [k3 b (by omega), k1 b hb]
    have hc3' := (hk3 h.n (by omega)).trans hc
    have hml : ∀ m ∈ mks, m < g.n := fun m hm => Heap.lt_of_get (hmm m hm).2
    have ho3 : Own (h.n + 1) g3 lv (natV (spcs T s)) 3 := ho.old hk3
    have hok : okS (s : Int) := ⟨by omega, by omega⟩
    have hss := spcs_succ T s
    have hsl := spcs_len T s
    have b1' := (k3 g.n (by omega)).trans b1
    refine range57 (tb := tb) (r := r) (bt := g1.n) (bs := g1.n + 1) (T := T) (s := (s : Int)) (fun b => h.n ≤ b)
      (fun p g' => g3.n ≤ g'.n ∧ (∀ b, b < g3.n → g'.get b = g3.get b) ∧ ∀ q, q < p → T s q = none)
      (fun e g' => e = .exit 2 ∧ g3.n ≤ g'.n ∧ (∀ b, b < h.n → g'.get b = h.get b) ∧ (∃ c v2, g'.get h.n = some (.cells c 76) ∧ c.size = 1 ∧ c.ro = false ∧ c.get 0 = v2 ∧ sblk v2 ≠ g3.n ∧ sblk v2 ≠ g3.n + 1 ∧ sblk v2 < g'.n ∧ Own (h.n + 1) g' v2 (natV (spcs T s ++ [s])) 3) ∧ cntU T s 32 ≠ 0 ∧ ∀ m ∈ mks, g'.get m = some (.deferred true))
      (by simp -implicitDefEqProofs (disch := (first | omega | (simp -implicitDefEqProofs only [szs, ne_eq] <;> omega) | fail)) only [go_sem, Nat.reduceAdd, Nat.reduceSub, Nat.reduceMul, Nat.reduceLT, Nat.reduceMod, Nat.reduceDiv, Nat.reduceEqDiff, Nat.reduceBEq, Nat.reduceLeDiff, ↓reduceIte, reduceCtorEq, Int.reduceAdd, Int.reduceSub, Int.reduceLT, Int.reduceLE, Int.reduceBEq, Int.reduceEq, Int.reduceToNat]) ht3 s1 s2 (fun b hb => .inr (hR b)) (fun b hb => by rcases hb with hb | hb <;> exact .inl (by omega)) ⟨Nat.le_refl _, fun _ _ => rfl, fun q hq => by omega⟩
      (fun p g hp hn ⟨i1, i2, i3⟩ => ⟨i1, i2, fun q hq => ?_⟩) (fun p g g' ⟨i1, i2, i3⟩ j1 j2 => ⟨by omega, fun b hb => by rw [j2 b (by omega) (by omega) (by omega)]; exact i2 b hb, i3⟩)
      (fun e g g' ⟨i1, i2, i3, ⟨c, v2, q1, q2, q3, q4, q5, q6, q7, q8⟩, i6, i7⟩ j1 j2 => ⟨i1, by omega, fun b hb => by rw [j2 b (by omega) (by omega) (by omega)]; exact i3 b hb, ⟨c, v2, by rw [j2 _ (by omega) (by omega) (by omega)]; exact q1, q2, q3, q4, q5, q6, by omega, own_keepS q8 (j2 _ q7 q5 q6) (natV_ne _ _)⟩, i6, fun m hm => by have := hml m hm; rw [j2 _ (by omega) (by omega) (by omega)]; exact i7 m hm⟩)
      ir46_a0_eq ir46_b0_eq ?_ ?_ ?_
    · by_cases e : q = p
      · subst e
        rw [getC, if_pos ⟨hok, by omega, by omega⟩, Int.toNat_natCast, Int.toNat_natCast] at hn
        exact hn
      · exact i3 q (by omega)
    · intro R' W' Q1 p e g4 tm htm r1 r2 w1 w2 hp hcc hK hn hd hlo hmid
      simp only [setPs, Option.some.injEq] at htm
      subst htm
      simp -implicitDefEqProofs (disch := (first | omega | (simp -implicitDefEqProofs only [szs, ne_eq] <;> omega) | fail)) only [go_sem, Nat.reduceAdd, Nat.reduceSub, Nat.reduceMul, Nat.reduceLT, Nat.reduceMod, Nat.reduceDiv, Nat.reduceEqDiff, Nat.reduceBEq, Nat.reduceLeDiff, ↓reduceIte, reduceCtorEq, Int.reduceAdd, Int.reduceSub, Int.reduceLT, Int.reduceLE, Int.reduceBEq, Int.reduceEq, Int.reduceToNat, ir46_a0]
      refine hmid _ _ (Nat.le_refl _) rfl rfl fun Q' g5 e1 e2 e3 e4 hnorm hex => ?_
      have hT : T s p = some e := by rw [getC, if_pos ⟨hok, by omega, by omega⟩, Int.toNat_natCast, Int.toNat_natCast] at hcc; exact hcc
      have hk5 : ∀ b, b < g3.n → g5.get b = g3.get b := fun b hb => by rw [e2 b (by omega)]; exact hK.2.1 b hb
      have c5 := (hk5 h.n (by omega)).trans hc3'
      have b5 := (hk5 g.n (by omega)).trans b1'
      have ho5 : Own (h.n + 1) g5 lv (natV (spcs T s)) 3 := ho3.old hk5
      obtain ⟨v2, g6, r2', w2', hap, o2, m2, kk2, hw2, kk, hty⟩ := app_own (n0 := h.n + 1) (h := g5.push (.cells (Blk.of [.int .i64 s]) 3)) (v := lv) (x := .slice (some (g5.n, 0)) 1 1 true) (l := natV (spcs T s)) (news := [.int .i64 s]) (rs := [g5.n]) (e := 3) (bytes := 8) (ho5.old fun b hb => by rw [w_push_ne (by omega)]) (by simp; omega) rfl (first_one (e := 3) (w_push_eq rfl _)) rfl (by simp only [List.length_cons, List.length_nil, natV_len]; omega) (by simp only [List.length_cons, List.length_nil, natV_len]; omega)
      have hcv := o2.lr.cells
      have hon := o2.lr.one
      have hr2 : allB R' r2' := allB_of fun b _ => r1 b (.inr (hR b))
      have hw2' : allB W' w2' := allB_of fun b hb => w2 b (by have := hw2 b hb; omega)
      have rr1 := r1 h.n (.inr (hR _))
      have rr2 := r1 g.n (.inr (hR _))
      have ww1 := w2 h.n (Nat.le_refl _)
      have m2' : g5.n + 1 ≤ g6.n := by simpa using m2
      have keep6 : ∀ b o, g5.get b = some o → (∀ c, o ≠ .cells c 3) → g6.get b = some o := fun b o hb hne => by
        have hlb := Heap.lt_of_get hb
        rw [kk b (by simp; omega) (fun hm => ?_), w_push_ne (by omega)]
        · exact hb
        · obtain ⟨c2, e2⟩ := hty b hm
          rw [w_push_ne (by omega), hb] at e2
          exact hne c2 (Option.some.inj e2)
      have c6 := keep6 _ _ c5 (fun c2 e => by cases e)
      simp -implicitDefEqProofs (disch := (first | omega | (simp -implicitDefEqProofs only [szs, ne_eq] <;> omega) | fail)) only [go_sem, Nat.reduceAdd, Nat.reduceSub, Nat.reduceMul, Nat.reduceLT, Nat.reduceMod, Nat.reduceDiv, Nat.reduceEqDiff, Nat.reduceBEq, Nat.reduceLeDiff, ↓reduceIte, reduceCtorEq, Int.reduceAdd, Int.reduceSub, Int.reduceLT, Int.reduceLE, Int.reduceBEq, Int.reduceEq, Int.reduceToNat, ir46_b0, t3, c5, hc1, hc2, hc3, b5, rr1, rr2, ww1, appendV_of ap_76, hap, hr2, hw2', ↓hcv, ↓hon, c6]
      obtain ⟨o4, e4⟩ := e4
      have d6 := keep6 _ _ e3 (fun c2 e => by cases e)
      have l6 := keep6 _ _ e4 (fun c2 e => by cases e)
      have hh6 := Heap.lt_of_get c6
      have ho6 := own_at o2 (by simp)
      obtain ⟨hn6, co, hco⟩ := ho6
      have s1 : sblk v2 ≠ g3.n := fun e => by rw [e, d6] at hco; cases hco
      have s2 : sblk v2 ≠ g3.n + 1 := fun e => by rw [e, l6] at hco; cases hco
      have s3 : sblk v2 ≠ h.n := by omega
      refine hex (.exit 2) _ _ (by simp) (by rw [Heap.n_set]; omega) (by rw [w_set_ne hh6 (by omega), d6, e3]) (by rw [w_set_ne hh6 (by omega), l6, e4]) ⟨rfl, by rw [Heap.n_set]; omega, fun b hb => ?_, ⟨_, v2, w_set_eq hh6 rfl _, by rw [Blk.size_set]; exact hc1, by rw [Blk.ro_set]; exact hc2, w_bset_eq rfl _, s1, s2, by rw [Heap.n_set]; exact Heap.lt_of_get hco, ?_⟩, (fun h0 => by have := cntU_zero.1 h0 p hp; rw [hT] at this; cases this), fun m hm => ?_⟩
      · rw [w_set_ne hh6 (by omega), kk2 b (by omega), w_push_ne (by omega), hk5 b (by omega), hk3 b (by omega)]; exact hgo b hb
      · rw [natV_snoc]
        exact own_keepS o2 (w_set_ne hh6 s3 _) (by simp)
      · have := hml m hm
        rw [w_set_ne hh6 (by have := (hmm m hm).1; omega)]
        exact keep6 _ _ (by rw [hk5 m (by omega), hk3 m (by omega)]; exact (hmm m hm).2) (fun c2 e => by cases e)
    · rintro g4 ⟨i1, i2, i3⟩ hn hd
      have h0 : cntU T s 32 = 0 := cntU_zero.2 i3
      rw [if_pos h0] at hss
      have b4 := (i2 g.n (by omega)).trans b1'
      simp -implicitDefEqProofs (disch := (first | omega | (simp -implicitDefEqProofs only [szs, ne_eq] <;> omega) | fail)) only [go_sem, Nat.reduceAdd, Nat.reduceSub, Nat.reduceMul, Nat.reduceLT, Nat.reduceMod, Nat.reduceDiv, Nat.reduceEqDiff, Nat.reduceBEq, Nat.reduceLeDiff, ↓reduceIte, reduceCtorEq, Int.reduceAdd, Int.reduceSub, Int.reduceLT, Int.reduceLE, Int.reduceBEq, Int.reduceEq, Int.reduceToNat, t0, t3, t5, hd]
      refine ⟨k - 1, by omega, ⟨List.nodup_cons.2 ⟨fun hm => by have := hml _ hm; omega, hmn⟩, fun m hm => ?_⟩, by omega, fun b hb => by rw [i2 b (by omega), hk3 b (by omega)]; exact hgo b hb, s + 1, lv, c, by omega, by simp, by rw [i2 _ (by omega)]; exact hc3', hc1, hc2, hc3, by rw [hss]; exact ho3.old i2⟩
      rcases List.mem_cons.1 hm with rfl | hm
      · exact ⟨by omega, hd⟩
      · have := hml m hm
        exact ⟨(hmm m hm).1, by rw [i2 m (by omega), hk3 m (by omega)]; exact (hmm m hm).2⟩
    · rintro e g4 ⟨rfl, i2, i3, ⟨c', v2, q1, q2, q3, q4, q5, q6, q7, q8⟩, i6, i7⟩ _ hn hd
      rw [if_neg i6] at hss
      simp -implicitDefEqProofs (disch := (first | omega | (simp -implicitDefEqProofs only [szs, ne_eq] <;> omega) | fail)) only [go_sem, Nat.reduceAdd, Nat.reduceSub, Nat.reduceMul, Nat.reduceLT, Nat.reduceMod, Nat.reduceDiv, Nat.reduceEqDiff, Nat.reduceBEq, Nat.reduceLeDiff, ↓reduceIte, reduceCtorEq, Int.reduceAdd, Int.reduceSub, Int.reduceLT, Int.reduceLE, Int.reduceBEq, Int.reduceEq, Int.reduceToNat, t0, t3, t5, hd]
      refine ⟨k - 1, by omega, ⟨List.nodup_cons.2 ⟨fun hm => by have := hml _ hm; omega, hmn⟩, fun m hm => ?_⟩, by omega, i3, s + 1, v2, c', by omega, by simp, q1, q2, q3, q4, by rw [hss]; exact q8⟩
      rcases List.mem_cons.1 hm with rfl | hm
      · exact ⟨by omega, hd⟩
      · exact ⟨(hmm m hm).1, i7 m hm⟩
  · obtain rfl : s = 16 := by omega
    simp -implicitDefEqProofs (disch := (first | omega | (simp -implicitDefEqProofs only [szs, ne_eq] <;> omega) | fail)) only [go_sem, Nat.reduceAdd, Nat.reduceSub, Nat.reduceMul, Nat.reduceLT, Nat.reduceMod, Nat.reduceDiv, Nat.reduceEqDiff, Nat.reduceBEq, Nat.reduceLeDiff, ↓reduceIte, reduceCtorEq, Int.reduceAdd, Int.reduceSub, Int.reduceLT, Int.reduceLE, Int.reduceBEq, Int.reduceEq, Int.reduceToNat, ir46_l0, t0, t3, t5, hc, hc1, hc3]
    refine fin_all hmn (fun m hm => ⟨(hmm m hm).2, .inl (by have := (hmm m hm).1; omega)⟩) fun h' en ek => ?_
    have hk' : ∀ b c, g.get b = some (.cells c 3) → h'.get b = some (.cells c 3) := fun b c hb => by
      rw [ek b (fun hm => by rw [(hmm b hm).2] at hb; cases hb)]; exact hb
    rw [fin_ret]
    simp -implicitDefEqProofs (disch := (first | omega | (simp -implicitDefEqProofs only [szs, ne_eq] <;> omega) | fail)) only [go_sem, Nat.reduceAdd, Nat.reduceSub, Nat.reduceMul, Nat.reduceLT, Nat.reduceMod, Nat.reduceDiv, Nat.reduceEqDiff, Nat.reduceBEq, Nat.reduceLeDiff, ↓reduceIte, reduceCtorEq, Int.reduceAdd, Int.reduceSub, Int.reduceLT, Int.reduceLE, Int.reduceBEq, Int.reduceEq, Int.reduceToNat]
    exact ⟨ho.keep hk', by omega, fun b hb => by rw [ek b (fun hm => by have := (hmm b hm).1; omega)]; exact hgo b hb⟩
end Go.Proofs.Ytkfhdaimememiaa
