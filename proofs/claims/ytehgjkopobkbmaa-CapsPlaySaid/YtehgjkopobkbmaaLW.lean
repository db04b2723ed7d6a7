/- CapsWithin: what holds of each capability and its parent; the walk. -/
import Derived.Test.YtehgjkopobkbmaaKO
import Derived.Test.YtehgjkopobkbmaaKn
set_option linter.unusedVariables false
set_option linter.unusedSimpArgs false
set_option linter.unusedSimpArgs false
set_option maxRecDepth 100000
set_option linter.unusedVariables false
set_option linter.unusedSimpArgs false
namespace Go.Proofs.Ytehgjkopobkbmaa
open Go Go.Vm
open Classical
theorem takeH_all {W : Set'} {K : Heap → Prop} : ∀ (mks : List Nat) (h : Heap), mks.Nodup → (∀ m ∈ mks, h.get m = some (.deferred true) ∧ W m) → (∀ h' : Heap, h'.n = h.n → (∀ b, b ∉ mks → h'.get b = h.get b) → K h') → takeH W mks h K
  | [], h, _, _, hk => hk h rfl fun _ _ => rfl
  | b :: r, h, hn, hm, hk => by
    obtain ⟨h1, h2⟩ := hm b (by simp)
    rw [List.nodup_cons] at hn
    unfold takeH
    rw [h1]
    refine ⟨h2, takeH_all r _ hn.2 (fun m hmr => ?_) fun h' e1 e2 => ?_⟩
    · have hne : m ≠ b := fun e => hn.1 (by rw [← e]; exact hmr)
      rw [w_set_ne (Heap.lt_of_get h1) hne]
      exact hm m (by simp [hmr])
    · refine hk h' (by rw [e1, Heap.n_set]) fun x hx => ?_
      simp only [List.mem_cons, not_or] at hx
      rw [e2 x hx.2, w_set_ne (Heap.lt_of_get h1) hx.1]
theorem fin_all {M : MP} {R W : Set'} {rs : List ResultVar} {Q : V → Heap → Prop} {tm : Tm} {mks : List Nat} {h : Heap} (hn : mks.Nodup) (hm : ∀ m ∈ mks, h.get m = some (.deferred true) ∧ W m) (hk : ∀ h' : Heap, h'.n = h.n → (∀ b, b ∉ mks → h'.get b = h.get b) → Vm.Fin M R W rs Q .ret ⟨tm, []⟩ h') : Vm.Fin M R W rs Q .ret ⟨tm, mks⟩ h := by
  unfold Vm.Fin
  refine takeH_all mks h hn hm fun h' e1 e2 => ?_
  have := hk h' e1 e2
  unfold Vm.Fin takeH at this
  exact this
def iand (a b : Int) : Int := IntKind.i64.wrap (BitVec.ofInt 64 a &&& BitVec.ofInt 64 b).toNat
theorem iand_op (a b : Int) : intBin .and .i64 a b = some (.int .i64 (iand a b)) := rfl
theorem within_bits : ∀ n : _root_.Fin 16, ∀ m : _root_.Fin 16, anot (n.val : Int) (m.val : Int) = 0 → iand (n.val : Int) (m.val : Int) = (n.val : Int) := by decide +kernel
theorem within_and {a b : Int} (ha : okR a) (hb : okR b) (h : anot a b = 0) : iand a b = a := by
  obtain ⟨ha1, ha2⟩ := ha
  obtain ⟨hb1, hb2⟩ := hb
  have e1 : a = ((⟨a.toNat, by omega⟩ : _root_.Fin 16).val : Int) := by simp; omega
  have e2 : b = ((⟨b.toNat, by omega⟩ : _root_.Fin 16).val : Int) := by simp; omega
  rw [e1, e2] at h ⊢
  exact within_bits _ _ h
structure WI (T : CS) : Prop where
  w : WF T
  ok : ∀ c ∈ T.L, okR c.rt ∧ (c.par = 0 ∨ ∃ p, findC T.L c.par = some p ∧ anot c.rt p.rt = 0 ∧ c.kd = p.kd ∧ c.ob = p.ob)
theorem WI.add {T : CS} (z : WI T) {c : Cp} (hl : T.last < 1000000) (hp : 0 ≤ c.par ∧ c.par ≤ T.last) (hr : okR c.rt) (hq : c.par = 0 ∨ ∃ p, findC T.L c.par = some p ∧ anot c.rt p.rt = 0 ∧ c.kd = p.kd ∧ c.ob = p.ob) : WI (addT T c) := by
  have w1 := z.w.add (c := c) hp hl
  revert w1
  unfold addT
  split
  · intro _; exact z
  intro w1
  refine ⟨w1, fun d hd => ?_⟩
  rcases List.mem_append.1 hd with hd | hd
  · obtain ⟨h1, h2⟩ := z.ok d hd
    exact ⟨h1, h2.imp id fun ⟨p, h3, h4⟩ => ⟨p, findC_snoc _ h3, h4⟩⟩
  · simp at hd; subst hd
    exact ⟨hr, hq.imp id fun ⟨p, h3, h4⟩ => ⟨p, findC_snoc _ h3, h4⟩⟩
theorem WI.filter {T : CS} (z : WI T) (f : Cp → Bool) (hf : ∀ c ∈ T.L, f c = true → ∀ p ∈ T.L, p.id = c.par → f p = true) : WI ⟨T.L.filter f, T.last⟩ := by
  refine ⟨z.w.filter f, fun c hc => ?_⟩
  obtain ⟨hc, hfc⟩ := List.mem_filter.1 hc
  obtain ⟨h1, h2⟩ := z.ok c hc
  refine ⟨h1, h2.imp id fun ⟨p, h3, h4⟩ => ⟨p, ?_, h4⟩⟩
  obtain ⟨hpm, hpi⟩ := findC_some h3
  rw [findC_filter z.w.asc, h3]
  simp only []
  rw [if_pos (hf c hc hfc p hpm hpi)]
theorem WI.gone {T : CS} (z : WI T) (a : Int) : WI ⟨gone T.L a, T.last⟩ := by
  refine z.filter _ fun c hc h p hp hpi => decide_eq_true fun hu => ?_
  exact (of_decide_eq_true h) (.step hu hc hpi.symm)
theorem WI.drop {T : CS} (z : WI T) (a : Int) : WI ⟨(Go.Proofs.Ytehgjkopobkbmaa.gone T.L a).filter fun c => decide (c.id ≠ a), T.last⟩ := by
  refine (z.gone a).filter _ fun c hc h p hp hpi => decide_eq_true fun hu => ?_
  obtain ⟨hcl, hcu⟩ := mem_gone.1 hc
  exact hcu (.kid hcl (by rw [← hpi, hu]))
theorem WI.under {T : CS} (z : WI T) (hl : T.last < 1000000) (a id to rt need : Int) : WI (underT T a id to rt need) := by
  unfold underT
  split
  · exact z
  rename_i h0
  split
  · exact z
  rename_i h1
  split
  · exact z
  rename_i h2
  obtain ⟨c, hc, hm, _⟩ := mine_zero (Decidable.not_not.1 h1)
  obtain ⟨hcm, hci⟩ := findC_some hc
  have := z.w.ids c hcm
  have hx : anot rt (mineC T a id).rt = 0 := Decidable.byContradiction fun h => h2 (.inl h)
  refine z.add hl (show 0 ≤ id ∧ id ≤ T.last by omega) (show okR rt from Decidable.byContradiction fun h => h0 fun h' => h h'.2) (.inr ⟨c, hc, ?_, ?_, ?_⟩)
  · show anot rt c.rt = 0
    rw [← hm]; exact hx
  · show (mineC T a id).kd = c.kd
    rw [hm]
  · show (mineC T a id).ob = c.ob
    rw [hm]
theorem WI.one {T : CS} (z : WI T) (hl : T.last < 1000000) (s : St) : WI (oneT T s) := by
  unfold oneT
  split
  · unfold rootT
    split
    · rename_i h
      have := z.w.last
      exact z.add hl (show 0 ≤ (0 : Int) ∧ (0 : Int) ≤ T.last by omega) h.2.2.2 (.inl rfl)
    · exact z
  split
  · exact z.under hl _ _ _ _ _
  split
  · exact z.under hl _ _ _ _ _
  split
  · unfold revT; split
    · exact z.gone _
    · exact z
  split
  · unfold dropT; split
    · exact z.drop _
    · exact z
  · exact z
theorem WI.start : WI ⟨[], 0⟩ := ⟨⟨List.Pairwise.nil, fun c hc => (by cases hc), ⟨by show (0 : Int) ≤ 0; omega, by show (0 : Int) ≤ 1000000; omega⟩, fun c hc => (by cases hc)⟩, fun c hc => (by cases hc)⟩
theorem allL_neg {L : List Cp} {a : Int} (h : a < 0) : allL L a = L := List.filter_eq_self.2 fun c _ => decide_eq_true (.inl h)
/-- A table of the law's, and a box that has its address. -/
structure OW (H : Heap) (x tb r : Nat) (T : CS) (g : Heap) : Prop where
  n : H.n ≤ x ∧ H.n ≤ tb ∧ H.n ≤ r
  old : ∀ b, b < H.n → g.get b = H.get b
  t : CapAt g tb r T
  x : ∃ c, g.get x = some (.cells c 24) ∧ c.size = 1 ∧ c.get 0 = .ptr (some (tb, 0))
theorem OW.keep {H : Heap} {x tb r : Nat} {T : CS} {g g' : Heap} (d : OW H x tb r T g) (hk : ∀ b, b < g.n → g'.get b = g.get b) (hn : H.n ≤ g.n) : OW H x tb r T g' := by
  obtain ⟨c, h1, h2⟩ := d.x
  exact ⟨d.n, fun b hb => by rw [hk b (by omega)]; exact d.old b hb, d.t.old hk, c, by rw [hk _ (Heap.lt_of_get h1)]; exact h1, h2⟩
theorem OW.set {H : Heap} {x tb r : Nat} {T T' : CS} {g g' : Heap} (d : OW H x tb r T g) (v : VF g g' fun b => b = tb ∨ b = r) (ht : CapAt g' tb r T') (hn : H.n ≤ g.n) : OW H x tb r T' g' := by
  obtain ⟨c, h1, h2⟩ := d.x
  obtain ⟨n1, n2, n3⟩ := d.n
  obtain ⟨⟨ct, t1, _⟩, es, ck, m1, _⟩ := d.t
  refine ⟨d.n, fun b hb => by rw [v.get b (by omega) (by rintro (h | h) <;> omega)]; exact d.old b hb, ht, c, ?_, h2⟩
  rw [v.get x (Heap.lt_of_get h1) (by
    rintro (h | h)
    · rw [h, t1] at h1; cases h1
    · rw [h, m1] at h1; cases h1)]
  exact h1
set_option maxHeartbeats 4000000 in
theorem within_law {H : Heap} {v0 : V} {m0 : Nat} {S0 : Nat → St} (hv0 : StepsV H v0 m0 S0) : SF ⟨Try.prog, true⟩ 4 [v0] H (fun _ => True) (WH H) fun v _ => v = .bool true := by
  have hl0 := hv0.lenV
  have hm0 := hv0.len
  refine SF.go hm Try.func4 ir4_eq ?_
  by_cases h0 : m0 ≤ 60
  · simp -implicitDefEqProofs (disch := (first | omega | (simp -implicitDefEqProofs only [szs, ne_eq] <;> omega) | fail)) only [go_sem, Nat.reduceAdd, Nat.reduceSub, Nat.reduceMul, Nat.reduceLT, Nat.reduceMod, Nat.reduceDiv, Nat.reduceEqDiff, Nat.reduceBEq, Nat.reduceLeDiff, ↓reduceIte, reduceCtorEq, Int.reduceAdd, Int.reduceSub, Int.reduceLT, Int.reduceLE, Int.reduceBEq, Int.reduceEq, Int.reduceToNat, ir4, undefV, ↓hl0]
    refine GCall.of (new_ok).any ?_
    rintro v g1 ⟨rfl, ha1, n1, k1⟩
    obtain ⟨H1, eH, nH, bH, kH⟩ : ∃ H1, H.push (O.cells (Blk.of [V.bool false]) 4) = H1 ∧ H1.n = H.n + 1 ∧ H1.get H.n = some (O.cells (Blk.of [V.bool false]) 4) ∧ ∀ b, b < H.n → H1.get b = H.get b := ⟨_, rfl, by simp, w_push_eq rfl _, fun b hb => w_push_ne (by omega) _⟩
    rw [eH] at ha1 n1 k1
    rw [eH]
    simp -implicitDefEqProofs (disch := (first | omega | (simp -implicitDefEqProofs only [szs, ne_eq] <;> omega) | fail)) only [go_sem, Nat.reduceAdd, Nat.reduceSub, Nat.reduceMul, Nat.reduceLT, Nat.reduceMod, Nat.reduceDiv, Nat.reduceEqDiff, Nat.reduceBEq, Nat.reduceLeDiff, ↓reduceIte, reduceCtorEq, Int.reduceAdd, Int.reduceSub, Int.reduceLT, Int.reduceLE, Int.reduceBEq, Int.reduceEq, Int.reduceToNat]
    refine ⟨.inl (by omega), ?_⟩
    obtain ⟨g2, e2, n2, b2, k2⟩ : ∃ g2, ((g1.push (O.cells (Blk.of [V.ptr none]) 24)).set g1.n
        (O.cells ((Blk.of [V.ptr none]).set 0 (V.ptr (some (H1.n + 1, 0)))) 24)) = g2 ∧ g2.n = g1.n + 1 ∧ (∃ c, g2.get g1.n = some (.cells c 24) ∧ c.size = 1 ∧ c.get 0 = .ptr (some (H1.n + 1, 0))) ∧ ∀ b, b < g1.n → g2.get b = g1.get b := ⟨_, rfl, by simp, ⟨_, w_set_eq (by simp) rfl _, rfl, w_bset_eq rfl _⟩, fun b hb => by rw [w_set_ne (by simp) (by omega), w_push_ne (by omega)]⟩
    rw [e2]
    have hd : OW H1 g1.n (H1.n + 1) H1.n ⟨[], 0⟩ g2 := ⟨⟨by omega, by omega, by omega⟩, fun b hb => by rw [k2 b (by omega), k1 b hb], ha1.old k2, b2⟩
    have hxl : g1.n < g2.n := by omega
    refine GLoop.inv hm (fun k f g => f.tm.n = 76 ∧ f.tm.get 0 = some v0 ∧ f.tm.get 2 = some (.ptr (some (H.n, 0))) ∧ f.tm.get 3 = some (.ptr (some (g1.n, 0))) ∧ ∃ i : Nat, i + k = m0 ∧ f.tm.get 4 = some (.int .i64 i) ∧ (f.mks.Nodup ∧ ∀ m ∈ f.mks, H1.n ≤ m ∧ m ≠ H1.n + 1 ∧ m ≠ H1.n ∧ g.get m = some (.deferred true)) ∧ ∃ T, OW H1 g1.n (H1.n + 1) H1.n T g ∧ WI T ∧ T.last ≤ i) m0 ?_ ?_
    · exact ⟨rfl, by simp -implicitDefEqProofs (disch := (first | omega | (simp -implicitDefEqProofs only [szs, ne_eq] <;> omega) | fail)) only [go_sem, Nat.reduceAdd, Nat.reduceSub, Nat.reduceMul, Nat.reduceLT, Nat.reduceMod, Nat.reduceDiv, Nat.reduceEqDiff, Nat.reduceBEq, Nat.reduceLeDiff, ↓reduceIte, reduceCtorEq, Int.reduceAdd, Int.reduceSub, Int.reduceLT, Int.reduceLE, Int.reduceBEq, Int.reduceEq, Int.reduceToNat], by simp -implicitDefEqProofs (disch := (first | omega | (simp -implicitDefEqProofs only [szs, ne_eq] <;> omega) | fail)) only [go_sem, Nat.reduceAdd, Nat.reduceSub, Nat.reduceMul, Nat.reduceLT, Nat.reduceMod, Nat.reduceDiv, Nat.reduceEqDiff, Nat.reduceBEq, Nat.reduceLeDiff, ↓reduceIte, reduceCtorEq, Int.reduceAdd, Int.reduceSub, Int.reduceLT, Int.reduceLE, Int.reduceBEq, Int.reduceEq, Int.reduceToNat], by simp -implicitDefEqProofs (disch := (first | omega | (simp -implicitDefEqProofs only [szs, ne_eq] <;> omega) | fail)) only [go_sem, Nat.reduceAdd, Nat.reduceSub, Nat.reduceMul, Nat.reduceLT, Nat.reduceMod, Nat.reduceDiv, Nat.reduceEqDiff, Nat.reduceBEq, Nat.reduceLeDiff, ↓reduceIte, reduceCtorEq, Int.reduceAdd, Int.reduceSub, Int.reduceLT, Int.reduceLE, Int.reduceBEq, Int.reduceEq, Int.reduceToNat], 0, by omega, by simp -implicitDefEqProofs (disch := (first | omega | (simp -implicitDefEqProofs only [szs, ne_eq] <;> omega) | fail)) only [go_sem, Nat.reduceAdd, Nat.reduceSub, Nat.reduceMul, Nat.reduceLT, Nat.reduceMod, Nat.reduceDiv, Nat.reduceEqDiff, Nat.reduceBEq, Nat.reduceLeDiff, ↓reduceIte, reduceCtorEq, Int.reduceAdd, Int.reduceSub, Int.reduceLT, Int.reduceLE, Int.reduceBEq, Int.reduceEq, Int.reduceToNat]; rfl, ⟨List.nodup_nil, fun m hm => by cases hm⟩, _, hd, WI.start, Int.le_refl _⟩
    rintro k ⟨⟨n', tr⟩, mks⟩ g ⟨hn', t0, u2, u3, i, hi, u4, ⟨hmn, hmm⟩, T, d, z, hlast⟩
    simp only [Tm.get_mk] at hn' t0 u2 u3 u4 hmn hmm
    subst hn'
    have hgt := d.t.lt
    have hH1g : H1.n ≤ g.n := by omega
    by_cases him : i < m0
    · rcases hv0.at' with ⟨h0', _⟩ | ⟨b, o, cap, c, ce, rfl, hb, hsz, hc⟩
      · omega
      obtain ⟨c0, c1, c2, c3, c4, c5, c6⟩ := hc i him
      have hbl := Heap.lt_of_get hb
      have hb1 : g.get b = some (.cells c ce) := by rw [d.old b (by omega), kH b hbl]; exact hb
      obtain ⟨bx, x1, x2, x3⟩ := d.x
      simp -implicitDefEqProofs (disch := (first | omega | (simp -implicitDefEqProofs only [szs, ne_eq] <;> omega) | fail)) only [go_sem, Nat.reduceAdd, Nat.reduceSub, Nat.reduceMul, Nat.reduceLT, Nat.reduceMod, Nat.reduceDiv, Nat.reduceEqDiff, Nat.reduceBEq, Nat.reduceLeDiff, ↓reduceIte, reduceCtorEq, Int.reduceAdd, Int.reduceSub, Int.reduceLT, Int.reduceLE, Int.reduceBEq, Int.reduceEq, Int.reduceToNat, ir4_l0, t0, u2, u3, u4, hb1, c0, c1, c2, c3, c4, c5, c6, undefV, ↓hl0, x1, x2, x3]
      refine GCallD.of (R' := fun _ => True) (W' := fun b => b = H1.n + 1 ∨ b = H1.n) (one_ok d.t z.w (fun _ => trivial) (fun _ h => h) (S0 i)).kept ?_
      rintro v g3 ⟨ht3, vf3⟩
      have d3 := d.set vf3 ht3 hH1g
      have z3 := z.one (by omega) (S0 i)
      have hl3 := (oneT_last T (S0 i)).2
      have n3 := vf3.n
      generalize oneT T (S0 i) = T3 at *
      obtain ⟨by', y1, y2, y3⟩ := d3.x
      simp -implicitDefEqProofs (disch := (first | omega | (simp -implicitDefEqProofs only [szs, ne_eq] <;> omega) | fail)) only [go_sem, Nat.reduceAdd, Nat.reduceSub, Nat.reduceMul, Nat.reduceLT, Nat.reduceMod, Nat.reduceDiv, Nat.reduceEqDiff, Nat.reduceBEq, Nat.reduceLeDiff, ↓reduceIte, reduceCtorEq, Int.reduceAdd, Int.reduceSub, Int.reduceLT, Int.reduceLE, Int.reduceBEq, Int.reduceEq, Int.reduceToNat, u2, u3, u4, y1, y2, y3]
      refine ⟨fun b' _ hb' => .inl (by rcases hb' with rfl | rfl <;> omega), ?_⟩
      refine GCall.of (all_ok d3.t z3.w (fun _ _ => trivial) (-1)).any ?_
      rintro v ga ⟨rfl, na, ⟨ca, lv, a1, a2, a3, a4⟩, ka⟩
      rw [allL_neg (by omega)] at a4
      simp -implicitDefEqProofs (disch := (first | omega | (simp -implicitDefEqProofs only [szs, ne_eq] <;> omega) | fail)) only [go_sem, Nat.reduceAdd, Nat.reduceSub, Nat.reduceMul, Nat.reduceLT, Nat.reduceMod, Nat.reduceDiv, Nat.reduceEqDiff, Nat.reduceBEq, Nat.reduceLeDiff, ↓reduceIte, reduceCtorEq, Int.reduceAdd, Int.reduceSub, Int.reduceLT, Int.reduceLE, Int.reduceBEq, Int.reduceEq, Int.reduceToNat, u2, u3, u4]
      have hwl := z3.w.last
      have hwn := z3.w.len
      have da := d3.keep ka (by omega)
      have b0 : ga.get H.n = some (O.cells (Blk.of [V.bool false]) 4) := by rw [da.old _ (by omega)]; exact bH
      have hmm' : ∀ m ∈ mks, H1.n ≤ m ∧ m ≠ H1.n + 1 ∧ m ≠ H1.n ∧ ga.get m = some (.deferred true) := fun m hm => by
        obtain ⟨q1, q2, q3, q4⟩ := hmm m hm
        have hml := Heap.lt_of_get q4
        exact ⟨q1, q2, q3, by rw [ka m (by omega), vf3.get m hml (by rintro (h | h) <;> omega)]; exact q4⟩
      refine range40 (P := 31) (X := 6) (cb := ir4_b0) (S := fun b => H.n ≤ b ∧ b < ga.n) (L := T3.L) (fun _ => False)
        (fun p g' => ga.n ≤ g'.n ∧ (∀ b, b < ga.n → g'.get b = ga.get b)) (fun e g' => False)
        (by simp -implicitDefEqProofs (disch := (first | omega | (simp -implicitDefEqProofs only [szs, ne_eq] <;> omega) | fail)) only [go_sem, Nat.reduceAdd, Nat.reduceSub, Nat.reduceMul, Nat.reduceLT, Nat.reduceMod, Nat.reduceDiv, Nat.reduceEqDiff, Nat.reduceBEq, Nat.reduceLeDiff, ↓reduceIte, reduceCtorEq, Int.reduceAdd, Int.reduceSub, Int.reduceLT, Int.reduceLE, Int.reduceBEq, Int.reduceEq, Int.reduceToNat]) ⟨ca, a1, a2, a3⟩ (LRs.mono a4 (fun b hb h => ⟨by omega, hb⟩)) (fun _ h => h.2) (by omega) (fun b hb => trivial) (fun b hb => .inl (by rcases hb with h | h <;> first | omega | exact h.elim)) ⟨Nat.le_refl _, fun _ _ => rfl⟩
        (fun p g1 g2 ⟨i1, i2⟩ j1 j2 => ⟨by omega, fun b hb => by rw [j2 b (by omega) (by omega) (by omega)]; exact i2 b hb⟩)
        (fun e g1 g2 h _ _ => h.elim) (fun p g1 ⟨i1, i2⟩ => ⟨i1, fun b hb => i2 b hb.2⟩) ir4_a0_eq ir4_b0_eq (by simp) (by show 31 < 76; omega) (by show 6 < 76; omega) ?_ ?_ (fun e g h => h.elim)
      · rintro R' W' Q' p c' g4 sb x rr w1 w2 hcp ⟨j1, j2⟩ n4 hx hdm ho s0 s1 s2 q0 q1 q2 q3 q4 q5 q6 hn hex
        have rrT : ∀ b, R' b := fun b => rr b trivial
        have rrx := rrT x
        by_cases hp0 : c'.par = 0
        · simp -implicitDefEqProofs (disch := (first | omega | (simp -implicitDefEqProofs only [szs, ne_eq] <;> omega) | fail)) only [go_sem, Nat.reduceAdd, Nat.reduceSub, Nat.reduceMul, Nat.reduceLT, Nat.reduceMod, Nat.reduceDiv, Nat.reduceEqDiff, Nat.reduceBEq, Nat.reduceLeDiff, ↓reduceIte, reduceCtorEq, Int.reduceAdd, Int.reduceSub, Int.reduceLT, Int.reduceLE, Int.reduceBEq, Int.reduceEq, Int.reduceToNat, ir4_b0, s0, s1, q1, rrx, hp0]
          exact hn _ _ (Nat.le_refl _) rfl rfl ⟨j1, j2⟩
        · obtain ⟨hrt, hpp⟩ := z3.ok c' (List.mem_of_getElem? hcp)
          obtain ⟨pp, f1, f2, f3, f4⟩ := hpp.resolve_left hp0
          obtain ⟨fm, fi⟩ := findC_some f1
          have hprt := (z3.ok pp fm).1
          have hand := within_and hrt hprt f2
          have hlt := (z3.w.par c' (List.mem_of_getElem? hcp)).2
          have t4 : CapAt g4 (H1.n + 1) H1.n T3 := da.t.old j2
          have y1' := (j2 _ (by have := Heap.lt_of_get y1; omega)).trans ((ka _ (Heap.lt_of_get y1)).trans y1)
          have hpne : (c'.par == 0) = false := by simpa using hp0
          have rrb := rrT g1.n
          simp -implicitDefEqProofs (disch := (first | omega | (simp -implicitDefEqProofs only [szs, ne_eq] <;> omega) | fail)) only [go_sem, Nat.reduceAdd, Nat.reduceSub, Nat.reduceMul, Nat.reduceLT, Nat.reduceMod, Nat.reduceDiv, Nat.reduceEqDiff, Nat.reduceBEq, Nat.reduceLeDiff, ↓reduceIte, reduceCtorEq, Int.reduceAdd, Int.reduceSub, Int.reduceLT, Int.reduceLE, Int.reduceBEq, Int.reduceEq, Int.reduceToNat, ir4_b0, s0, s1, q0, q1, q4, q5, q6, rrx, rrb, hpne, u2, u3, u4, y1', y2, y3]
          refine GCall.of (of_ok t4 (fun b _ => rrT b) c'.par).any ?_
          rintro v g5 ⟨rfl, n5, k5⟩
          obtain ⟨g6, e6, n6, ⟨sp, p0, p1, p2, r0, r1, r2, r3, r4, r5, r6⟩, k6⟩ := stC g5 (ofC T3 c'.par)
          have he : ofE T3 c'.par = 0 := by rw [ofE, f1]; rfl
          have hoc : ofC T3 c'.par = pp := by rw [ofC, f1]; rfl
          rw [hoc] at e6 r0 r1 r2 r3 r4 r5 r6
          rw [hoc]
          have s0' : g6.get x = some (.cells sb 40) := by rw [k6 x (by omega), k5 x (by omega)]; exact s0
          have rrg := rrT g5.n
          have hwg := w1 g5.n (by omega)
          rw [← fi] at hlt
          have hb1 : (c'.rt != c'.rt) = false := by simp
          have hb2 : (c'.kd != pp.kd) = false := by rw [f3]; simp
          have hb3 : (c'.ob != pp.ob) = false := by rw [f4]; simp
          simp -implicitDefEqProofs (disch := (first | omega | (simp -implicitDefEqProofs only [szs, ne_eq] <;> omega) | fail)) only [go_sem, Nat.reduceAdd, Nat.reduceSub, Nat.reduceMul, Nat.reduceLT, Nat.reduceMod, Nat.reduceDiv, Nat.reduceEqDiff, Nat.reduceBEq, Nat.reduceLeDiff, ↓reduceIte, reduceCtorEq, Int.reduceAdd, Int.reduceSub, Int.reduceLT, Int.reduceLE, Int.reduceBEq, Int.reduceEq, Int.reduceToNat, Cp.v, Cp.l, e6, he, s0', s1, q0, q4, q5, q6, p0, p1, r0, r4, r5, r6, rrx, rrg, hwg, ↓iand_op, hand, hb1, hb2, hb3, undefV]
          exact hn _ g6 (by omega) (by rw [k6 _ (by omega), k5 _ (by omega)]) (by rw [k6 _ (by omega), k5 _ (by omega)]) ⟨by omega, fun b hb => by rw [k6 b (by omega), k5 b (by omega), j2 b hb]⟩
      · rintro g6 ⟨j1, j2⟩ n6 d6
        simp -implicitDefEqProofs (disch := (first | omega | (simp -implicitDefEqProofs only [szs, ne_eq] <;> omega) | fail)) only [go_sem, Nat.reduceAdd, Nat.reduceSub, Nat.reduceMul, Nat.reduceLT, Nat.reduceMod, Nat.reduceDiv, Nat.reduceEqDiff, Nat.reduceBEq, Nat.reduceLeDiff, ↓reduceIte, reduceCtorEq, Int.reduceAdd, Int.reduceSub, Int.reduceLT, Int.reduceLE, Int.reduceBEq, Int.reduceEq, Int.reduceToNat, u2, u3, u4]
        refine ⟨k - 1, by omega, t0, i + 1, by omega, by simp, ⟨List.nodup_cons.2 ⟨fun hm => ?_, hmn⟩, fun m hm => ?_⟩, T3, da.keep j2 (by omega), z3, by omega⟩
        · have := Heap.lt_of_get (hmm' _ hm).2.2.2; omega
        · rcases List.mem_cons.1 hm with rfl | hm
          · exact ⟨by omega, by omega, by omega, d6⟩
          · obtain ⟨q1, q2, q3, q4⟩ := hmm' m hm
            exact ⟨q1, q2, q3, by rw [j2 m (Heap.lt_of_get q4)]; exact q4⟩
    · obtain rfl : i = m0 := by omega
      simp -implicitDefEqProofs (disch := (first | omega | (simp -implicitDefEqProofs only [szs, ne_eq] <;> omega) | fail)) only [go_sem, Nat.reduceAdd, Nat.reduceSub, Nat.reduceMul, Nat.reduceLT, Nat.reduceMod, Nat.reduceDiv, Nat.reduceEqDiff, Nat.reduceBEq, Nat.reduceLeDiff, ↓reduceIte, reduceCtorEq, Int.reduceAdd, Int.reduceSub, Int.reduceLT, Int.reduceLE, Int.reduceBEq, Int.reduceEq, Int.reduceToNat, ir4_l0, t0, u2, u3, u4, ↓hl0]
      refine GCall.of (known_ok _ _ _).any ?_
      rintro v g ⟨rfl, rfl⟩
      have b0 : g.get H.n = some (O.cells (Blk.of [V.bool false]) 4) := by rw [d.old _ (by omega)]; exact bH
      have hlt0 : H.n < g.n := by omega
      simp -implicitDefEqProofs (disch := (first | omega | (simp -implicitDefEqProofs only [szs, ne_eq] <;> omega) | fail)) only [go_sem, Nat.reduceAdd, Nat.reduceSub, Nat.reduceMul, Nat.reduceLT, Nat.reduceMod, Nat.reduceDiv, Nat.reduceEqDiff, Nat.reduceBEq, Nat.reduceLeDiff, ↓reduceIte, reduceCtorEq, Int.reduceAdd, Int.reduceSub, Int.reduceLT, Int.reduceLE, Int.reduceBEq, Int.reduceEq, Int.reduceToNat, b0, u2]
      refine fin_all hmn (fun m hm => ⟨?_, .inl (by have := (hmm m hm).1; omega)⟩) fun h' e1 e2 => ?_
      · rw [w_set_ne hlt0 (by have := (hmm m hm).1; omega)]; exact (hmm m hm).2.2.2
      · have hnm : H.n ∉ mks := fun hm => by have := (hmm _ hm).1; omega
        have hc2 : h'.get H.n = _ := (e2 H.n hnm).trans (w_set_eq hlt0 rfl _)
        simp -implicitDefEqProofs (disch := (first | omega | (simp -implicitDefEqProofs only [szs, ne_eq] <;> omega) | fail)) only [go_sem, Nat.reduceAdd, Nat.reduceSub, Nat.reduceMul, Nat.reduceLT, Nat.reduceMod, Nat.reduceDiv, Nat.reduceEqDiff, Nat.reduceBEq, Nat.reduceLeDiff, ↓reduceIte, reduceCtorEq, Int.reduceAdd, Int.reduceSub, Int.reduceLT, Int.reduceLE, Int.reduceBEq, Int.reduceEq, Int.reduceToNat, hc2, u2]
  · simp -implicitDefEqProofs (disch := (first | omega | (simp -implicitDefEqProofs only [szs, ne_eq] <;> omega) | fail)) only [go_sem, Nat.reduceAdd, Nat.reduceSub, Nat.reduceMul, Nat.reduceLT, Nat.reduceMod, Nat.reduceDiv, Nat.reduceEqDiff, Nat.reduceBEq, Nat.reduceLeDiff, ↓reduceIte, reduceCtorEq, Int.reduceAdd, Int.reduceSub, Int.reduceLT, Int.reduceLE, Int.reduceBEq, Int.reduceEq, Int.reduceToNat, ir4, undefV, ↓hl0]
    refine GCall.of (known_ok _ _ _).any ?_
    rintro v g ⟨rfl, rfl⟩
    simp -implicitDefEqProofs (disch := (first | omega | (simp -implicitDefEqProofs only [szs, ne_eq] <;> omega) | fail)) only [go_sem, Nat.reduceAdd, Nat.reduceSub, Nat.reduceMul, Nat.reduceLT, Nat.reduceMod, Nat.reduceDiv, Nat.reduceEqDiff, Nat.reduceBEq, Nat.reduceLeDiff, ↓reduceIte, reduceCtorEq, Int.reduceAdd, Int.reduceSub, Int.reduceLT, Int.reduceLE, Int.reduceBEq, Int.reduceEq, Int.reduceToNat]
end Go.Proofs.Ytehgjkopobkbmaa
