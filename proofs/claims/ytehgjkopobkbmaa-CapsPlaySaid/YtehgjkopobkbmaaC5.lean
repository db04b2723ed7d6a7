/- A range over a table's capabilities; below, Revoke, Drop. -/
import Derived.Test.YtehgjkopobkbmaaC4
set_option linter.unusedVariables false
set_option linter.unusedSimpArgs false
set_option linter.unusedSimpArgs false
set_option maxRecDepth 100000
set_option linter.unusedVariables false
set_option linter.unusedSimpArgs false
namespace Go.Proofs.Ytehgjkopobkbmaa
open Go Go.Vm
set_option maxHeartbeats 1000000 in
theorem range40 {R W : Set'} {Q : Ex → Fr → Heap → Prop} {og : Operand} {ka kb : Code} {cb : LC} {t : List It} {f : Fr} {h : Heap} {b1 : Nat} {S : Set'} {L : List Cp} {lv : V} {X P : Nat} (W2 : Set') (K : Nat → Heap → Prop) (E : Ex → Heap → Prop)
    (hg : evV f.tm og = some (.func 40 [] [.ptr (some (b1, 0))]))
    (h1 : ∃ c, h.get b1 = some (.cells c 27) ∧ c.size = 1 ∧ c.get 0 = lv) (hl : CapsV h S lv L) (hS : ∀ b, S b → b < h.n) (hlen : L.length ≤ 1000000)
    (hR : ∀ b, h.n ≤ b ∨ S b ∨ b = b1 → R b) (hW : ∀ b, h.n ≤ b ∨ W2 b → W b) (hK0 : K 0 h)
    (hkeep : ∀ p g g', K p g → g.n ≤ g'.n → (∀ b, b < g.n → b ≠ h.n → b ≠ h.n + 1 → g'.get b = g.get b) → K p g')
    (hE : ∀ e g g', E e g → g.n ≤ g'.n → (∀ b, b < g.n → b ≠ h.n → b ≠ h.n + 1 → g'.get b = g.get b) → E e g')
    (hKS : ∀ p g, K p g → h.n ≤ g.n ∧ ∀ b, S b → g.get b = h.get b)
    (ha : Vm.low ka = .ops [⟨some X, Op.alloc 40, none⟩, ⟨none, Op.store 40 (.tmp X) (.tmp P), none⟩]) (hb : Vm.low kb = cb)
    (hX : X ≠ P) (hPn : P < f.tm.n) (hXn : X < f.tm.n)
    (hround : ∀ (R' W' : Set') (Q' : Ex → Fr → Heap → Prop) (p : Nat) (c : Cp) (g2 : Heap) (sb : Blk) (x : Nat), (∀ b, R b → R' b) → (∀ b, h.n + 2 ≤ b → W' b) → (∀ b, W2 b → W' b) → L[p]? = some c → K p g2 → g2.n = x + 1 → h.n + 2 ≤ x → g2.get h.n = some (.deferred true) → (∃ o, g2.get (h.n + 1) = some (.loop o)) → g2.get x = some (.cells sb 40) → sb.size = 7 → sb.ro = false →
      sb.get 0 = .int .i64 c.id → sb.get 1 = .int .i64 c.par → sb.get 2 = .int .i64 c.ac → sb.get 3 = .int .i64 c.mr → sb.get 4 = .int .i64 c.kd → sb.get 5 = .int .i64 c.ob → sb.get 6 = .int .i64 c.rt →
      (∀ f2 h2, g2.n ≤ h2.n → h2.get h.n = g2.get h.n → h2.get (h.n + 1) = g2.get (h.n + 1) → K (p + 1) h2 → Q' .norm f2 h2) →
      (∀ e f2 h2, e ≠ .norm → g2.n ≤ h2.n → h2.get h.n = g2.get h.n → h2.get (h.n + 1) = g2.get (h.n + 1) → E e h2 → Q' e f2 h2) →
      GO ⟨Try.prog, true⟩ R' W' (some (h.n + 1)) Q' [.code cb] ⟨(f.tm.set P c.v).set X (.ptr (some (x, 0))), []⟩ g2)
    (hend : ∀ g, K L.length g → h.n + 2 ≤ g.n → g.get h.n = some (.deferred true) → GO ⟨Try.prog, true⟩ R W none Q t ⟨f.tm, h.n :: f.mks⟩ g)
    (hexit : ∀ e g, E e g → e ≠ .norm → h.n + 2 ≤ g.n → g.get h.n = some (.deferred true) → resume ⟨Try.prog, true⟩ R W none Q t e ⟨f.tm, h.n :: f.mks⟩ g) :
    GRange ⟨Try.prog, true⟩ R W none Q og #[P] ka kb t f h := by
  refine GRange.outer (k := 40) (xs := []) (ys := [.ptr (some (b1, 0))]) hg ca_40 ?_
  obtain ⟨h0, e0, n0, d0, l0, k0⟩ : ∃ h0, ((h.push (.deferred true)).push (.loop ⟨.ready, none, f.tm, [P], ka, kb, h.n⟩)) = h0 ∧ h0.n = h.n + 2 ∧ h0.get h.n = some (.deferred true) ∧ h0.get (h.n + 1) = some (.loop ⟨.ready, none, f.tm, [P], ka, kb, h.n⟩) ∧ ∀ b, b < h.n → h0.get b = h.get b :=
    ⟨_, rfl, by simp, by rw [w_push_ne (by simp), w_push_eq rfl], w_push_eq (by simp) _, fun b hb => by rw [w_push_ne (by simp; omega), w_push_ne (by omega)]⟩
  rw [e0]
  obtain ⟨c1, x1, x2, x3⟩ := h1
  have lb1 := Heap.lt_of_get x1
  refine SF.mono (SF.foot (seq40 (l := h.n + 1) (S := S) (Rr := R) (W := fun b => W2 b ∨ b = h.n + 1) (b1 := b1) (L := L) (lv := lv)
    (fun p g => h.n + 2 ≤ g.n ∧ g.get h.n = some (.deferred true) ∧ g.get (h.n + 1) = some (.loop ⟨.ready, none, f.tm, [P], ka, kb, h.n⟩) ∧ K p g)
    (fun g => h.n + 2 ≤ g.n ∧ g.get h.n = some (.deferred true) ∧ ∃ e : Ex, e ≠ .norm ∧ g.get (h.n + 1) = some (.loop ⟨.done, e.jump, f.tm, [P], ka, kb, h.n⟩) ∧ E e g)
    ⟨c1, by rw [k0 _ lb1]; exact x1, x2, x3⟩ (LRs.same hl fun b hb _ => k0 b (hS b hb)) (fun b hb => by have := hS b hb; omega) (hR _ (.inr (.inr rfl))) (fun b hb => hR b (.inr (.inl hb)))
    ⟨by omega, d0, l0, hkeep _ _ _ hK0 (by omega) fun b hb _ _ => k0 b hb⟩ (fun p g ⟨i1, i2, i3, i4⟩ => ⟨by omega, fun b hb => by rw [(hKS p g i4).2 b hb, k0 b (hS b hb)]⟩)
    (fun p g g' ⟨i1, i2, i3, i4⟩ j1 j2 => ⟨by omega, by rw [j2 _ (by omega)]; exact i2, by rw [j2 _ (by omega)]; exact i3, hkeep _ _ _ i4 j1 fun b hb _ _ => j2 b hb⟩) hlen ?_) (fun b hb => hb) (fun b hb => ?_)) ?_
  · rintro p c g hc ⟨i1, i2, i3, i4⟩
    refine SY.go hm i3 (.inr (hR _ (.inl (by omega)))) (.inr (.inr rfl)) (tm := f.tm.set P c.v) rfl ha hb ?_
    have hv : (f.tm.set P c.v).get P = some c.v := by rw [Tm.get_set _ _ _ _ hPn, if_pos rfl]
    have hxn : X < (f.tm.set P c.v).n := by rw [Tm.n_set]; exact hXn
    generalize hT : f.tm.set P c.v = T at hv hxn ⊢
    obtain ⟨id, par, ac, mk, kd, ob, rt⟩ := c
    simp only [Cp.v, Cp.l] at hv
    have hsX : ∀ v, (T.set X v).get X = some v := fun v => by rw [Tm.get_set _ _ _ _ hxn, if_pos rfl]
    have hsP : ∀ v, (T.set X v).get P = T.get P := fun v => Tm.get_set_ne _ _ _ _ (fun h => hX h.symm)
    simp -implicitDefEqProofs (disch := (first | omega | (simp -implicitDefEqProofs only [szs, ne_eq] <;> omega) | fail)) only [go_sem, Nat.reduceAdd, Nat.reduceSub, Nat.reduceMul, Nat.reduceLT, Nat.reduceMod, Nat.reduceDiv, Nat.reduceEqDiff, Nat.reduceBEq, Nat.reduceLeDiff, ↓reduceIte, reduceCtorEq, Int.reduceAdd, Int.reduceSub, Int.reduceLT, Int.reduceLE, Int.reduceBEq, Int.reduceEq, Int.reduceToNat, hsX, hsP, hv]
    refine ⟨.inl (by omega), _, i3, rfl, ?_⟩
    obtain ⟨g2, e2, n2, ⟨sb, s0, s1, s2, y0, y1, y2, y3, y4, y5, y6⟩, k2⟩ := stC g ⟨id, par, ac, mk, kd, ob, rt⟩
    simp only [] at e2
    rw [e2, ← hT]
    have hk2 : ∀ b, b ≠ h.n + 1 → (g2.set (h.n + 1) (O.loop ⟨.busy, none, f.tm, [P], ka, kb, h.n⟩)).get b = g2.get b := fun b hb => w_set_ne (by omega) hb _
    have jn : ∀ e : Ex, e ≠ .norm → e.jump.isNone = false := fun e he => by cases e <;> first | exact absurd rfl he | rfl
    refine hround _ _ _ p _ _ sb g.n (fun b hb => .inr hb) (fun b hb => .inl (by omega)) (fun b hb => .inr (.inl hb)) hc (hkeep p g _ i4 (by first | omega | (rw [Heap.n_set]; omega)) fun b h1 h2 h3 => by rw [w_set_ne (by omega) h3, k2 b h1]) (by rw [Heap.n_set]; exact n2) i1 (by rw [w_set_ne (by omega) (by omega), k2 _ (by omega)]; exact i2) ⟨_, w_set_eq (by omega) rfl _⟩ (by rw [w_set_ne (by omega) (by omega)]; exact s0) s1 s2 y0 y1 y2 y3 y4 y5 y6 (fun f2 h2 m1 m2 m3 m4 => ?_) (fun e f2 h2 m0 m1 m2 m3 m4 => ?_)
    · rw [Heap.n_set] at m1
      rw [w_set_eq (by omega) rfl] at m3
      rw [w_set_ne (by omega) (by omega), k2 _ (by omega), i2] at m2
      refine ⟨_, m3, .inl ⟨rfl, by first | omega | (rw [Heap.n_set]; omega), by rw [w_set_ne (by omega) (by omega)]; exact m2, w_set_eq (by omega) rfl _, hkeep _ _ _ m4 (by first | omega | (rw [Heap.n_set]; omega)) fun b _ _ h3 => w_set_ne (by omega) h3 _⟩⟩
    · rw [Heap.n_set] at m1
      rw [w_set_eq (by omega) rfl] at m3
      rw [w_set_ne (by omega) (by omega), k2 _ (by omega), i2] at m2
      have hj := jn e m0
      refine ⟨_, m3, .inr ⟨by rw [hj], by first | omega | (rw [Heap.n_set]; omega), by rw [w_set_ne (by omega) (by omega)]; exact m2, e, m0, by rw [w_set_eq (by omega) rfl, hj]; rfl, hE _ _ _ m4 (by first | omega | (rw [Heap.n_set]; omega)) fun b _ _ h3 => w_set_ne (by omega) h3 _⟩⟩
  · rcases hb with hb | rfl
    · exact hW b (.inr hb)
    · exact hW _ (.inl (by omega))
  · rintro v g (⟨i1, i2, i3, i4⟩ | ⟨i1, i2, e, he, i3, i4⟩)
    · refine ⟨_, i3, by simp, hW _ (.inl (by omega)), ?_⟩
      exact hend _ (hkeep _ _ _ i4 (by first | omega | (rw [Heap.n_set]; omega)) fun b _ _ h3 => w_set_ne (by omega) h3 _) (by first | omega | (rw [Heap.n_set]; omega)) (by rw [w_set_ne (by omega) (by omega)]; exact i2)
    · refine ⟨_, i3, by simp, hW _ (.inl (by omega)), ?_⟩
      have hx := hexit e _ (hE _ _ (g.set (h.n + 1) (.loop ⟨.exhausted, e.jump, f.tm, [P], ka, kb, h.n⟩)) i4 (by first | omega | (rw [Heap.n_set]; omega)) fun b _ _ h3 => w_set_ne (by omega) h3 _) he (by first | omega | (rw [Heap.n_set]; omega)) (by rw [w_set_ne (by omega) (by omega)]; exact i2)
      cases e with
      | norm => exact absurd rfl he
      | ret => rw [resume_ret] at hx; exact hx
      | exit id => exact hx
set_option maxHeartbeats 1000000 in
theorem below_ok {h : Heap} {R W : Set'} {tb r : Nat} {T : CS} (ht : CapAt h tb r T) (w : WF T) (hR : ∀ b, R b) (hWr : W r) (id : Int) :
    SF Try.prog 42 [.ptr (some (tb, 0)), .int .i64 id] h R W fun v h' => v = .int .i64 ((T.L.length : Int) - (gone T.L id).length) ∧ CapAt h' tb r ⟨gone T.L id, T.last⟩ := by
  obtain ⟨l1, l2, l3⟩ := ht.lt
  have hwl := w.last
  have hwn := w.len
  refine SF.go hm Try.func42 ir42_eq ?_
  simp -implicitDefEqProofs (disch := (first | omega | (simp -implicitDefEqProofs only [szs, ne_eq] <;> omega) | fail)) only [go_sem, Nat.reduceAdd, Nat.reduceSub, Nat.reduceMul, Nat.reduceLT, Nat.reduceMod, Nat.reduceDiv, Nat.reduceEqDiff, Nat.reduceBEq, Nat.reduceLeDiff, ↓reduceIte, reduceCtorEq, Int.reduceAdd, Int.reduceSub, Int.reduceLT, Int.reduceLE, Int.reduceBEq, Int.reduceEq, Int.reduceToNat, ir42]
  obtain ⟨g, eg, gn, hold, b1, b2, b3⟩ : ∃ g, (((((h.push (O.cells (Blk.of [V.ptr (some (tb, 0))]) 24)).push (O.cells (Blk.of [V.int IntKind.i64 0]) 3)).set
                  (h.n + 1) (O.cells ((Blk.of [V.int IntKind.i64 0]).set 0 (V.int IntKind.i64 0)) 3)).push
              (O.cells (Blk.of [V.nilFunc]) 90)).set
          (h.n + 1 + 1)
          (O.cells
            ((Blk.of [V.nilFunc]).set 0
              (V.func 55 [] [V.ptr (some (h.n, 0)), V.ptr (some (h.n + 1, 0)), V.ptr (some (h.n + 1 + 1, 0))]))
            90)) = g ∧ g.n = h.n + 3 ∧ (∀ b, b < h.n → g.get b = h.get b) ∧ g.get h.n = some (O.cells (Blk.of [V.ptr (some (tb, 0))]) 24) ∧ g.get (h.n + 1) = some (O.cells ((Blk.of [V.int IntKind.i64 0]).set 0 (V.int IntKind.i64 0)) 3) ∧ g.get (h.n + 1 + 1) = some (O.cells
            ((Blk.of [V.nilFunc]).set 0
              (V.func 55 [] [V.ptr (some (h.n, 0)), V.ptr (some (h.n + 1, 0)), V.ptr (some (h.n + 1 + 1, 0))]))
            90) := ⟨_, rfl, by simp, fun b hb => by simp -implicitDefEqProofs (disch := (first | omega | (simp -implicitDefEqProofs only [szs, ne_eq] <;> omega) | fail)) only [go_sem, Nat.reduceAdd, Nat.reduceSub, Nat.reduceMul, Nat.reduceLT, Nat.reduceMod, Nat.reduceDiv, Nat.reduceEqDiff, Nat.reduceBEq, Nat.reduceLeDiff, ↓reduceIte, reduceCtorEq, Int.reduceAdd, Int.reduceSub, Int.reduceLT, Int.reduceLE, Int.reduceBEq, Int.reduceEq, Int.reduceToNat], by simp -implicitDefEqProofs (disch := (first | omega | (simp -implicitDefEqProofs only [szs, ne_eq] <;> omega) | fail)) only [go_sem, Nat.reduceAdd, Nat.reduceSub, Nat.reduceMul, Nat.reduceLT, Nat.reduceMod, Nat.reduceDiv, Nat.reduceEqDiff, Nat.reduceBEq, Nat.reduceLeDiff, ↓reduceIte, reduceCtorEq, Int.reduceAdd, Int.reduceSub, Int.reduceLT, Int.reduceLE, Int.reduceBEq, Int.reduceEq, Int.reduceToNat], by simp -implicitDefEqProofs (disch := (first | omega | (simp -implicitDefEqProofs only [szs, ne_eq] <;> omega) | fail)) only [go_sem, Nat.reduceAdd, Nat.reduceSub, Nat.reduceMul, Nat.reduceLT, Nat.reduceMod, Nat.reduceDiv, Nat.reduceEqDiff, Nat.reduceBEq, Nat.reduceLeDiff, ↓reduceIte, reduceCtorEq, Int.reduceAdd, Int.reduceSub, Int.reduceLT, Int.reduceLE, Int.reduceBEq, Int.reduceEq, Int.reduceToNat], by simp -implicitDefEqProofs (disch := (first | omega | (simp -implicitDefEqProofs only [szs, ne_eq] <;> omega) | fail)) only [go_sem, Nat.reduceAdd, Nat.reduceSub, Nat.reduceMul, Nat.reduceLT, Nat.reduceMod, Nat.reduceDiv, Nat.reduceEqDiff, Nat.reduceBEq, Nat.reduceLeDiff, ↓reduceIte, reduceCtorEq, Int.reduceAdd, Int.reduceSub, Int.reduceLT, Int.reduceLE, Int.reduceBEq, Int.reduceEq, Int.reduceToNat]⟩
  rw [eg]
  clear eg
  refine ⟨.inl (by omega), .inl (by omega), ?_⟩
  refine GCall.of ((go1_ok (R := fun b => h.n ≤ b ∨ R b) (W := fun b => h.n ≤ b ∨ W b) (T.L.length + 1) (n := 0) (Nat.lt_succ_of_le (List.length_filter_le _ _)) (ht.old hold) w ⟨⟨_, b1, rfl, rfl⟩, ⟨_, b2, rfl, rfl, w_bset_eq rfl _⟩, ⟨_, b3, rfl, w_bset_eq rfl _⟩⟩ ⟨by omega, by omega⟩ (fun b => .inr (hR b)) (.inr hWr) (.inl (by omega)))) ?_
  rintro v g' ⟨ht', hB⟩
  obtain ⟨c, q1, q2, q3, q4⟩ := hB.n
  have hlt := Heap.lt_of_get q1
  rw [Int.zero_add] at q4
  simp -implicitDefEqProofs (disch := (first | omega | (simp -implicitDefEqProofs only [szs, ne_eq] <;> omega) | fail)) only [go_sem, Nat.reduceAdd, Nat.reduceSub, Nat.reduceMul, Nat.reduceLT, Nat.reduceMod, Nat.reduceDiv, Nat.reduceEqDiff, Nat.reduceBEq, Nat.reduceLeDiff, ↓reduceIte, reduceCtorEq, Int.reduceAdd, Int.reduceSub, Int.reduceLT, Int.reduceLE, Int.reduceBEq, Int.reduceEq, Int.reduceToNat, q1, q2, q4]
  exact ht'
def ownE (T : CS) (a id : Int) : Int := mineE T a id
noncomputable def revT (T : CS) (a id : Int) : CS := if mineE T a id = 0 then ⟨gone T.L id, T.last⟩ else T
noncomputable def revN (T : CS) (a id : Int) : Int := if mineE T a id = 0 then (T.L.length : Int) - (gone T.L id).length else 0
noncomputable def dropT (T : CS) (a id : Int) : CS := if mineE T a id = 0 then ⟨(gone T.L id).filter fun c => decide (c.id ≠ id), T.last⟩ else T
noncomputable def dropN (T : CS) (a id : Int) : Int := if mineE T a id = 0 then (T.L.length : Int) - (gone T.L id).length + 1 else 0
set_option maxHeartbeats 1000000 in
theorem revoke_ok {h : Heap} {R W : Set'} {tb r : Nat} {T : CS} (ht : CapAt h tb r T) (w : WF T) (hR : ∀ b, R b) (hWr : W r) (a id : Int) :
    SF Try.prog 18 [.ptr (some (tb, 0)), .int .i64 a, .int .i64 id] h R W fun v h' => v = .tuple [.int .i64 (revN T a id), .int .i64 (mineE T a id)] ∧ CapAt h' tb r (revT T a id) := by
  obtain ⟨l1, l2, l3⟩ := ht.lt
  refine SF.go hm Try.func18 ir18_eq ?_
  simp -implicitDefEqProofs (disch := (first | omega | (simp -implicitDefEqProofs only [szs, ne_eq] <;> omega) | fail)) only [go_sem, Nat.reduceAdd, Nat.reduceSub, Nat.reduceMul, Nat.reduceLT, Nat.reduceMod, Nat.reduceDiv, Nat.reduceEqDiff, Nat.reduceBEq, Nat.reduceLeDiff, ↓reduceIte, reduceCtorEq, Int.reduceAdd, Int.reduceSub, Int.reduceLT, Int.reduceLE, Int.reduceBEq, Int.reduceEq, Int.reduceToNat, ir18]
  refine GCall.of (mine_ok ht (fun b hb => .inr (hR b)) a id) ?_
  rintro v h2 ⟨rfl, n2, k2⟩
  have ht2 := ht.old k2
  obtain ⟨h3, e3, n3, ⟨sb, s0, s1, _, _, _, _, _, s6, s7, s8⟩, k3⟩ := stC h2 (mineC T a id)
  have ht3 := ht2.old k3
  by_cases he : mineE T a id = 0
  · rw [revN, revT, if_pos he, if_pos he]
    simp -implicitDefEqProofs (disch := (first | omega | (simp -implicitDefEqProofs only [szs, ne_eq] <;> omega) | fail)) only [go_sem, Nat.reduceAdd, Nat.reduceSub, Nat.reduceMul, Nat.reduceLT, Nat.reduceMod, Nat.reduceDiv, Nat.reduceEqDiff, Nat.reduceBEq, Nat.reduceLeDiff, ↓reduceIte, reduceCtorEq, Int.reduceAdd, Int.reduceSub, Int.reduceLT, Int.reduceLE, Int.reduceBEq, Int.reduceEq, Int.reduceToNat, Cp.v, Cp.l, e3, he]
    refine ⟨.inl (by omega), GCall.of (below_ok ht3 w (fun b => .inr (hR b)) (.inr hWr) id) ?_⟩
    rintro v h4 ⟨rfl, ht4⟩
    simp -implicitDefEqProofs (disch := (first | omega | (simp -implicitDefEqProofs only [szs, ne_eq] <;> omega) | fail)) only [go_sem, Nat.reduceAdd, Nat.reduceSub, Nat.reduceMul, Nat.reduceLT, Nat.reduceMod, Nat.reduceDiv, Nat.reduceEqDiff, Nat.reduceBEq, Nat.reduceLeDiff, ↓reduceIte, reduceCtorEq, Int.reduceAdd, Int.reduceSub, Int.reduceLT, Int.reduceLE, Int.reduceBEq, Int.reduceEq, Int.reduceToNat]
    exact ht4
  · rw [revN, revT, if_neg he, if_neg he]
    have hne : (mineE T a id != 0) = true := by simpa using he
    simp -implicitDefEqProofs (disch := (first | omega | (simp -implicitDefEqProofs only [szs, ne_eq] <;> omega) | fail)) only [go_sem, Nat.reduceAdd, Nat.reduceSub, Nat.reduceMul, Nat.reduceLT, Nat.reduceMod, Nat.reduceDiv, Nat.reduceEqDiff, Nat.reduceBEq, Nat.reduceLeDiff, ↓reduceIte, reduceCtorEq, Int.reduceAdd, Int.reduceSub, Int.reduceLT, Int.reduceLE, Int.reduceBEq, Int.reduceEq, Int.reduceToNat, Cp.v, Cp.l, e3, hne]
    exact ⟨.inl (by omega), ht3⟩
set_option maxHeartbeats 1000000 in
theorem drop_ok {h : Heap} {R W : Set'} {tb r : Nat} {T : CS} (ht : CapAt h tb r T) (w : WF T) (hR : ∀ b, R b) (hWr : W r) (a id : Int) :
    SF Try.prog 19 [.ptr (some (tb, 0)), .int .i64 a, .int .i64 id] h R W fun v h' => v = .tuple [.int .i64 (dropN T a id), .int .i64 (mineE T a id)] ∧ CapAt h' tb r (dropT T a id) := by
  obtain ⟨l1, l2, l3⟩ := ht.lt
  have hwl := w.last
  have hwn := w.len
  have r1 := hR tb
  have r2 := hR r
  refine SF.go hm Try.func19 ir19_eq ?_
  simp -implicitDefEqProofs (disch := (first | omega | (simp -implicitDefEqProofs only [szs, ne_eq] <;> omega) | fail)) only [go_sem, Nat.reduceAdd, Nat.reduceSub, Nat.reduceMul, Nat.reduceLT, Nat.reduceMod, Nat.reduceDiv, Nat.reduceEqDiff, Nat.reduceBEq, Nat.reduceLeDiff, ↓reduceIte, reduceCtorEq, Int.reduceAdd, Int.reduceSub, Int.reduceLT, Int.reduceLE, Int.reduceBEq, Int.reduceEq, Int.reduceToNat, ir19]
  refine GCall.of (mine_ok ht (fun b hb => .inr (hR b)) a id) ?_
  rintro v h2 ⟨rfl, n2, k2⟩
  have ht2 := ht.old k2
  obtain ⟨h3, e3, n3, ⟨sb, s0, s1, _, _, _, _, _, s6, s7, s8⟩, k3⟩ := stC h2 (mineC T a id)
  have ht3 := ht2.old k3
  by_cases he : mineE T a id = 0
  · rw [dropN, dropT, if_pos he, if_pos he]
    simp -implicitDefEqProofs (disch := (first | omega | (simp -implicitDefEqProofs only [szs, ne_eq] <;> omega) | fail)) only [go_sem, Nat.reduceAdd, Nat.reduceSub, Nat.reduceMul, Nat.reduceLT, Nat.reduceMod, Nat.reduceDiv, Nat.reduceEqDiff, Nat.reduceBEq, Nat.reduceLeDiff, ↓reduceIte, reduceCtorEq, Int.reduceAdd, Int.reduceSub, Int.reduceLT, Int.reduceLE, Int.reduceBEq, Int.reduceEq, Int.reduceToNat, Cp.v, Cp.l, e3, he]
    refine ⟨.inl (by omega), GCall.of (below_ok ht3 w (fun b => .inr (hR b)) (.inr hWr) id) ?_⟩
    rintro v h4 ⟨rfl, ht4⟩
    have hlg := gone_len T.L id
    obtain ⟨es2, ck2, v1, v2, v3⟩ := ht4.m
    obtain ⟨ct, t1, t2, t3, t4, t5⟩ := ht4.t
    obtain ⟨l4, l5, l6⟩ := ht4.lt
    obtain ⟨es3, hdel, d1, d2, d3⟩ := del_int (P := Try.prog) (t := 59) Try.underlying59 Try.underlying2 v1 v2 id
    simp -implicitDefEqProofs (disch := (first | omega | (simp -implicitDefEqProofs only [szs, ne_eq] <;> omega) | fail)) only [go_sem, Nat.reduceAdd, Nat.reduceSub, Nat.reduceMul, Nat.reduceLT, Nat.reduceMod, Nat.reduceDiv, Nat.reduceEqDiff, Nat.reduceBEq, Nat.reduceLeDiff, ↓reduceIte, reduceCtorEq, Int.reduceAdd, Int.reduceSub, Int.reduceLT, Int.reduceLE, Int.reduceBEq, Int.reduceEq, Int.reduceToNat, t1, t2, t4, r1, r2, hdel, hWr, undefV]
    exact ht4.del (w.gone id) (w_set_ne l5 l6 _) (w_set_eq l5 rfl _) d1 (fun es ck he x => by rw [v1] at he; cases he; exact d2 x)
  · rw [dropN, dropT, if_neg he, if_neg he]
    have hne : (mineE T a id != 0) = true := by simpa using he
    simp -implicitDefEqProofs (disch := (first | omega | (simp -implicitDefEqProofs only [szs, ne_eq] <;> omega) | fail)) only [go_sem, Nat.reduceAdd, Nat.reduceSub, Nat.reduceMul, Nat.reduceLT, Nat.reduceMod, Nat.reduceDiv, Nat.reduceEqDiff, Nat.reduceBEq, Nat.reduceLeDiff, ↓reduceIte, reduceCtorEq, Int.reduceAdd, Int.reduceSub, Int.reduceLT, Int.reduceLE, Int.reduceBEq, Int.reduceEq, Int.reduceToNat, Cp.v, Cp.l, e3, hne]
    exact ⟨.inl (by omega), ht3⟩
end Go.Proofs.Ytehgjkopobkbmaa
