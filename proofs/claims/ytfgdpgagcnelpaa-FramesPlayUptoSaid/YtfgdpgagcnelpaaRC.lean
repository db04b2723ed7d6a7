/- Going over a pool's frames, with breaks. -/
import Derived.Test.YtfgdpgagcnelpaaRB
set_option linter.unusedVariables false
set_option linter.unusedSimpArgs false
set_option linter.unusedSimpArgs false
set_option maxRecDepth 100000
set_option linter.unusedVariables false
set_option linter.unusedSimpArgs false
namespace Go.Proofs.Ytfgdpgagcnelpaa
open Go Go.Vm
theorem seq54b {ha h : Heap} {b3 l : Nat} {F : List V} {nn : Nat} {W : Set'} (I : Nat → Heap → Prop) (J : Heap → Prop) (hF : nn * 3 = F.length) (hbig : nn ≤ 65536) (hone : ∀ i, i < F.length → ∃ k n, F.getD i undefV = .int k n) (hg : GatherAt ha b3 F) (hI0 : I 0 h)
    (hkeep : ∀ j g g', I j g → g.n ≤ g'.n → (∀ b, b < g.n → g'.get b = g.get b) → I j g')
    (hfix : ∀ j g, I j g → ha.n ≤ g.n ∧ h.n ≤ g.n ∧ ∀ b, b3 ≤ b → b < ha.n → g.get b = ha.get b)
    (hround : ∀ j g, j < nn → I j g → SY ⟨Try.prog, true⟩ l [.agg ((F.drop (j * 3)).take 3)] g (fun _ => True) (fun b => h.n ≤ b ∨ W b) (fun v g' => v = .bool true ∧ I (j + 1) g' ∨ v = .bool false ∧ J g')) :
    SF ⟨Try.prog, true⟩ 54 [.yield l, .ptr (some (b3, 0))] h (fun _ => True) W fun _ g => I nn g ∨ J g := by
  refine SF.go hm Try.func54 ir54_eq ?_
  obtain ⟨hx1, _, hx2⟩ := hfix 0 h hI0
  have hb3 : b3 < ha.n := by
    rcases hg with ⟨_, e⟩ | ⟨_, _, _, e, _⟩ <;> exact Heap.lt_of_get e
  have hgb := hx2 b3 (Nat.le_refl _) hb3
  have hsl : ∃ sv : V, (∃ c : Blk, ha.get b3 = some (.cells c 93) ∧ 1 ≤ c.size ∧ c.get 0 = sv) ∧ lenV Try.prog 93 sv h = some (nn, []) ∧ (0 < nn → ∃ nb, sv = .slice (some (nb, 0)) nn nn false ∧ ha.get nb = some (.cells (Blk.of F) 46) ∧ b3 < nb) := by
    rcases hg with ⟨rfl, e⟩ | ⟨nb, n, c, e, hs, _, hc, hn, h0, hnb, _, hlt⟩
    · have : nn = 0 := by simp at hF; omega
      subst this
      exact ⟨_, ⟨_, e, Nat.le_refl _, rfl⟩, by simp [lenV, Blk.get, Blk.of, layGet, Tr.get_nil], by omega⟩
    · have : n = nn := by omega
      subst this
      exact ⟨_, ⟨_, e, by omega, hc⟩, by simp [lenV], fun _ => ⟨nb, rfl, hnb, hlt⟩⟩
  obtain ⟨sv, ⟨c, e3, hs, hc⟩, hlen, hsv⟩ := hsl
  rw [e3] at hgb
  simp -implicitDefEqProofs (disch := (first | omega | (simp -implicitDefEqProofs only [szs, ne_eq] <;> omega) | fail)) only [go_sem, Nat.reduceAdd, Nat.reduceSub, Nat.reduceMul, Nat.reduceLT, Nat.reduceMod, Nat.reduceDiv, Nat.reduceEqDiff, Nat.reduceBEq, Nat.reduceLeDiff, ↓reduceIte, reduceCtorEq, Int.reduceAdd, Int.reduceSub, Int.reduceLT, Int.reduceLE, Int.reduceBEq, Int.reduceEq, Int.reduceToNat, ir54, hgb, hc, ↓hlen]
  refine GLoop.inv hm (fun k f g => f.mks = [] ∧ f.tm.n = 16 ∧ f.tm.get 0 = some (.yield l) ∧ f.tm.get 5 = some sv ∧ f.tm.get 6 = some (.int .i64 nn) ∧ ∃ j : Nat, j + k = nn ∧ f.tm.get 7 = some (.int .i64 j) ∧ I j g) nn ?_ ?_
  · exact ⟨rfl, rfl, rfl, rfl, rfl, 0, by omega, rfl, hI0⟩
  · rintro k ⟨⟨n, tr⟩, mks⟩ g ⟨hmk, hn, t0, t5, t6, j, hjk, t7, hI⟩
    simp only [Tm.get_mk] at hmk hn t0 t5 t6 t7
    subst hmk hn
    by_cases hj : j < nn
    · obtain ⟨nb, rfl, hnb, hlt⟩ := hsv (by omega)
      obtain ⟨hg1, hg2, hg3⟩ := hfix j g hI
      have hnb' : g.get nb = some (.cells (Blk.of F) 46) := by rw [hg3 nb (by omega) (Heap.lt_of_get hnb)]; exact hnb
      obtain ⟨x, y, z, hrow, rx, ry, rz⟩ := getD_row (F := F) (j := j) (by omega)
      have hr := hround j
      rw [hrow] at hr
      have ox : x.one = true := by obtain ⟨k, n, e⟩ := hone (j * 3) (by omega); rw [← Blk.get_of _ _ (by omega), rx] at e; rw [e]; rfl
      have oy : y.one = true := by obtain ⟨k, n, e⟩ := hone (j * 3 + 1) (by omega); rw [← Blk.get_of _ _ (by omega), ry] at e; rw [e]; rfl
      have oz : z.one = true := by obtain ⟨k, n, e⟩ := hone (j * 3 + 2) (by omega); rw [← Blk.get_of _ _ (by omega), rz] at e; rw [e]; rfl
      have hlt9 := Heap.lt_of_get hnb'
      simp -implicitDefEqProofs (disch := (first | omega | (simp -implicitDefEqProofs only [szs, ne_eq] <;> omega) | fail)) only [go_sem, Nat.reduceAdd, Nat.reduceSub, Nat.reduceMul, Nat.reduceLT, Nat.reduceMod, Nat.reduceDiv, Nat.reduceEqDiff, Nat.reduceBEq, Nat.reduceLeDiff, ↓reduceIte, reduceCtorEq, Int.reduceAdd, Int.reduceSub, Int.reduceLT, Int.reduceLE, Int.reduceBEq, Int.reduceEq, Int.reduceToNat, ir54_l0, t0, t5, t6, t7, hnb', rx, ry, rz, ↓ox, ↓oy, ↓oz, hg2]
      refine GYield.of (hr _ hj (hkeep j g _ hI (by simp) (fun b hb => by simp -implicitDefEqProofs (disch := (first | omega | (simp -implicitDefEqProofs only [szs, ne_eq] <;> omega) | fail)) only [go_sem, Nat.reduceAdd, Nat.reduceSub, Nat.reduceMul, Nat.reduceLT, Nat.reduceMod, Nat.reduceDiv, Nat.reduceEqDiff, Nat.reduceBEq, Nat.reduceLeDiff, ↓reduceIte, reduceCtorEq, Int.reduceAdd, Int.reduceSub, Int.reduceLT, Int.reduceLE, Int.reduceBEq, Int.reduceEq, Int.reduceToNat]))) ?_
      rintro v g' (⟨rfl, hI'⟩ | ⟨rfl, hJ⟩)
      · simp -implicitDefEqProofs (disch := (first | omega | (simp -implicitDefEqProofs only [szs, ne_eq] <;> omega) | fail)) only [go_sem, Nat.reduceAdd, Nat.reduceSub, Nat.reduceMul, Nat.reduceLT, Nat.reduceMod, Nat.reduceDiv, Nat.reduceEqDiff, Nat.reduceBEq, Nat.reduceLeDiff, ↓reduceIte, reduceCtorEq, Int.reduceAdd, Int.reduceSub, Int.reduceLT, Int.reduceLE, Int.reduceBEq, Int.reduceEq, Int.reduceToNat, t0, t5, t6, t7]
        exact ⟨k - 1, by omega, j + 1, by omega, by simp, hI'⟩
      · simp -implicitDefEqProofs (disch := (first | omega | (simp -implicitDefEqProofs only [szs, ne_eq] <;> omega) | fail)) only [go_sem, Nat.reduceAdd, Nat.reduceSub, Nat.reduceMul, Nat.reduceLT, Nat.reduceMod, Nat.reduceDiv, Nat.reduceEqDiff, Nat.reduceBEq, Nat.reduceLeDiff, ↓reduceIte, reduceCtorEq, Int.reduceAdd, Int.reduceSub, Int.reduceLT, Int.reduceLE, Int.reduceBEq, Int.reduceEq, Int.reduceToNat, t0, t5, t6, t7]
        exact .inr hJ
    · have : j = nn := by omega
      subst this
      simp -implicitDefEqProofs (disch := (first | omega | (simp -implicitDefEqProofs only [szs, ne_eq] <;> omega) | fail)) only [go_sem, Nat.reduceAdd, Nat.reduceSub, Nat.reduceMul, Nat.reduceLT, Nat.reduceMod, Nat.reduceDiv, Nat.reduceEqDiff, Nat.reduceBEq, Nat.reduceLeDiff, ↓reduceIte, reduceCtorEq, Int.reduceAdd, Int.reduceSub, Int.reduceLT, Int.reduceLE, Int.reduceBEq, Int.reduceEq, Int.reduceToNat, ir54_l0, t0, t5, t6, t7]
      exact .inl hI
theorem takeH_all {W : Set'} {K : Heap → Prop} : ∀ (mks : List Nat) (h : Heap), mks.Nodup → (∀ m ∈ mks, h.get m = some (.deferred true) ∧ W m) → (∀ h' : Heap, h'.n = h.n → (∀ b, b ∉ mks → h'.get b = h.get b) → K h') → takeH W mks h K
  | [], h, _, _, hk => hk h rfl fun _ _ => rfl
  | b :: r, h, hn, hm, hk => by
    obtain ⟨h1, h2⟩ := hm b (by simp)
    rw [List.nodup_cons] at hn
    unfold takeH
    rw [h1]
    refine ⟨h2, takeH_all r _ hn.2 (fun m hmr => ?_) fun h' e1 e2 => ?_⟩
    · have hne : m ≠ b := fun e => hn.1 (by rw [← e]; exact hmr)
      rw [w_set_ne (Heap.lt_of_get h1) hne]
      exact hm m (by simp [hmr])
    · refine hk h' (by rw [e1, Heap.n_set]) fun x hx => ?_
      simp only [List.mem_cons, not_or] at hx
      rw [e2 x hx.2, w_set_ne (Heap.lt_of_get h1) hx.1]
theorem fin_all {M : MP} {R W : Set'} {rs : List ResultVar} {Q : V → Heap → Prop} {tm : Tm} {mks : List Nat} {h : Heap} (hn : mks.Nodup) (hm : ∀ m ∈ mks, h.get m = some (.deferred true) ∧ W m) (hk : ∀ h' : Heap, h'.n = h.n → (∀ b, b ∉ mks → h'.get b = h.get b) → Vm.Fin M R W rs Q .ret ⟨tm, []⟩ h') : Vm.Fin M R W rs Q .ret ⟨tm, mks⟩ h := by
  unfold Vm.Fin
  refine takeH_all mks h hn hm fun h' e1 e2 => ?_
  have := hk h' e1 e2
  unfold Vm.Fin takeH at this
  exact this
set_option maxHeartbeats 1000000 in
theorem range54 {R W : Set'} {Q : Ex → Fr → Heap → Prop} {og : Operand} {ka kb : Code} {cb : LC} {t : List It} {f : Fr} {hA h : Heap} {b1 : Nat} {S : PS} {xs : List Nat} {X P : Nat} (W2 : Set') (K : Nat → Heap → Prop) (E : Ex → Heap → Prop)
    (hg : evV f.tm og = some (.func 54 [] [.ptr (some (b1, 0))]))
    (hG : GatherAt hA b1 (xs.flatMap (rowOf S))) (hhn : hA.n ≤ h.n) (hho : ∀ b, b1 ≤ b → b < hA.n → h.get b = hA.get b) (hlen : xs.length ≤ 256)
    (hR : ∀ b, R b) (hW : ∀ b, h.n ≤ b ∨ W2 b → W b) (hK0 : K 0 h)
    (hkeep : ∀ p g g', K p g → g.n ≤ g'.n → (∀ b, b < g.n → b ≠ h.n → b ≠ h.n + 1 → g'.get b = g.get b) → K p g')
    (hE : ∀ e g g', E e g → g.n ≤ g'.n → (∀ b, b < g.n → b ≠ h.n → b ≠ h.n + 1 → g'.get b = g.get b) → E e g')
    (hKS : ∀ p g, K p g → h.n ≤ g.n ∧ ∀ b, b1 ≤ b → b < hA.n → g.get b = hA.get b)
    (ha : Vm.low ka = .ops [⟨some X, Op.alloc 46, none⟩, ⟨none, Op.store 46 (.tmp X) (.tmp P), none⟩]) (hb : Vm.low kb = cb)
    (hX : X ≠ P) (hPn : P < f.tm.n) (hXn : X < f.tm.n)
    (hround : ∀ (R' W' : Set') (Q' : Ex → Fr → Heap → Prop) (p : Nat) (c : Nat) (g2 : Heap) (sb : Blk) (x : Nat), (∀ b, R b → R' b) → (∀ b, h.n + 2 ≤ b → W' b) → (∀ b, W2 b → W' b) → xs[p]? = some c → K p g2 → g2.n = x + 1 → h.n + 2 ≤ x → g2.get h.n = some (.deferred true) → (∃ o, g2.get (h.n + 1) = some (.loop o)) → g2.get x = some (.cells sb 46) → sb.size = 3 →
      sb.get 0 = .int .i64 c → sb.get 1 = .int .i64 (S.ow c) → sb.get 2 = .int .i64 (S.ho c) →
      (∀ f2 h2, g2.n ≤ h2.n → h2.get h.n = g2.get h.n → h2.get (h.n + 1) = g2.get (h.n + 1) → K (p + 1) h2 → Q' .norm f2 h2) →
      (∀ e f2 h2, e ≠ .norm → g2.n ≤ h2.n → h2.get h.n = g2.get h.n → h2.get (h.n + 1) = g2.get (h.n + 1) → E e h2 → Q' e f2 h2) →
      GO ⟨Try.prog, true⟩ R' W' (some (h.n + 1)) Q' [.code cb] ⟨(f.tm.set P (.agg (rowOf S c))).set X (.ptr (some (x, 0))), []⟩ g2)
    (hend : ∀ g, K xs.length g → h.n + 2 ≤ g.n → g.get h.n = some (.deferred true) → GO ⟨Try.prog, true⟩ R W none Q t ⟨f.tm, h.n :: f.mks⟩ g)
    (hexit : ∀ e g, E e g → e ≠ .norm → h.n + 2 ≤ g.n → g.get h.n = some (.deferred true) → resume ⟨Try.prog, true⟩ R W none Q t e ⟨f.tm, h.n :: f.mks⟩ g) :
    GRange ⟨Try.prog, true⟩ R W none Q og #[P] ka kb t f h := by
  refine GRange.outer (k := 54) (xs := []) (ys := [.ptr (some (b1, 0))]) hg ca_54 ?_
  obtain ⟨h0, e0, n0, d0, l0, k0⟩ : ∃ h0, ((h.push (.deferred true)).push (.loop ⟨.ready, none, f.tm, [P], ka, kb, h.n⟩)) = h0 ∧ h0.n = h.n + 2 ∧ h0.get h.n = some (.deferred true) ∧ h0.get (h.n + 1) = some (.loop ⟨.ready, none, f.tm, [P], ka, kb, h.n⟩) ∧ ∀ b, b < h.n → h0.get b = h.get b :=
    ⟨_, rfl, by simp, by rw [w_push_ne (by simp), w_push_eq rfl], w_push_eq (by simp) _, fun b hb => by rw [w_push_ne (by simp; omega), w_push_ne (by omega)]⟩
  rw [e0]
  have lb1 : b1 < hA.n := by rcases hG with ⟨_, e⟩ | ⟨_, _, _, e, _⟩ <;> exact Heap.lt_of_get e
  have hL3 : xs.length * 3 = (xs.flatMap (rowOf S)).length := (flat_len (rowOf S) (fun x => rfl) xs).symm
  refine SF.mono (SF.foot (seq54b (ha := hA) (h := h0) (b3 := b1) (l := h.n + 1) (F := xs.flatMap (rowOf S)) (nn := xs.length) (W := fun b => W2 b ∨ b = h.n + 1)
    (fun p g => h.n + 2 ≤ g.n ∧ g.get h.n = some (.deferred true) ∧ g.get (h.n + 1) = some (.loop ⟨.ready, none, f.tm, [P], ka, kb, h.n⟩) ∧ K p g)
    (fun g => h.n + 2 ≤ g.n ∧ g.get h.n = some (.deferred true) ∧ ∃ e : Ex, e ≠ .norm ∧ g.get (h.n + 1) = some (.loop ⟨.done, e.jump, f.tm, [P], ka, kb, h.n⟩) ∧ E e g)
    hL3 (by omega) (flat_int S xs) hG
    ⟨by omega, d0, l0, hkeep _ _ _ hK0 (by omega) fun b hb _ _ => k0 b hb⟩
    (fun p g g' ⟨i1, i2, i3, i4⟩ j1 j2 => ⟨by omega, by rw [j2 _ (by omega)]; exact i2, by rw [j2 _ (by omega)]; exact i3, hkeep _ _ _ i4 j1 fun b hb _ _ => j2 b hb⟩)
    (fun p g ⟨i1, i2, i3, i4⟩ => ⟨by omega, by omega, (hKS p g i4).2⟩) ?_) (fun b _ => hR b) (fun b hb => ?_)) ?_
  · rintro p g hp ⟨i1, i2, i3, i4⟩
    have hc : xs[p]? = some xs[p] := List.getElem?_eq_getElem hp
    generalize xs[p] = c at hc
    rw [flat_row _ (fun x => rfl) _ _ _ hc]
    refine SY.go hm i3 trivial (.inr (.inr rfl)) (tm := f.tm.set P (.agg (rowOf S c))) rfl ha hb ?_
    have hv : (f.tm.set P (.agg (rowOf S c))).get P = some (.agg (rowOf S c)) := by rw [Tm.get_set _ _ _ _ hPn, if_pos rfl]
    have hxn : X < (f.tm.set P (.agg (rowOf S c))).n := by rw [Tm.n_set]; exact hXn
    generalize hT : f.tm.set P (.agg (rowOf S c)) = T at hv hxn ⊢
    simp only [rowOf, rowF] at hv
    have hsX : ∀ v, (T.set X v).get X = some v := fun v => by rw [Tm.get_set _ _ _ _ hxn, if_pos rfl]
    have hsP : ∀ v, (T.set X v).get P = T.get P := fun v => Tm.get_set_ne _ _ _ _ (fun h => hX h.symm)
    simp -implicitDefEqProofs (disch := (first | omega | (simp -implicitDefEqProofs only [szs, ne_eq] <;> omega) | fail)) only [go_sem, Nat.reduceAdd, Nat.reduceSub, Nat.reduceMul, Nat.reduceLT, Nat.reduceMod, Nat.reduceDiv, Nat.reduceEqDiff, Nat.reduceBEq, Nat.reduceLeDiff, ↓reduceIte, reduceCtorEq, Int.reduceAdd, Int.reduceSub, Int.reduceLT, Int.reduceLE, Int.reduceBEq, Int.reduceEq, Int.reduceToNat, hsX, hsP, hv]
    refine ⟨.inl (by omega), _, i3, rfl, ?_⟩
    obtain ⟨g2, e2, n2, ⟨sb, s0, s1, y0, y1, y2⟩, k2⟩ := stF g c (S.ow c) (S.ho c)
    rw [e2, ← hT]
    have hk2 : ∀ b, b ≠ h.n + 1 → (g2.set (h.n + 1) (O.loop ⟨.busy, none, f.tm, [P], ka, kb, h.n⟩)).get b = g2.get b := fun b hb => w_set_ne (by omega) hb _
    have jn : ∀ e : Ex, e ≠ .norm → e.jump.isNone = false := fun e he => by cases e <;> first | exact absurd rfl he | rfl
    refine hround _ _ _ p _ _ sb g.n (fun b _ => trivial) (fun b hb => .inl (by omega)) (fun b hb => .inr (.inl hb)) hc (hkeep p g _ i4 (by first | omega | (rw [Heap.n_set]; omega)) fun b h1 h2 h3 => by rw [w_set_ne (by omega) h3, k2 b h1]) (by rw [Heap.n_set]; exact n2) i1 (by rw [w_set_ne (by omega) (by omega), k2 _ (by omega)]; exact i2) ⟨_, w_set_eq (by omega) rfl _⟩ (by rw [w_set_ne (by omega) (by omega)]; exact s0) s1 y0 y1 y2 (fun f2 h2 m1 m2 m3 m4 => ?_) (fun e f2 h2 m0 m1 m2 m3 m4 => ?_)
    · rw [Heap.n_set] at m1
      rw [w_set_eq (by omega) rfl] at m3
      rw [w_set_ne (by omega) (by omega), k2 _ (by omega), i2] at m2
      refine ⟨_, m3, .inl ⟨rfl, by first | omega | (rw [Heap.n_set]; omega), by rw [w_set_ne (by omega) (by omega)]; exact m2, w_set_eq (by omega) rfl _, hkeep _ _ _ m4 (by first | omega | (rw [Heap.n_set]; omega)) fun b _ _ h3 => w_set_ne (by omega) h3 _⟩⟩
    · rw [Heap.n_set] at m1
      rw [w_set_eq (by omega) rfl] at m3
      rw [w_set_ne (by omega) (by omega), k2 _ (by omega), i2] at m2
      have hj := jn e m0
      refine ⟨_, m3, .inr ⟨by rw [hj], by first | omega | (rw [Heap.n_set]; omega), by rw [w_set_ne (by omega) (by omega)]; exact m2, e, m0, by rw [w_set_eq (by omega) rfl, hj]; rfl, hE _ _ _ m4 (by first | omega | (rw [Heap.n_set]; omega)) fun b _ _ h3 => w_set_ne (by omega) h3 _⟩⟩
  · rcases hb with hb | rfl
    · exact hW b (.inr hb)
    · exact hW _ (.inl (by omega))
  · rintro v g (⟨i1, i2, i3, i4⟩ | ⟨i1, i2, e, he, i3, i4⟩)
    · refine ⟨_, i3, by simp, hW _ (.inl (by omega)), ?_⟩
      exact hend _ (hkeep _ _ _ i4 (by first | omega | (rw [Heap.n_set]; omega)) fun b _ _ h3 => w_set_ne (by omega) h3 _) (by first | omega | (rw [Heap.n_set]; omega)) (by rw [w_set_ne (by omega) (by omega)]; exact i2)
    · refine ⟨_, i3, by simp, hW _ (.inl (by omega)), ?_⟩
      have hx := hexit e _ (hE _ _ (g.set (h.n + 1) (.loop ⟨.exhausted, e.jump, f.tm, [P], ka, kb, h.n⟩)) i4 (by first | omega | (rw [Heap.n_set]; omega)) fun b _ _ h3 => w_set_ne (by omega) h3 _) he (by first | omega | (rw [Heap.n_set]; omega)) (by rw [w_set_ne (by omega) (by omega)]; exact i2)
      cases e with
      | norm => exact absurd rfl he
      | ret => rw [resume_ret] at hx; exact hx
      | exit id => exact hx
end Go.Proofs.Ytfgdpgagcnelpaa
