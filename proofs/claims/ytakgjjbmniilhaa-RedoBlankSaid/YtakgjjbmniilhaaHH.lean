/- The log: Open. -/
import Derived.Test.YtakgjjbmniilhaaHG
set_option linter.unusedVariables false
set_option linter.unusedSimpArgs false
set_option linter.unusedSimpArgs false
set_option maxRecDepth 100000
set_option linter.unusedVariables false
set_option linter.unusedSimpArgs false
namespace Go.Proofs.Ytakgjjbmniilhaa
open Go Go.Vm
attribute [-go_sem] sz_101
variable {h g : Heap} {R W M N : Set'} {bd lp fr ct : Nat} {D : DS}
structure LgS where
  H : Hd
  nx : Nat
  at' : Nat
  sy : Nat
  sn : List V
  rs : List (List V)
structure LgX (g : Heap) (N : Set') (lp bd fr ct : Nat) (G : LgS) : Prop where
  a : LogAt g lp bd fr ct N (.int .u64 (G.sy : Int)) G.H G.nx G.at' G.sn G.rs
  lt : ∀ k, N k → k < g.n
  l : N lp
structure TwoQ (h g : Heap) (M N : Set') (lp bd fr ct : Nat) (D : DS) (G : LgS) : Prop where
  n : h.n ≤ g.n
  k : ∀ k, k < h.n → ¬ M k → ¬ N k → g.get k = h.get k
  x : ∃ M' N', DkX g M' bd D ∧ LgX g N' lp bd fr ct G ∧ (∀ k, M' k → M k ∨ h.n ≤ k) ∧ (∀ k, N' k → N k ∨ h.n ≤ k) ∧ ∀ k, N' k → ¬ M' k
noncomputable def openA (D : DS) (fr ct : Nat) : Option (DS × LgS) := (whichA ((ct - 2) / 2) (D.seen fr) (D.seen (fr + 1))).map fun H =>
  (layD D fr ct { H with ep := H.ep + 1 }, ⟨{ H with ep := H.ep + 1 }, (loadF D fr ct H).2.2, (loadF D fr ct H).2.1, (loadF D fr ct H).2.2 - 1, snapA D fr ct H, (loadF D fr ct H).1⟩)
theorem whichS_ok {n i : Nat} {b : List V} {o H : Hd} (P : Hd → Prop) (ho : P o) (hp : ∀ H, headA b = some H → mayH n i H → P H) (h : whichS n i b o = some H) : P H := by
  unfold whichS at h
  split at h
  · cases h; exact ho
  · split at h
    · cases h
    · rename_i H' hh
      split at h
      · rename_i hm
        simp only [Option.some.injEq] at h
        subst h
        split
        · exact hp _ hh hm
        · exact ho
      · cases h
theorem whichA_ok {n : Nat} {b0 b1 : List V} {H : Hd} (h : whichA n b0 b1 = some H) : H.ep ≤ 4611686018427387904 ∧ H.fi ≤ 4611686018427387904 ∧ 1 ≤ H.fi ∧ H.sz ≤ n * 120 ∧ H.ha < 2 ∧ H.si ≤ H.ep := by
  unfold whichA at h
  rw [Option.bind_eq_some_iff] at h
  obtain ⟨H0, h1, h2⟩ := h
  have key : ∀ {b : List V} {i : Nat} H, headA b = some H → mayH n i H → H.ep ≤ 4611686018427387904 ∧ H.fi ≤ 4611686018427387904 ∧ 1 ≤ H.fi ∧ H.sz ≤ n * 120 ∧ H.ha < 2 ∧ H.si ≤ H.ep := fun H hh hm => by
    obtain ⟨_, q1, q2, q3⟩ := headA_some hh
    obtain ⟨_, _, q4, q5, q6⟩ := hm
    exact ⟨q4, q5, q3, q6, q2, q1⟩
  exact whichS_ok _ (whichS_ok (fun H : Hd => H.ep ≤ 4611686018427387904 ∧ H.fi ≤ 4611686018427387904 ∧ 1 ≤ H.fi ∧ H.sz ≤ n * 120 ∧ H.ha < 2 ∧ H.si ≤ H.ep) ⟨by decide, by decide, by decide, Nat.zero_le _, by decide, by decide⟩ key h1) key h2
theorem runL_nx (sec : Nat → List V) (he : Nat) : ∀ (k i : Nat) (s : LS), s.nx ≤ (runL sec he k i s).nx ∧ (runL sec he k i s).nx ≤ s.nx + k
  | 0, i, s => by simp [runL]
  | k + 1, i, s => by
    unfold runL
    split
    · simp
    · split
      · simp
      · rename_i r _ _
        have := runL_nx sec he k (i + 1) (goodL s r)
        have : s.nx ≤ (goodL s r).nx ∧ (goodL s r).nx ≤ s.nx + 1 := by unfold goodL; split <;> simp
        omega
theorem loadF_nx (D : DS) (fr ct : Nat) (H : Hd) : H.fi ≤ (loadF D fr ct H).2.2 ∧ (loadF D fr ct H).2.2 ≤ H.fi + ((ct - 2) / 2 - secsN H.sz) := runL_nx (secA D fr ct H.ha) H.ep ((ct - 2) / 2 - secsN H.sz) (secsN H.sz) (freshL H.fi H.si [] (secsN H.sz))
theorem LogAt.head {c c' : Blk} {v10 v10' : V} {H H' : Hd} {nx at' : Nat} {sn : List V} {rs : List (List V)} (hl : LogAt h lp bd fr ct N v10 H nx at' sn rs) (l1 : h.get lp = some (.cells c 47)) (hN : ∀ k, N5 h N k → g.get k = h.get k) (hN2 : ∀ k c, h.get k = some (.cells c 22) → N k → g.get k = h.get k) (l1' : g.get lp = some (.cells c' 47)) (l2 : c'.size = 13) (l3 : c'.ro = false) (k3 : c'.gets 3 5 = H'.v) (k10 : c'.get 10 = v10') (hj : ∀ j, j < 3 ∨ 8 ≤ j → j ≠ 10 → c'.get j = c.get j) : LogAt g lp bd fr ct N v10' H' nx at' sn rs := by
  obtain ⟨c0, v11, rv, vs, hl⟩ := hl
  obtain rfl : c0 = c := by have := hl.l1; rw [l1] at this; cases this; rfl
  have hz : ∀ b, N5 h N b → N5 g N b := fun b hb => ⟨hb.1, by obtain ⟨c, h2⟩ := hb.2; exact ⟨c, (hN b hb).trans h2⟩⟩
  refine ⟨c', v11, rv, vs, l1', l2, l3, (hj 0 (by omega) (by omega)).trans hl.k0, (hj 1 (by omega) (by omega)).trans hl.k1, (hj 2 (by omega) (by omega)).trans hl.k2, k3, (hj 8 (by omega) (by omega)).trans hl.k8, (hj 9 (by omega) (by omega)).trans hl.k9, k10, (hj 11 (by omega) (by omega)).trans hl.k11, (hj 12 (by omega) (by omega)).trans hl.k12, (hl.sd.same fun b hb _ => hN b hb).mono fun b _ hb => hz b hb, ?_, hl.vn, hl.vl, fun i l hi => ((hl.ve i l hi).same fun b hb _ => hN b hb).mono fun b _ hb => hz b hb⟩
  rcases hl.vn with e | hv
  · have h1 := hl.vd
    subst e
    rcases h1 with ⟨rfl, _⟩ | ⟨b, x, c, h0, e, _⟩
    · exact Own.nil _ _ _
    · cases e
  · rcases hl.vd with ⟨rfl, rfl | ⟨b, c, rfl, h1, hb, hr⟩⟩ | ⟨b, x, c, h0, rfl, h1, hb, hs⟩
    · exact Own.nil _ _ _
    · exact .inl ⟨rfl, .inr ⟨b, c, rfl, h1, (hN2 b c hb hv).trans hb, hr⟩⟩
    · exact .inr ⟨b, x, c, h0, rfl, h1, (hN2 b c hb hv).trans hb, hs⟩
def OpenQ (h : Heap) (M : Set') (bd : Nat) (D : DS) (f k : Int) (r : V) (g : Heap) : Prop := if okO D f k then match openA D f.toNat k.toNat with
      | some (D', G) => ∃ lp, h.n ≤ lp ∧ r = .tuple [.ptr (some (lp, 0)), .int .i64 0] ∧ TwoQ h g M (fun _ => False) lp bd f.toNat k.toNat D' G
      | none => r = .tuple [.ptr none, .int .i64 13] ∧ h.n ≤ g.n ∧ ∀ k, k < h.n → g.get k = h.get k
      else r = .tuple [.ptr none, .int .i64 2] ∧ h.n ≤ g.n ∧ ∀ k, k < h.n → g.get k = h.get k
theorem LogAt.mono {N' : Set'} {v10 : V} {H : Hd} {nx at' : Nat} {sn : List V} {rs : List (List V)} (hl : LogAt h lp bd fr ct N v10 H nx at' sn rs) (hN : ∀ k, k < h.n → N k → N' k) : LogAt h lp bd fr ct N' v10 H nx at' sn rs := by
  obtain ⟨c, v11, rv, vs, hl⟩ := hl
  refine ⟨c, v11, rv, vs, hl.l1, hl.l2, hl.l3, hl.k0, hl.k1, hl.k2, hl.k3, hl.k8, hl.k9, hl.k10, hl.k11, hl.k12, hl.sd.mono fun b hb h1 => ⟨hN b hb h1.1, h1.2⟩, hl.vd, ?_, hl.vl, fun i l hi => (hl.ve i l hi).mono fun b hb h1 => ⟨hN b hb h1.1, h1.2⟩⟩
  exact hl.vn.imp id fun h1 => hN _ (hl.vd.sblk_lt (by have := Heap.lt_of_get hl.l1; omega)) h1
set_option maxHeartbeats 8000000 in
theorem open_log {f k : Int} (hx : DkX h M bd D) (hf : -9223372036854775808 ≤ f ∧ f ≤ 9223372036854775807) (hk : -9223372036854775808 ≤ k ∧ k ≤ 9223372036854775807) (few : ∀ s, (D.pe s).length < 1000000000) (hR : ∀ b, R b) (hW : ∀ k, M k → W k) :
    SF ⟨Try.prog, true⟩ 11 [.ptr (some (bd, 0)), .int .i64 f, .int .i64 k] h R W (OpenQ h M bd D f k) := by
  have hR' : ∀ b, h.n ≤ b ∨ R b := fun b => .inr (hR b)
  refine SF.go hm Try.func11 ir11_eq ?_
  simp -implicitDefEqProofs (disch := (first | omega | (simp -implicitDefEqProofs only [szs, ne_eq] <;> omega) | fail)) only [go_sem, seval, ↓reduceIte, reduceCtorEq, ir11]
  refine GCall.of (open_ok (f := f) (k := k) hx hf hk hR') ?_
  rintro r g1 ⟨n1, k1, hq⟩
  by_cases ho : okO D f k
  rotate_left
  · rw [if_neg ho] at hq
    subst hq
    simp -implicitDefEqProofs (disch := (first | omega | (simp -implicitDefEqProofs only [szs, ne_eq] <;> omega) | fail)) only [go_sem, seval, ↓reduceIte, reduceCtorEq, undefV]
    unfold OpenQ
    rw [if_neg ho]
    exact ⟨rfl, n1, k1⟩
  rw [if_pos ho] at hq
  obtain ⟨lp, c, hlp, rfl, l1, l2, l3, c0, c1, c2, c35, c10⟩ := hq
  obtain ⟨fr, rfl⟩ : ∃ fr : Nat, f = fr := ⟨f.toNat, by unfold okO at ho; omega⟩
  obtain ⟨ct, rfl⟩ : ∃ ct : Nat, k = ct := ⟨k.toNat, by unfold okO at ho; omega⟩
  have hp := hx.pos
  have hc : 16 ≤ ct ∧ fr + ct ≤ D.n := by unfold okO at ho; omega
  have hx1 : DkX g1 M bd D := hx.old n1 k1
  simp -implicitDefEqProofs (disch := (first | omega | (simp -implicitDefEqProofs only [szs, ne_eq] <;> omega) | fail)) only [go_sem, seval, ↓reduceIte, reduceCtorEq, undefV]
  refine GCall.of (SF.any (M := ⟨Try.prog, true⟩) (which_ok (bd := bd) (fr := fr) (ct := ct) hx1 ⟨c, l1, l2, c0, c1, c2⟩ hc hR')) ?_
  rintro r g2 ⟨H, hLt, rfl, hH, n2, k2⟩
  have L2 := (k2 lp (Heap.lt_of_get l1)).trans l1
  have l2lt := Heap.lt_of_get L2
  have hn2 : h.n ≤ g2.n := by omega
  have ra := hR' lp
  obtain ⟨ch, ech⟩ : ∃ ch, ch = (((((Blk.of [V.int IntKind.u64 0, V.int IntKind.u64 0, V.int IntKind.u64 0, V.int IntKind.u64 0, V.int IntKind.u64 0]).set 0 (V.int IntKind.u64 ↑H.ep)).set 1 (V.int IntKind.u64 ↑H.si)).set 2 (V.int IntKind.u64 ↑H.ha)).set 3 (V.int IntKind.u64 ↑H.sz)).set 4 (V.int IntKind.u64 ↑H.fi) := ⟨_, rfl⟩
  have hch : ch.gets 0 5 = H.v := by
    rw [ech]; refine gets5 fun j hj => ?_
    have hh : j = 0 ∨ j = 1 ∨ j = 2 ∨ j = 3 ∨ j = 4 := by omega
    rcases hh with rfl | rfl | rfl | rfl | rfl <;> rfl
  have hcs : ch.size = 5 := by rw [ech]; rfl
  have hcr : ch.ro = false := by rw [ech]; rfl
  cases hw : whichA ((ct - 2) / 2) (D.seen fr) (D.seen (fr + 1)) with
  | none =>
    simp -implicitDefEqProofs (disch := (first | omega | (simp -implicitDefEqProofs only [szs, ne_eq] <;> omega) | fail)) only [go_sem, seval, ↓reduceIte, reduceCtorEq, undefV, Hd.v, Option.isSome_none, hn2]
    rw [← ech]
    unfold OpenQ
    rw [if_pos ho]
    simp only [openA, Int.toNat_natCast, hw, Option.map_none]
    exact ⟨trivial, by simp; omega, fun k hk => by rw [w_set_ne (by simp) (by omega), w_push_ne (by omega), k2 k (by omega), k1 k hk]⟩
  | some H' =>
    obtain rfl := hH H' hw
    obtain ⟨f1, f2, f3, f4, f5, f6⟩ := whichA_ok hw
    simp -implicitDefEqProofs (disch := (first | omega | (simp -implicitDefEqProofs only [szs, ne_eq] <;> omega) | fail)) only [go_sem, seval, ↓reduceIte, reduceCtorEq, undefV, Hd.v, Option.isSome_some, L2, l2, l3, hn2, hlp]
    rw [← ech]
    obtain ⟨c4, ec4⟩ : ∃ c4, c4 = ((((c.set 3 (.int .u64 ↑H'.ep)).set 4 (.int .u64 ↑H'.si)).set 5 (.int .u64 ↑H'.ha)).set 6 (.int .u64 ↑H'.sz)).set 7 (.int .u64 ↑H'.fi) := ⟨_, rfl⟩
    rw [← ec4]
    have q2 : c4.size = 13 := by rw [ec4]; simp only [Blk.size_set]; exact l2
    have q3 : c4.ro = false := by rw [ec4]; simp only [Blk.ro_set]; exact l3
    have q4 : c4.gets 3 5 = H'.v := by
      rw [ec4]
      refine List.ext_getElem? fun j => ?_
      by_cases hj : j < 5
      · rw [Blk.gets_get _ _ _ _ hj]
        have hh : j = 0 ∨ j = 1 ∨ j = 2 ∨ j = 3 ∨ j = 4 := by omega
        rcases hh with rfl | rfl | rfl | rfl | rfl <;> simp -implicitDefEqProofs (disch := (first | omega | (simp -implicitDefEqProofs only [szs, ne_eq] <;> omega) | fail)) only [go_sem, seval, ↓reduceIte, reduceCtorEq] <;> rfl
      · rw [List.getElem?_eq_none (by rw [Blk.length_gets]; omega), List.getElem?_eq_none (by show 5 ≤ j; omega)]
    have q5 : ∀ j, j < 3 ∨ 8 ≤ j → c4.get j = c.get j := fun j hj => by
      rw [ec4]; simp only [Blk.get_set]
      rw [if_neg (by omega), if_neg (by omega), if_neg (by omega), if_neg (by omega), if_neg (by omega)]
    clear ec4
    obtain ⟨g3, e3⟩ : ∃ g3, g3 = ((g2.push (.cells (Blk.of [.int .u64 0, .int .u64 0, .int .u64 0, .int .u64 0, .int .u64 0]) 44)).set g2.n (.cells ch 44)).set lp (.cells c4 47) := ⟨_, rfl⟩
    rw [← e3]
    have n3 : g3.n = g2.n + 1 := by rw [e3]; simp only [Heap.n_push, Heap.n_set]
    have L3 : g3.get lp = some (.cells c4 47) := by rw [e3]; exact w_set_eq (by simp only [Heap.n_push, Heap.n_set]; omega) rfl _
    have C3 : g3.get g2.n = some (.cells ch 44) := by rw [e3, w_set_ne (by simp only [Heap.n_push, Heap.n_set]; omega) (by omega)]; exact w_set_eq (by simp only [Heap.n_push]; omega) rfl _
    have k3 : ∀ k, k < g2.n → k ≠ lp → g3.get k = g2.get k := fun k hk h1 => by rw [e3, w_set_ne (by simp only [Heap.n_push, Heap.n_set]; omega) h1, w_set_ne (by simp only [Heap.n_push]; omega) (by omega), w_push_ne (by omega)]
    clear e3
    have hMl : ∀ k, M k → k < h.n := fun k hk => hx.lt k hk
    have nM : ¬ M lp := fun h1 => by have := hMl _ h1; omega
    have hx3 : DkX g3 M bd D := hx.same (by omega) fun k hk => by
      have := hMl k hk
      rw [k3 k (by omega) (by omega), k2 k (by omega), k1 k this]
    refine GCall.of (load_ok (H := H') (v10 := .int .u64 0) (bd := bd) (fr := fr) (ct := ct) hx3 ⟨c4, L3, q2, q3, (q5 0 (by omega)).trans c0, (q5 1 (by omega)).trans c1, (q5 2 (by omega)).trans c2, q4, (q5 10 (by omega)).trans c10⟩ nM hc (by omega) f5 f4 f2 hLt hR' (.inl hlp)) ?_
    rintro r4 g4 ⟨n4, k4, hl4⟩
    have C4 := (k4 g2.n (by omega) (by omega)).trans C3
    have heg : ∀ i, i < 5 → ch.get i = H'.v.getD i undefV := fun i hi => by
      have := Blk.gets_get ch 5 0 i hi
      rw [hch, Nat.zero_add] at this
      rw [List.getD_eq_getElem?_getD, this]; rfl
    have he0 : ch.get 0 = .int .u64 (H'.ep : Int) := heg 0 (by omega)
    have he1 : ch.get 1 = .int .u64 (H'.si : Int) := heg 1 (by omega)
    have he2 : ch.get 2 = .int .u64 (H'.ha : Int) := heg 2 (by omega)
    have he3 : ch.get 3 = .int .u64 (H'.sz : Int) := heg 3 (by omega)
    have he4 : ch.get 4 = .int .u64 (H'.fi : Int) := heg 4 (by omega)
    have ew : IntKind.u64.wrap ((H'.ep : Int) + 1) = ((H'.ep + 1 : Nat) : Int) := by rw [show (H'.ep : Int) + 1 = ((H'.ep + 1 : Nat) : Int) by omega]; exact wrap64 (by omega)
    simp -implicitDefEqProofs (disch := (first | omega | (simp -implicitDefEqProofs only [szs, ne_eq] <;> omega) | fail)) only [go_sem, seval, ↓reduceIte, reduceCtorEq, undefV, C4, hcs, hcr, he0, he1, he2, he3, he4, ew]
    have lt4 := Heap.lt_of_get C4
    refine ⟨.inl hn2, .inl hn2, .inl hn2, ?_⟩
    obtain ⟨g5, e5⟩ : ∃ g5, g5 = g4.set g2.n (.cells (ch.set 0 (.int .u64 ((H'.ep + 1 : Nat) : Int))) 44) := ⟨_, rfl⟩
    rw [← e5]
    have n5 : g5.n = g4.n := by rw [e5]; simp only [Heap.n_set]
    have k5 : ∀ k, k ≠ g2.n → g5.get k = g4.get k := fun k hk => by rw [e5]; exact w_set_ne lt4 hk _
    clear e5
    obtain ⟨c5, v11, rv, vs, hl5⟩ := hl4
    have hx5 : DkX g5 M bd D := hx3.same (by omega) fun k hk => by
      have := hMl k hk
      rw [k5 k (by omega), k4 k (by omega) (by omega)]
    have L5 := (k5 lp (by omega)).trans hl5.l1
    have hLt2 : ({ H' with ep := H'.ep + 1 } : Hd).Lt := ⟨by show H'.ep + 1 < _; omega, hLt.2.1, hLt.2.2.1, hLt.2.2.2.1, hLt.2.2.2.2⟩
    refine GCall.of (SF.any (M := ⟨Try.prog, true⟩) (lay_ok (H := { H' with ep := H'.ep + 1 }) (c := c5) hx5 nM L5 hl5.l2 hl5.l3 hl5.k0 hl5.k1 hl5.k2 hc (by omega) hLt2 (few _) hR' (fun k hk => .inr (hW k hk)) (.inl hlp))) ?_
    rintro r6 g6 ⟨⟨n6, k6, M6, hx6, hM6⟩, c6, L6, s6, t6, g36, j6⟩
    have hnx := loadF_nx D fr ct H'
    obtain ⟨F, eF⟩ : ∃ F, F = loadF D fr ct H' := ⟨_, rfl⟩
    rw [← eF] at hl5 hnx
    have c68 : c6.get 8 = .int .u64 (F.2.2 : Int) := (j6 8 (by omega)).trans hl5.k8
    have ew2 : IntKind.u64.wrap ((F.2.2 : Int) - 1) = ((F.2.2 - 1 : Nat) : Int) := by rw [show (F.2.2 : Int) - 1 = ((F.2.2 - 1 : Nat) : Int) by omega]; exact wrap64 (by omega)
    simp -implicitDefEqProofs (disch := (first | omega | (simp -implicitDefEqProofs only [szs, ne_eq] <;> omega) | fail)) only [go_sem, seval, ↓reduceIte, reduceCtorEq, undefV, L6, s6, t6, c68, ew2, hlp]
    have lt6 := Heap.lt_of_get L6
    have nM6 : ∀ k, M6 k → k ≠ lp := fun k hk e => by
      rcases hM6 k hk with h1 | h1
      · exact nM (e ▸ h1)
      · omega
    have k7 : ∀ k, k ≠ lp → (g6.set lp (O.cells (c6.set 10 (V.int IntKind.u64 ↑(F.snd.snd - 1))) 47)).get k = g6.get k := fun k hk => w_set_ne lt6 hk _
    have k64 : ∀ k, k < g4.n → ¬ M k → k ≠ lp → k ≠ g2.n → (g6.set lp (O.cells (c6.set 10 (V.int IntKind.u64 ↑(F.snd.snd - 1))) 47)).get k = g4.get k := fun k h1 h2 h3 h4 => by
      rw [k7 k h3, k6 k (by omega) h2 h3, k5 k h4]
    unfold OpenQ
    rw [if_pos ho]
    simp only [openA, Int.toNat_natCast, hw, Option.map_some]
    rw [← eF]
    refine ⟨lp, hlp, rfl, by rw [Heap.n_set]; omega, fun k h1 h2 _ => ?_, M6, fun k => k = lp ∨ (g3.n ≤ k ∧ k < g4.n), hx6.same (by rw [Heap.n_set]; exact Nat.le_refl _) fun k hk => k7 k (nM6 k hk), ⟨?_, fun k hk => ?_, .inl rfl⟩, fun k hk => ?_, fun k hk => ?_, fun k hk => ?_⟩
    · rw [k64 k (by omega) h2 (by omega) (by omega), k4 k (by omega) (by omega), k3 k (by omega) (by omega), k2 k (by omega), k1 k h1]
    · refine LogAt.head (h := g4) (c := c5) (LogAt.mono ⟨c5, v11, rv, vs, hl5⟩ fun k h1 h2 => .inr ⟨h2, h1⟩) hl5.l1 (fun k hk => ?_) (fun k c' hk hN => ?_) (w_set_eq lt6 rfl _) (by simp only [Blk.size_set]; exact s6) (by simp only [Blk.ro_set]; exact t6) (by rw [gets_out (by omega)]; exact g36) (by rw [Blk.get_set, if_pos rfl]) fun j h1 h2 => by rw [Blk.get_set, if_neg h2]; exact j6 j h1
      · obtain ⟨h1 | h1, c', h2⟩ := hk
        · rw [h1, hl5.l1] at h2; cases h2
        · exact k64 k h1.2 (fun h3 => by have := hMl k h3; omega) (by omega) (by omega)
      · rcases hN with h1 | h1
        · rw [h1, hl5.l1] at hk; cases hk
        · exact k64 k h1.2 (fun h3 => by have := hMl k h3; omega) (by omega) (by omega)
    · rw [Heap.n_set]; rcases hk with h1 | h1 <;> omega
    · rcases hM6 k hk with h1 | h1
      · exact .inl h1
      · exact .inr (by omega)
    · exact .inr (by rcases hk with h1 | h1 <;> omega)
    · intro h1
      rcases hk with h2 | h2
      · exact nM6 k h1 h2
      · rcases hM6 k h1 with h3 | h3
        · have := hMl k h3; omega
        · omega
end Go.Proofs.Ytakgjjbmniilhaa
