/- The log: the sectors of a half gone over. -/
import Derived.Test.YtakgjjbmniilhaaGD
import Derived.Test.YtakgjjbmniilhaaV4
import Derived.Test.YtakgjjbmniilhaaV3
set_option linter.unusedVariables false
set_option linter.unusedSimpArgs false
set_option linter.unusedSimpArgs false
set_option maxRecDepth 100000
set_option linter.unusedVariables false
set_option linter.unusedSimpArgs false
namespace Go.Proofs.Ytakgjjbmniilhaa
open Go Go.Vm
attribute [-go_sem] sz_101
variable {h g : Heap} {R W M : Set'} {bd lp fr ct : Nat} {D : DS}
theorem appE_blk {e sz by' : Nat} {v x : V} {p : Pr} (hq : appE e sz by' v x g = some p) : sblk p.v = sblk v ∨ sblk p.v = g.n := by
  unfold appE at hq
  split at hq
  · rename_i base sLen sCap ex n hn
    split at hq
    · split at hq
      · split at hq
        · unfold appendIn at hq
          split at hq
          · cases hq; exact .inl rfl
          · split at hq
            · split at hq
              · split at hq
                · split at hq
                  · cases hq; exact .inl rfl
                  · cases hq
                · cases hq
              · cases hq
            · cases hq
        · split at hq
          · split at hq
            · split at hq
              · split at hq
                · unfold appendOut at hq
                  split at hq
                  · split at hq
                    · split at hq
                      · split at hq
                        · split at hq
                          · split at hq
                            · cases hq; exact .inr rfl
                            · cases hq
                          · cases hq
                        · cases hq
                      · cases hq
                    · cases hq
                  · cases hq; exact .inr rfl
                · cases hq
              · cases hq
            · cases hq
          · cases hq
      · cases hq
    · cases hq
  · split at hq
    · cases hq; exact .inl rfl
    · cases hq
  · cases hq
theorem one_cells {v : V} (h : v.one = true) : v.cellsV = [v] := by
  cases v <;> simp_all [V.one, V.cellsV]
def LogH (h : Heap) (lp bd fr ct : Nat) (H : Hd) : Prop := ∃ c, h.get lp = some (.cells c 47) ∧ c.size = 13 ∧ c.ro = false ∧ c.get 0 = .ptr (some (bd, 0)) ∧ c.get 1 = .int .i64 (fr : Int) ∧ c.get 2 = .int .i64 (ct : Int) ∧ c.gets 3 5 = H.v
theorem LogH.c {H : Hd} (hl : LogH h lp bd fr ct H) : LogC h lp bd fr ct := by
  obtain ⟨c, h1, h2, _, h3, h4, h5, _⟩ := hl
  exact ⟨c, h1, h2, h3, h4, h5⟩
theorem LogH.old {H : Hd} (hl : LogH h lp bd fr ct H) (hk : ∀ k, k < h.n → g.get k = h.get k) : LogH g lp bd fr ct H := by
  obtain ⟨c, h1, h2⟩ := hl
  exact ⟨c, (hk _ (Heap.lt_of_get h1)).trans h1, h2⟩
def secA (D : DS) (fr ct ha : Nat) : Nat → List V := fun i => D.seen (fr + 2 + ha * ((ct - 2) / 2) + i)
theorem hd_get {c : Blk} {H : Hd} (hg : c.gets 3 5 = H.v) {j : Nat} (hj : j < 5) : c.get (3 + j) = H.v.getD j undefV := by
  have := Blk.gets_get c 5 3 j hj
  rw [hg] at this
  rw [List.getD_eq_getElem?_getD, this]; rfl
theorem ok70 {at' : Int} : SF Try.prog 70 [.ptr (some (lp, 0)), .int .i64 at'] h R W fun r g => r = .func 91 [] [.ptr (some (h.n, 0)), .ptr (some (h.n + 1, 0))] ∧ g = (h.push (.cells (Blk.of [.ptr (some (lp, 0))]) 32)).push (.cells (Blk.of [.int .i64 at']) 3) := by
  refine SF.go hm Try.func70 ir70_eq ?_
  simp -implicitDefEqProofs (disch := (first | omega | (simp -implicitDefEqProofs only [szs, ne_eq] <;> omega) | fail)) only [go_sem, seval, ↓reduceIte, reduceCtorEq, ir70]
set_option maxHeartbeats 8000000 in
theorem seq91 {b1 b2 a y : Nat} {H : Hd} (I : Nat → Heap → Prop) (J : Heap → Prop) (hc : 16 ≤ ct ∧ fr + ct ≤ D.n) (hD : D.n ≤ 4096) (hha : H.ha < 2) (hsec : ∀ s, s < D.n → (D.seen s).length = 128 ∧ Byt (D.seen s)) (h1 : h.get b1 = some (.cells (Blk.of [.ptr (some (lp, 0))]) 32)) (h2 : h.get b2 = some (.cells (Blk.of [.int .i64 (a : Int)]) 3)) (ha : a ≤ (ct - 2) / 2) (hI0 : I a h)
    (hx : ∀ p g, I p g → DkX g M bd D ∧ LogH g lp bd fr ct H ∧ g.get b1 = h.get b1 ∧ h.n ≤ g.n)
    (hkeep : ∀ p g g', I p g → g.n ≤ g'.n → (∀ b, b < g.n → g'.get b = g.get b) → I p g') (hW : ∀ b, W b → b < h.n)
    (hround : ∀ (p n0 : Nat) g v r, p < (ct - 2) / 2 → recA (secA D fr ct H.ha p) = some r → I p g → Own n0 g v r.dat 5 → h.n ≤ n0 → SY ⟨Try.prog, true⟩ y [.agg r.v, v] g (fun _ => True) (fun b => h.n ≤ b ∨ W b) (fun x g' => (x = .bool true ∧ I (p + 1) g' ∨ x = .bool false ∧ J g') ∧ ∀ b c, h.n ≤ b → g.get b = some (.cells c 86) → g'.get b = g.get b)) :
    SF ⟨Try.prog, true⟩ 91 [.yield y, .ptr (some (b1, 0)), .ptr (some (b2, 0))] h (fun _ => True) W fun _ g => (∃ p, a ≤ p ∧ p ≤ (ct - 2) / 2 ∧ I p g ∧ (p = (ct - 2) / 2 ∨ recA (secA D fr ct H.ha p) = none)) ∨ J g := by
  obtain ⟨hx0, hl0, _, _⟩ := hx a h hI0
  have hb1 := Heap.lt_of_get h1
  have hb2 := Heap.lt_of_get h2
  refine SF.go hm Try.func91 ir91_eq ?_
  simp -implicitDefEqProofs (disch := (first | omega | (simp -implicitDefEqProofs only [szs, ne_eq] <;> omega) | fail)) only [go_sem, seval, ↓reduceIte, reduceCtorEq, ir91, h1]
  refine GCall.of (halves_ok hl0.c ⟨by omega, by omega⟩ (by omega) (fun _ => trivial)).any ?_
  rintro r h3 ⟨rfl, n3, k3⟩
  have h23 := (k3 b2 hb2).trans h2
  have kA : ∀ (o o' : O) k, k < h3.n → ((h3.push o).set h3.n o').get k = h3.get k := fun o o' k hk => by rw [w_set_ne (by simp) (by omega), w_push_ne (by omega)]
  have hI3 : ∀ o o', I a ((h3.push o).set h3.n o') := fun o o' => hkeep _ _ _ (hkeep _ _ _ hI0 n3 k3) (by simp) fun b hb => kA _ _ b hb
  simp -implicitDefEqProofs (disch := (first | omega | (simp -implicitDefEqProofs only [szs, ne_eq] <;> omega) | fail)) only [go_sem, seval, ↓reduceIte, reduceCtorEq, undefV, h23]
  refine ⟨.inl n3, ?_⟩
  refine GLoop.inv hm (fun k f g => f.mks = [] ∧ f.tm.n = 55 ∧ f.tm.get 0 = some (.yield y) ∧ f.tm.get 1 = some (.ptr (some (b1, 0))) ∧ f.tm.get 4 = some (.ptr (some (h3.n, 0))) ∧ f.tm.get 5 = some (.int .i64 (((ct - 2) / 2 : Nat) : Int)) ∧ ∃ p : Nat, p + k = (ct - 2) / 2 ∧ a ≤ p ∧ f.tm.get 6 = some (.int .i64 (p : Int)) ∧ I p g ∧ ∃ c, g.get h3.n = some (.cells c 86) ∧ c.size = 2 ∧ c.get 0 = .int .i64 ((fr + 2 : Nat) : Int) ∧ c.get 1 = .int .i64 ((fr + 2 + (ct - 2) / 2 : Nat) : Int)) ((ct - 2) / 2 - a) ?_ ?_
  · exact ⟨rfl, rfl, by simp -implicitDefEqProofs (disch := (first | omega | (simp -implicitDefEqProofs only [szs, ne_eq] <;> omega) | fail)) only [go_sem, seval, ↓reduceIte, reduceCtorEq], by simp -implicitDefEqProofs (disch := (first | omega | (simp -implicitDefEqProofs only [szs, ne_eq] <;> omega) | fail)) only [go_sem, seval, ↓reduceIte, reduceCtorEq], by simp -implicitDefEqProofs (disch := (first | omega | (simp -implicitDefEqProofs only [szs, ne_eq] <;> omega) | fail)) only [go_sem, seval, ↓reduceIte, reduceCtorEq], by simp -implicitDefEqProofs (disch := (first | omega | (simp -implicitDefEqProofs only [szs, ne_eq] <;> omega) | fail)) only [go_sem, seval, ↓reduceIte, reduceCtorEq], a, by omega, Nat.le_refl _, by simp -implicitDefEqProofs (disch := (first | omega | (simp -implicitDefEqProofs only [szs, ne_eq] <;> omega) | fail)) only [go_sem, Nat.reduceAdd, Nat.reduceSub, Nat.reduceMul, Nat.reduceLT, Nat.reduceMod, Nat.reduceDiv, Nat.reduceEqDiff, Nat.reduceBEq, Nat.reduceLeDiff, ↓reduceIte, reduceCtorEq, Int.reduceAdd, Int.reduceSub, Int.reduceLT, Int.reduceLE, Int.reduceBEq, Int.reduceEq, Int.reduceToNat], hI3 _ _, _, w_set_eq (by simp) rfl _, rfl, rfl, rfl⟩
  rintro k ⟨⟨n', tr⟩, mks⟩ g ⟨hmk, hn', t0, t1, t4, t5, p, hpk, hap, t6, hI, ca, a1, a2, a3, a4⟩
  simp only [Tm.get_mk] at hmk hn' t0 t1 t4 t5 t6
  subst hmk hn'
  obtain ⟨hxg, hlg, hg1, hgn⟩ := hx p g hI
  rw [h1] at hg1
  by_cases hp : p < (ct - 2) / 2
  rotate_left
  · have hc2 : ¬ (p : Int) < (((ct - 2) / 2 : Nat) : Int) := by omega
    simp -implicitDefEqProofs (disch := (first | omega | (simp -implicitDefEqProofs only [szs, ne_eq] <;> omega) | fail)) only [go_sem, seval, ↓reduceIte, reduceCtorEq, ir91_l0, t0, t1, t4, t5, t6, hc2]
    exact .inl ⟨p, hap, by omega, hI, .inl (by omega)⟩
  have hc2 : (p : Int) < (((ct - 2) / 2 : Nat) : Int) := by omega
  obtain ⟨cl, l1, l2, l3, l4, l5, l6, l7⟩ := hlg
  have l8 : cl.get 5 = .int .u64 (H.ha : Int) := hd_get l7 (j := 2) (by omega)
  have hA : (H.ha : Int) < ((2 : Nat) : Int) := by omega
  have hA0 : (0 : Int) ≤ (H.ha : Int) := by omega
  have ag : ca.get H.ha = .int .i64 ((fr + 2 + H.ha * ((ct - 2) / 2) : Nat) : Int) := by
    have : H.ha = 0 ∨ H.ha = 1 := by omega
    rcases this with e | e <;> rw [e]
    · rw [a3, Nat.zero_mul, Nat.add_zero]
    · rw [a4, Nat.one_mul]
  have hmul : H.ha * ((ct - 2) / 2) ≤ (ct - 2) / 2 := by
    have := Nat.mul_le_mul_right ((ct - 2) / 2) (show H.ha ≤ 1 by omega); omega
  have e1 : ((fr + 2 + H.ha * ((ct - 2) / 2) : Nat) : Int) + (p : Int) = ((fr + 2 + H.ha * ((ct - 2) / 2) + p : Nat) : Int) := by omega
  have hsn : fr + 2 + H.ha * ((ct - 2) / 2) + p < D.n := by
    have : H.ha * ((ct - 2) / 2) + p < 2 * ((ct - 2) / 2) := by
      have : H.ha = 0 ∨ H.ha = 1 := by omega
      rcases this with e | e <;> rw [e] <;> omega
    omega
  obtain ⟨q1, q2⟩ := hsec _ hsn
  have hbl : H.ha < ca.size := by omega
  simp -implicitDefEqProofs (disch := (first | omega | (simp -implicitDefEqProofs only [szs, ne_eq] <;> omega) | fail)) only [go_sem, Nat.reduceAdd, Nat.reduceSub, Nat.reduceMul, Nat.reduceLT, Nat.reduceMod, Nat.reduceDiv, Nat.reduceEqDiff, Nat.reduceBEq, Nat.reduceLeDiff, ↓reduceIte, reduceCtorEq, Int.reduceAdd, Int.reduceSub, Int.reduceLT, Int.reduceLE, Int.reduceBEq, Int.reduceEq, Int.reduceToNat, ir91_l0, undefV, t0, t1, t4, t5, t6, hc2, hg1, l1, l2, l4, l8, hA, hA0, a1, a2, hbl, ag, e1]
  refine GCallD.of (R' := fun _ => True) (W' := fun _ => False) ((read_dk (R := fun _ => True) (W := fun _ => False) hxg (fun _ => trivial) hsn).any.foot (fun _ h => h) (fun _ h => h)) ?_
  rintro r g1 ⟨b, rfl, hb, n1, k1⟩
  simp -implicitDefEqProofs (disch := (first | omega | (simp -implicitDefEqProofs only [szs, ne_eq] <;> omega) | fail)) only [go_sem, seval, ↓reduceIte, reduceCtorEq, undefV, t0, t1, t4, t5, t6]
  refine ⟨fun b _ hh => hh.elim, ?_⟩
  refine GCall.of ((SF.any (M := ⟨Try.prog, true⟩) (recread_ok (R := fun _ => True) (W := noW) hb q1 q2 (fun _ => trivial))).foot (fun _ h => h) (fun b (hh : noW b) => hh.elim)) ?_
  rintro r g2 ⟨m, v, rfl, hm1, hm2, hv1, hrec, n2, k2⟩
  have hvc : v.cellsV = [v] := one_cells hv1
  have kk : ∀ k, k < g.n → g2.get k = g.get k := fun k hk => by rw [k2 k (by omega), k1 k hk]
  have hWn : h.n ≤ g2.n := by omega
  cases hr : recA (secA D fr ct H.ha p) with
  | none =>
    rw [show D.seen (fr + 2 + H.ha * ((ct - 2) / 2) + p) = secA D fr ct H.ha p from rfl, hr, Option.isSome_none]
    simp -implicitDefEqProofs (disch := (first | omega | (simp -implicitDefEqProofs only [szs, ne_eq] <;> omega) | fail)) only [go_sem, seval, ↓reduceIte, reduceCtorEq, undefV, t0, t1, t4, t5, t6, hm1, hm2, ↓hv1, hWn]
    exact .inl ⟨p, hap, by omega, hkeep _ _ _ (hkeep _ _ _ hI (by omega) kk) (by simp) fun b hb => by rw [w_set_ne (by simp) (by omega), w_push_ne (by omega)], .inr hr⟩
  | some r =>
    obtain ⟨rfl, ho⟩ := hrec r hr
    rw [show D.seen (fr + 2 + H.ha * ((ct - 2) / 2) + p) = secA D fr ct H.ha p from rfl, hr, Option.isSome_some]
    simp -implicitDefEqProofs (disch := (first | omega | (simp -implicitDefEqProofs only [szs, ne_eq] <;> omega) | fail)) only [go_sem, seval, ↓reduceIte, reduceCtorEq, undefV, t0, t1, t4, t5, t6, hm1, hm2, ↓hv1, hWn]
    have ev : [((Blk.of [V.int IntKind.u64 0, V.int IntKind.u64 0, V.int IntKind.u8 0, V.int IntKind.u8 0]).puts 0 r.v).get 0, ((Blk.of [V.int IntKind.u64 0, V.int IntKind.u64 0, V.int IntKind.u8 0, V.int IntKind.u8 0]).puts 0 r.v).get 1, ((Blk.of [V.int IntKind.u64 0, V.int IntKind.u64 0, V.int IntKind.u8 0, V.int IntKind.u8 0]).puts 0 r.v).get 2, ((Blk.of [V.int IntKind.u64 0, V.int IntKind.u64 0, V.int IntKind.u8 0, V.int IntKind.u8 0]).puts 0 r.v).get 3] = r.v := rfl
    rw [ev]
    obtain ⟨g3, e3⟩ : ∃ g3, g3 = (g2.push (.cells (Blk.of [V.int IntKind.u64 0, V.int IntKind.u64 0, V.int IntKind.u8 0, V.int IntKind.u8 0]) 90)).set g2.n (.cells ((Blk.of [V.int IntKind.u64 0, V.int IntKind.u64 0, V.int IntKind.u8 0, V.int IntKind.u8 0]).puts 0 r.v) 90) := ⟨_, rfl⟩
    rw [← e3]
    have n3' : g3.n = g2.n + 1 := by rw [e3]; simp
    have k3' : ∀ k, k < g2.n → g3.get k = g2.get k := fun k hk => by rw [e3, w_set_ne (by simp) (by omega), w_push_ne (by omega)]
    clear e3
    have hI3' : I p g3 := hkeep _ _ _ (hkeep _ _ _ hI (by omega) kk) (by omega) k3'
    have a1' := (k3' _ (Nat.lt_of_lt_of_le (Heap.lt_of_get a1) (by omega))).trans ((kk _ (Heap.lt_of_get a1)).trans a1)
    refine GYield.of (SY.foot (hround p g1.n g3 v r hp hr hI3' (ho.old k3') (by omega)) (fun b _ => trivial) fun b hb => hb) ?_
    rintro x g4 ⟨hx4, h86⟩
    have a1'' := (h86 h3.n ca n3 a1').trans a1'
    rcases hx4 with ⟨rfl, hI4⟩ | ⟨rfl, hJ⟩
    · simp -implicitDefEqProofs (disch := (first | omega | (simp -implicitDefEqProofs only [szs, ne_eq] <;> omega) | fail)) only [go_sem, seval, ↓reduceIte, reduceCtorEq, t0, t1, t4, t5, t6, undefV]
      exact ⟨k - 1, by omega, p + 1, by omega, by omega, by simp, hI4, ca, a1'', a2, a3, a4⟩
    · simp -implicitDefEqProofs (disch := (first | omega | (simp -implicitDefEqProofs only [szs, ne_eq] <;> omega) | fail)) only [go_sem, seval, ↓reduceIte, reduceCtorEq, t0, t1, t4, t5, t6, undefV]
      exact .inr hJ
end Go.Proofs.Ytakgjjbmniilhaa
