/- The log: the snapshot loaded. -/
import Derived.Test.YtakgjjbmniilhaaHD
set_option linter.unusedVariables false
set_option linter.unusedSimpArgs false
set_option linter.unusedSimpArgs false
set_option maxRecDepth 100000
set_option linter.unusedVariables false
set_option linter.unusedSimpArgs false
namespace Go.Proofs.Ytakgjjbmniilhaa
open Go Go.Vm
attribute [-go_sem] sz_101
variable {h g : Heap} {R W M : Set'} {bd lp fr ct : Nat} {D : DS}
def snapC (sec : Nat → List V) (k : Nat) : List V := ((List.range k).map fun i => (sec i).drop 8).flatten
theorem snapC_succ (sec : Nat → List V) (k : Nat) : snapC sec (k + 1) = snapC sec k ++ (sec k).drop 8 := by
  unfold snapC; rw [List.range_succ, List.map_append, List.flatten_append]; simp
theorem snapC_len {sec : Nat → List V} : ∀ {k : Nat}, (∀ i, i < k → (sec i).length = 128) → (snapC sec k).length = 120 * k
  | 0, _ => rfl
  | k + 1, h => by
    rw [snapC_succ, List.length_append, snapC_len fun i hi => h i (by omega), List.length_drop, h k (by omega)]; omega
theorem sl_128 (b : Nat) : sliceV Try.prog 22 (.slice (some (b, 0)) 128 128 true) (some 8) none none = some (.slice (some (b, 8)) 120 120 true) := by
  simp only [sliceV, Try.underlying22, sz_5, boundsV]
  rfl
set_option maxHeartbeats 8000000 in
theorem ld_loop {Q : Ex → Fr → Heap → Prop} {t : List It} {g2 : Heap} {xb bb K : Nat} {H : Hd} {tr : Tr V} {cx ca : Blk} (hR : ∀ b, R b) (hW : ∀ k, g2.n ≤ k → W k)
    (hx : DkX g2 M bd D) (hl : LogH g2 lp bd fr ct H)
    (t1 : tr.get 1 = some (.ptr (some (xb, 0)))) (t2 : tr.get 2 = some (.ptr (some (bb, 0)))) (t4 : tr.get 4 = some (.slice none 0 0 true)) (t24 : tr.get 24 = some (.int .i64 (K : Int))) (t25 : tr.get 25 = some (.int .i64 0))
    (x1 : g2.get xb = some (.cells cx 32)) (x2 : cx.size = 1) (x3 : cx.get 0 = .ptr (some (lp, 0)))
    (a1 : g2.get bb = some (.cells ca 86)) (a2 : ca.size = 2) (a3 : ca.get 0 = .int .i64 ((fr + 2 : Nat) : Int)) (a4 : ca.get 1 = .int .i64 ((fr + 2 + (ct - 2) / 2 : Nat) : Int))
    (hc : 16 ≤ ct ∧ fr + ct ≤ D.n) (hD : D.n ≤ 4096) (hha : H.ha < 2) (hK : K ≤ (ct - 2) / 2)
    (hk : ∀ tr g v, tr.get 1 = some (.ptr (some (xb, 0))) → tr.get 4 = some v → Own g2.n g v (snapC (secA D fr ct H.ha) K) 5 → g2.n ≤ g.n → (∀ k, k < g2.n → g.get k = g2.get k) → resume (⟨Try.prog, true⟩ : MP) R W none Q t (.exit 0) ⟨⟨211, tr⟩, []⟩ g) :
    GLoop (⟨Try.prog, true⟩ : MP) R W none Q ir35_l0 t ⟨⟨211, tr⟩, []⟩ g2 := by
  refine GLoop.inv hm (fun k f g => f.mks = [] ∧ f.tm.n = 211 ∧ f.tm.get 1 = some (.ptr (some (xb, 0))) ∧ f.tm.get 2 = some (.ptr (some (bb, 0))) ∧ f.tm.get 24 = some (.int .i64 (K : Int)) ∧ ∃ (i : Nat) (v : V), i + k = K ∧ f.tm.get 25 = some (.int .i64 (i : Int)) ∧ f.tm.get 4 = some v ∧ Own g2.n g v (snapC (secA D fr ct H.ha) i) 5 ∧ g2.n ≤ g.n ∧ ∀ k, k < g2.n → g.get k = g2.get k) K ?_ ?_
  · exact ⟨rfl, rfl, t1, t2, t24, 0, _, by omega, t25, t4, Own.nil _ _ _, Nat.le_refl _, fun _ _ => rfl⟩
  clear t1 t2 t4 t24 t25
  clear tr
  rintro k ⟨⟨n', tr⟩, mks⟩ g ⟨hmk, hn', t1, t2, t24, i, v, hik, t25, t4, ho, hng, kg⟩
  simp only [Tm.get_mk] at hmk hn' t1 t2 t4 t24 t25
  subst hmk hn'
  have hsec : ∀ j, j < (ct - 2) / 2 → (secA D fr ct H.ha j).length = 128 ∧ Byt (secA D fr ct H.ha j) := fun j hj => hx.sec (by
    have : H.ha * ((ct - 2) / 2) + j < 2 * ((ct - 2) / 2) := by
      have : H.ha = 0 ∨ H.ha = 1 := by omega
      rcases this with e | e <;> rw [e] <;> omega
    omega)
  by_cases hi : i < K
  rotate_left
  · have hci : ¬ (i : Int) < (K : Int) := by omega
    obtain rfl : i = K := by omega
    simp -implicitDefEqProofs (disch := (first | omega | (simp -implicitDefEqProofs only [szs, ne_eq] <;> omega) | fail)) only [go_sem, seval, ↓reduceIte, reduceCtorEq, ir35_l0, t1, t2, t4, t24, t25, hci]
    exact hk _ _ v (by simp -implicitDefEqProofs (disch := (first | omega | (simp -implicitDefEqProofs only [szs, ne_eq] <;> omega) | fail)) only [go_sem, seval, ↓reduceIte, reduceCtorEq, t1]) (by simp -implicitDefEqProofs (disch := (first | omega | (simp -implicitDefEqProofs only [szs, ne_eq] <;> omega) | fail)) only [go_sem, seval, ↓reduceIte, reduceCtorEq, t4]) ho hng kg
  have hci : (i : Int) < (K : Int) := by omega
  obtain ⟨cl, l1, l2, l3, l4, l5, l6, l7⟩ := hl
  have l8 : cl.get 5 = .int .u64 (H.ha : Int) := hd_get l7 (j := 2) (by omega)
  have hA : (H.ha : Int) < ((2 : Nat) : Int) := by omega
  have hA0 : (0 : Int) ≤ (H.ha : Int) := by omega
  have ag : ca.get H.ha = .int .i64 ((fr + 2 + H.ha * ((ct - 2) / 2) : Nat) : Int) := by
    have : H.ha = 0 ∨ H.ha = 1 := by omega
    rcases this with e | e <;> rw [e]
    · rw [a3, Nat.zero_mul, Nat.add_zero]
    · rw [a4, Nat.one_mul]
  have e1 : ((fr + 2 + H.ha * ((ct - 2) / 2) : Nat) : Int) + (i : Int) = ((fr + 2 + H.ha * ((ct - 2) / 2) + i : Nat) : Int) := by omega
  have hsn : fr + 2 + H.ha * ((ct - 2) / 2) + i < D.n := by
    have : H.ha * ((ct - 2) / 2) + i < 2 * ((ct - 2) / 2) := by
      have : H.ha = 0 ∨ H.ha = 1 := by omega
      rcases this with e | e <;> rw [e] <;> omega
    omega
  have hbl : H.ha < ca.size := by omega
  have hmulu : fr + 2 + H.ha * ((ct - 2) / 2) + i < 4096 := by omega
  have X1 := (kg xb (Heap.lt_of_get x1)).trans x1
  have L1 := (kg lp (Heap.lt_of_get l1)).trans l1
  have A1 := (kg bb (Heap.lt_of_get a1)).trans a1
  have hxg : DkX g M bd D := hx.old hng kg
  have ra := hR xb
  have rb := hR lp
  have rc := hR bb
  simp -implicitDefEqProofs (disch := (first | omega | (simp -implicitDefEqProofs only [szs, ne_eq] <;> omega) | fail)) only [go_sem, Nat.reduceAdd, Nat.reduceSub, Nat.reduceMul, Nat.reduceLT, Nat.reduceMod, Nat.reduceDiv, Nat.reduceEqDiff, Nat.reduceBEq, Nat.reduceLeDiff, ↓reduceIte, reduceCtorEq, Int.reduceAdd, Int.reduceSub, Int.reduceLT, Int.reduceLE, Int.reduceBEq, Int.reduceEq, Int.reduceToNat, ir35_l0, undefV, t1, t2, t4, t24, t25, hci, X1, x2, x3, L1, l2, l4, l8, ra, rb, rc, hA, hA0, A1, a2, hbl, ag, e1]
  refine GCallD.of (R' := fun _ => True) (W' := fun _ => False) ((read_dk (R := fun _ => True) (W := fun _ => False) hxg (fun _ => trivial) hsn).any.foot (fun _ h => h) (fun _ h => h)) ?_
  rintro r g1 ⟨b, rfl, hb, n1, k1⟩
  have hq : D.seen (fr + 2 + H.ha * ((ct - 2) / 2) + i) = secA D fr ct H.ha i := rfl
  rw [hq] at hb
  have hs := hsec i (by omega)
  have hd : LR g1 (fun k => g.n ≤ k) (.slice (some (b, 8)) 120 120 true) ((secA D fr ct H.ha i).drop 8) := by
    rcases hb with ⟨h1, _⟩ | ⟨b', o, cap, ex, c, ce, hbe, _, h1, h2, h3⟩
    · have := hs.1; rw [h1] at this; cases this
    · rw [hs.1] at hbe h2 h3
      cases hbe
      have := sub_lr (o := 8) (k := 120) (cap := 120) (ex := true) h1 (by omega) h3 (by omega)
      rw [List.take_of_length_le (by rw [List.length_drop]; omega)] at this
      exact this.mono fun x _ hx => by subst hx; assumption
  have ho1 : Own g2.n g1 v (snapC (secA D fr ct H.ha) i) 5 := ho.old k1
  obtain ⟨q1, rs, q2⟩ := first_lr' hd
  have hl1 : (snapC (secA D fr ct H.ha) i).length = 120 * i := snapC_len fun j hj => (hsec j (by omega)).1
  obtain ⟨v2, G, rr, ww, hap, ho2, nG, lG, wG, kG, tG⟩ := app_own (bytes := 1) ho1 (by omega) q1 q2 (hs.2.drop 8).allOne (by rw [List.length_drop]; omega) (by rw [List.length_drop]; omega)
  have hvo := ho2.lr.one
  have hvo1 := ho1.lr.one
  have q3 : allB R rr := allB_of fun b _ => hR b
  have q4 : allB W ww := allB_of fun b hb => hW b (wG b hb)
  simp -implicitDefEqProofs (disch := (first | omega | (simp -implicitDefEqProofs only [szs, ne_eq] <;> omega) | fail)) only [go_sem, seval, ↓reduceIte, reduceCtorEq, undefV, t1, t2, t4, t24, t25, sl_128, appendV_of ap_22, hap, ↓hvo, ↓hvo1, q3, q4]
  refine ⟨⟨fun _ => hR _, fun _ => hR _, fun _ => hR _, fun _ => hR _, fun _ => hR _, fun b _ _ => hR b, fun b _ h => h.elim⟩, k - 1, by omega, i + 1, v2, by omega, by simp, rfl, by rw [snapC_succ]; exact ho2, by omega, fun k hk => ?_⟩
  rw [lG k hk, k1 k (by omega), kg k hk]
theorem sl_all {n0 sz : Nat} {v : V} {l : List V} (ho : Own n0 h v l 5) (hs : sz ≤ l.length) : ∃ v', sliceV Try.prog 22 v none (some (sz : Int)) (some (sz : Int)) = some v' ∧ LR h (fun b => n0 ≤ b ∧ ∃ c, h.get b = some (.cells c 5)) v' (l.take sz) := by
  have hbv : ∀ n : Nat, sz ≤ n → boundsV n n none (some (sz : Int)) (some (sz : Int)) = some (0, sz, sz) := fun n hn => by
    simp only [boundsV, Int.toNat_natCast]
    rw [if_pos (by omega)]
    simp only []
    rw [if_pos (by omega)]
  have hlt : (l.take sz).length = sz := by rw [List.length_take]; omega
  rcases ho with ⟨rfl, rfl | ⟨b, c, rfl, h1, hb, hr⟩⟩ | ⟨b, x, c, h0, rfl, h1, hb, hs', hr, hg⟩
  · obtain rfl : sz = 0 := by simpa using hs
    exact ⟨_, by simp only [sliceV, Try.underlying22, sz_5]; rfl, .inl ⟨rfl, .inl rfl⟩⟩
  · obtain rfl : sz = 0 := by simpa using hs
    refine ⟨.slice (some (b, 0)) 0 0 true, by simp only [sliceV, Try.underlying22, sz_5]; rfl, .inr ⟨b, 0, 0, true, c, 5, rfl, ⟨h1, c, hb⟩, hb, by simp, rfl⟩⟩
  · refine ⟨.slice (some (b, 0)) sz sz true, ?_, .inr ⟨b, 0, sz, true, c, 5, by rw [hlt], ⟨h1, c, hb⟩, hb, by omega, by rw [hlt, gets_sub hg (by omega), List.drop_zero]⟩⟩
    simp only [sliceV, Try.underlying22, sz_5]
    rw [hbv _ hs]
    cases x <;> (simp only [Nat.zero_mul, Nat.sub_zero]; cases Nat.beq sz 0 <;> rfl)
end Go.Proofs.Ytakgjjbmniilhaa
