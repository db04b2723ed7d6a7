/- RedoHalfway, walked. -/
import Derived.Test.YtakgjjbmniilhaaMg13
set_option linter.unusedVariables false
set_option linter.unusedSimpArgs false
set_option linter.unusedSimpArgs false
set_option maxRecDepth 100000
set_option linter.unusedVariables false
set_option linter.unusedSimpArgs false
namespace Go.Proofs.Ytakgjjbmniilhaa
open Go Go.Vm
attribute [-go_sem] sz_101
variable {h g g' : Heap} {R W M N X : Set'} {bd lp bd' lm j : Nat} {D DN : DS} {G Gm Go : LgS}
theorem LgX.up {N' : Set'} {fr ct : Nat} (hl : LgX g N lp bd fr ct G) (hN : ∀ k, N k → N' k) (hlt : ∀ k, N' k → k < g.n) : LgX g N' lp bd fr ct G := ⟨hl.a.mono fun k _ h => hN k h, hlt, hN lp hl.l⟩
theorem DkX.up {M' : Set'} (hx : DkX g M bd D) (hM : ∀ k, M k → M' k) (hlt : ∀ k, M' k → k < g.n) : DkX g M' bd D := by
  obtain ⟨⟨L, hd, hf⟩, _⟩ := hx
  exact ⟨⟨L, hd, fun b hb => hM b (hf b hb)⟩, hlt⟩
theorem Pg.keep {n0 fr ct : Nat} (hp : Pg g n0 M N bd lp fr ct D G) (hn : g.n ≤ g'.n) (hk : ∀ k, M k ∨ N k → g'.get k = g.get k) : Pg g' n0 M N bd lp fr ct D G := ⟨hp.x.same hn fun k h => hk k (.inl h), hp.l.keep hn fun k _ h => hk k (.inr h), hp.ne, hp.lo⟩
theorem half_crash {k : Nat} {l : List V} {kl : List Int} (hl : l.length ≤ 2000) (hc : Coh D.seen 0 40 k G) (hfl : ∀ s, s < 40 → D.fl s = D.seen s ∧ D.pe s = []) : CohO ((wrD D (ckD (layD D 0 40 (upH G.H)) 0 40 (reG G) l) 40).crashed (crF (wrD D (ckD (layD D 0 40 (upH G.H)) 0 40 (reG G) l) 40) kl)).seen 0 40 G := by
  obtain ⟨DN, eN⟩ : ∃ DN, DN = ckD (layD D 0 40 (upH G.H)) 0 40 (reG G) l := ⟨_, rfl⟩
  rw [← eN]
  have hha := hc.o.ok.ha
  have key : ∀ x, x < 40 → (x < 2 ∨ DN.seen x = D.seen x) → ((wrD D DN 40).crashed (crF (wrD D DN 40) kl)).seen x = D.seen x := fun x hx h => by
    show crF (wrD D DN 40) kl x = _
    obtain ⟨h1, h2⟩ := hfl x hx
    rcases (crF_ok (wrD D DN 40) kl).2 x with h3 | h3
    · rw [h3, wrD_fl, h1]
    · rw [wrD_pe D DN h, h2] at h3; cases h3
  have h40 : (40 - 2) / 2 = 19 := rfl
  refine hc.o.same (key 0 (by omega) (.inl (by omega))) (key 1 (by omega) (.inl (by omega))) (fun i hi => ?_) hc.at' hc.sz
  have := half_lt hha hi
  refine key _ (by omega) (.inr ?_)
  rw [eN, seen_ck, if_neg (by have := Nat.mod_lt (ckH (reG G) l).ep (show 0 < 2 by omega); omega), if_neg (fun hcc => ?_), seen_lay, if_neg (by have := Nat.mod_lt (upH G.H).ep (show 0 < 2 by omega); omega)]
  have e1 : (reG G).H.ha = G.H.ha := rfl
  rw [e1] at hcc
  have hsl : secsN l.length = (l.length + 119) / 120 := rfl
  have hsec : G.H.ha = 0 ∨ G.H.ha = 1 := by omega
  rcases hsec with e | e <;> rw [e] at hcc <;> omega
set_option maxHeartbeats 16000000 in
theorem half_law {vs vn vk : V} {m : Nat} {ln : List V} {kl : List Int} (hst : StepsR h vs m) (hsn : DatV h vn ln) (hkv : LR h (fun b => b < h.n) vk (kl.map (V.int .i64))) (hkl : ∀ k ∈ kl, -9223372036854775808 ≤ k ∧ k ≤ 9223372036854775807) (hR : ∀ b, R b) :
    SF ⟨Try.prog, true⟩ 6 [vs, vn, vk] h R W fun r _ => r = .bool true := by
  have hR' : ∀ b, h.n ≤ b ∨ R b := fun b => .inr (hR b)
  have hW' : ∀ b, h.n ≤ b → h.n ≤ b ∨ W b := fun b => .inl
  have hlen := hst.len
  have hlen2 := hsn.r.lenV Try.underlying22
  refine SF.go hm Try.func6 ir6_eq ?_
  rw [ir6_x_eq]
  by_cases h20 : 20 < m
  · have i1 : (20 : Int) < (m : Int) := by omega
    simp -implicitDefEqProofs (disch := (first | omega | (simp -implicitDefEqProofs only [szs, ne_eq] <;> omega) | fail)) only [go_sem, seval, ↓reduceIte, reduceCtorEq, ir6_x, ir6, undefV, ↓hlen, i1]
    refine GCall.of (known_c hR') ?_
    rintro r g rfl
    simp -implicitDefEqProofs (disch := (first | omega | (simp -implicitDefEqProofs only [szs, ne_eq] <;> omega) | fail)) only [go_sem, seval, ↓reduceIte, reduceCtorEq]
  have i1 : ¬ (20 : Int) < (m : Int) := by omega
  by_cases h2k : 2000 < ln.length
  · have i2 : (2000 : Int) < (ln.length : Int) := by omega
    simp -implicitDefEqProofs (disch := (first | omega | (simp -implicitDefEqProofs only [szs, ne_eq] <;> omega) | fail)) only [go_sem, seval, ↓reduceIte, reduceCtorEq, ir6_x, ir6, undefV, ↓hlen, ↓hlen2, i1, i2]
    refine GCall.of (known_c hR') ?_
    rintro r g rfl
    simp -implicitDefEqProofs (disch := (first | omega | (simp -implicitDefEqProofs only [szs, ne_eq] <;> omega) | fail)) only [go_sem, seval, ↓reduceIte, reduceCtorEq]
  have i2 : ¬ (2000 : Int) < (ln.length : Int) := by omega
  simp -implicitDefEqProofs (disch := (first | omega | (simp -implicitDefEqProofs only [szs, ne_eq] <;> omega) | fail)) only [go_sem, seval, ↓reduceIte, reduceCtorEq, ir6_x, ir6, undefV, ↓hlen, ↓hlen2, i1, i2]
  refine GCall.of (new_dk (n := 40) ⟨by omega, by omega⟩).any ?_
  rintro r g1 ⟨M1, bd, rfl, hx1, hM1, n1, k1⟩
  rw [show (40 : Int).toNat = 40 from rfl] at hx1
  simp -implicitDefEqProofs (disch := (first | omega | (simp -implicitDefEqProofs only [szs, ne_eq] <;> omega) | fail)) only [go_sem, seval, ↓reduceIte, reduceCtorEq, undefV]
  refine GCall.of (open_log (f := 0) (k := 40) hx1 (by omega) (by omega) ((few_new 40).lt (by omega)) hR' fun k hk => .inl (hM1 k hk)) ?_
  rintro r g2 hq
  have ho : okO (DS.new 40) 0 40 := by unfold okO; exact ⟨by decide, by decide, by decide, by decide⟩
  have hb0 : BlankS (DS.new 40) 0 40 := blank_new 40 0 40
  unfold OpenQ at hq
  rw [if_pos ho, show (0 : Int).toNat = 0 from rfl, show (40 : Int).toNat = 40 from rfl, open_blank hb0 (by omega)] at hq
  obtain ⟨lp, hlp, rfl, n2, k2, M2, N2, hx2, hl2, hM2, hN2, hd2⟩ := hq
  have hp2 : Pg g2 h.n M2 N2 bd lp 0 40 (layD (DS.new 40) 0 40 H1) G1 := ⟨hx2, hl2, hd2, fun k hk => hk.elim (fun h => (hM2 k h).elim (hM1 k) fun h => by omega) fun h => (hN2 k h).elim (fun h => h.elim) fun h => by omega⟩
  have hs0 : HwS h g2 bd lp 0 := ⟨by omega, fun k hk => by rw [k2 k (by omega) (fun h => by have := hM1 k h; omega) id, k1 k hk], M2, N2, _, _, hp2, coh_new hb0 (by omega), few_lay (few_new 40), rfl, Nat.le_refl _, Byt.nil, Nat.zero_le _⟩
  simp -implicitDefEqProofs (disch := (first | omega | (simp -implicitDefEqProofs only [szs, ne_eq] <;> omega) | fail)) only [go_sem, seval, ↓reduceIte, reduceCtorEq, undefV]
  refine hw_l0 hR' hW' hst (by omega) hs0 (by simp -implicitDefEqProofs (disch := (first | omega | (simp -implicitDefEqProofs only [szs, ne_eq] <;> omega) | fail)) only [go_sem, seval, ↓reduceIte, reduceCtorEq]) (x1 := vn) (by simp -implicitDefEqProofs (disch := (first | omega | (simp -implicitDefEqProofs only [szs, ne_eq] <;> omega) | fail)) only [go_sem, seval, ↓reduceIte, reduceCtorEq]) (x2 := vk) (by simp -implicitDefEqProofs (disch := (first | omega | (simp -implicitDefEqProofs only [szs, ne_eq] <;> omega) | fail)) only [go_sem, seval, ↓reduceIte, reduceCtorEq]) (by simp -implicitDefEqProofs (disch := (first | omega | (simp -implicitDefEqProofs only [szs, ne_eq] <;> omega) | fail)) only [go_sem, seval, ↓reduceIte, reduceCtorEq]) (by simp -implicitDefEqProofs (disch := (first | omega | (simp -implicitDefEqProofs only [szs, ne_eq] <;> omega) | fail)) only [go_sem, seval, ↓reduceIte, reduceCtorEq]) (by simp -implicitDefEqProofs (disch := (first | omega | (simp -implicitDefEqProofs only [szs, ne_eq] <;> omega) | fail)) only [go_sem, seval, ↓reduceIte, reduceCtorEq]) ?_
  clear hs0 hp2 hd2 hN2 hM2 hl2 hx2 k2 n2 hlp hM1 hx1 k1 n1
  clear ho hb0 N2 M2 g2 M1 g1
  intro tr g t1 t2 t7 t9 hs
  simp -implicitDefEqProofs (disch := (first | omega | (simp -implicitDefEqProofs only [szs, ne_eq] <;> omega) | fail)) only [go_sem, seval, ↓reduceIte, reduceCtorEq, ir6_y, ir6, undefV, t1, t2, t7, t9]
  refine GCall.of (hw_sync hs (by omega) hR' hW') ?_
  rintro r g3 ⟨⟨M, N, D, G, hp, hc, hf, hD, hrs, hsb, hsl, hfl⟩, n3, k3⟩
  have hbd := hc.bd
  simp -implicitDefEqProofs (disch := (first | omega | (simp -implicitDefEqProofs only [szs, ne_eq] <;> omega) | fail)) only [go_sem, seval, ↓reduceIte, reduceCtorEq, undefV, t1, t2, t7, t9]
  refine GCall.of (last_ok hp.l hR' (by omega)).any ?_
  rintro r g3' ⟨rfl, rfl⟩
  simp -implicitDefEqProofs (disch := (first | omega | (simp -implicitDefEqProofs only [szs, ne_eq] <;> omega) | fail)) only [go_sem, seval, ↓reduceIte, reduceCtorEq, undefV, t1, t2, t7, t9]
  refine GCall.of (copy_dk hp.x hR') ?_
  rintro r g4 ⟨M4, bd', rfl, hx4, hM4, n4, k4⟩
  have hp4 : Pg g4 h.n M N bd lp 0 40 D G := hp.old n4 fun k _ h => k4 k h
  simp -implicitDefEqProofs (disch := (first | omega | (simp -implicitDefEqProofs only [szs, ne_eq] <;> omega) | fail)) only [go_sem, seval, ↓reduceIte, reduceCtorEq, undefV, t1, t2, t7, t9]
  refine GCall.of (open_log (f := 0) (k := 40) hx4 (by omega) (by omega) (hf.lt (by omega)) hR' fun k hk => .inl (by have := hM4 k hk; omega)) ?_
  rintro r g5 hq
  have ho : okO D 0 40 := by unfold okO; omega
  unfold OpenQ at hq
  rw [if_pos ho, show (0 : Int).toNat = 0 from rfl, show (40 : Int).toNat = 40 from rfl, hc.o.opens] at hq
  obtain ⟨lm, hlm, rfl, n5, k5, M5, N5, hx5, hl5, hM5, hN5, hd5⟩ := hq
  have hlt := hp.lt
  have hp5 : Pg g5 h.n M N bd lp 0 40 D G := hp.keep (by omega) fun k hk => by
    have := hlt k hk
    rw [k5 k (by omega) (fun h => by have := hM4 k h; omega) id, k4 k this]
  have hq5 : Pg g5 g3'.n M5 N5 bd' lm 0 40 (layD D 0 40 (upH G.H)) (reG G) := ⟨hx5, hl5, hd5, fun k hk => hk.elim (fun h => (hM5 k h).elim (hM4 k) fun h => by omega) fun h => (hN5 k h).elim (fun h => h.elim) fun h => by omega⟩
  have kh5 : ∀ k, k < h.n → g5.get k = h.get k := fun k hk => by rw [k5 k (by omega) (fun h => by have := hM4 k h; omega) id, k4 k (by omega), k3 k hk]
  have c5 := hc.re (by omega)
  have hnx := c5.o.nx
  have hbd5 := c5.bd
  have hl2k : ¬ (40 - 2) / 2 * 120 < ln.length := by omega
  simp -implicitDefEqProofs (disch := (first | omega | (simp -implicitDefEqProofs only [szs, ne_eq] <;> omega) | fail)) only [go_sem, seval, ↓reduceIte, reduceCtorEq, undefV, t1, t2, t7, t9]
  refine GCall.of (checkpoint_ok hq5.x hq5.l hq5.ne (by show 16 ≤ 40 ∧ 0 + 40 ≤ D.n; omega) hR' (fun k hk => hW' k (by have := hq5.lo k hk; omega)) (hsn.r.old kh5) (fun k hk => by omega) hsn.by' c5.o.ok.ha ⟨by omega, by omega, hnx⟩ ((few_lay hf).lt' (by omega))) ?_
  rintro r g6 hq
  unfold CkQ at hq
  rw [if_neg hl2k, c5.ckG (by omega) (by omega) (by omega)] at hq
  obtain ⟨rfl, hq⟩ := hq
  obtain ⟨⟨n6, k6⟩, M6, N6, hq6, hs6⟩ := hq5.two (by omega) hq
  have hp6 : Pg g6 h.n M N bd lp 0 40 D G := hp5.keep n6 fun k hk => k6 k (hlt k hk)
  have hlo6 := hq6.lo
  have hT : HwT h g6 bd lp bd' lm D (ckD (layD D 0 40 (upH G.H)) 0 40 (reG G) ln) G (ckR (reG G) ln ((reG G).nx - 1)) 0 := by
    have hX : ∀ k, (N k ∨ M6 k ∨ N6 k) → ¬ M k ∧ k < g6.n := fun k hk => by
      rcases hk with h | h | h
      · exact ⟨hp.ne k h, hp6.l.lt k h⟩
      · exact ⟨fun h2 => by have := hlt k (.inl h2); have := hlo6 k (.inl h); omega, hq6.x.lt k h⟩
      · exact ⟨fun h2 => by have := hlt k (.inl h2); have := hlo6 k (.inr h); omega, hq6.l.lt k h⟩
    exact ⟨by omega, fun k hk => by rw [k6 k (by omega), kh5 k hk], M, fun k => N k ∨ M6 k ∨ N6 k, hp6.x, fun k hk => hp.lo k (.inl hk), hX, hp6.l.up (fun k h => .inl h) fun k h => (hX k h).2, hq6.x.up (fun k h => .inr (.inl h)) fun k h => (hX k h).2, hq6.l.up (fun k h => .inr (.inr h)) fun k h => (hX k h).2⟩
  have hcr := half_crash (l := ln) (kl := kl) (by omega) hc hfl
  have hdn : (ckD (layD D 0 40 (upH G.H)) 0 40 (reG G) ln).n = 40 := (snapW_n _ _ _ _).trans hD
  obtain ⟨DN, eN⟩ : ∃ DN, DN = ckD (layD D 0 40 (upH G.H)) 0 40 (reG G) ln := ⟨_, rfl⟩
  rw [← eN] at hT hcr hdn
  simp -implicitDefEqProofs (disch := (first | omega | (simp -implicitDefEqProofs only [szs, ne_eq] <;> omega) | fail)) only [go_sem, seval, ↓reduceIte, reduceCtorEq, undefV, t1, t2, t7, t9]
  refine hw_l1 hR' hW' hT ⟨hD, hdn⟩ hf (by omega) (x1 := vn) (by simp -implicitDefEqProofs (disch := (first | omega | (simp -implicitDefEqProofs only [szs, ne_eq] <;> omega) | fail)) only [go_sem, seval, ↓reduceIte, reduceCtorEq, t1]) (x2 := vk) (by simp -implicitDefEqProofs (disch := (first | omega | (simp -implicitDefEqProofs only [szs, ne_eq] <;> omega) | fail)) only [go_sem, seval, ↓reduceIte, reduceCtorEq, t2]) (by simp -implicitDefEqProofs (disch := (first | omega | (simp -implicitDefEqProofs only [szs, ne_eq] <;> omega) | fail)) only [go_sem, seval, ↓reduceIte, reduceCtorEq, t7]) (x9 := .ptr (some (lp, 0))) (by simp -implicitDefEqProofs (disch := (first | omega | (simp -implicitDefEqProofs only [szs, ne_eq] <;> omega) | fail)) only [go_sem, seval, ↓reduceIte, reduceCtorEq, t9]) (x12 := .int .i64 ((G.nx : Int) - 1)) (by simp -implicitDefEqProofs (disch := (first | omega | (simp -implicitDefEqProofs only [szs, ne_eq] <;> omega) | fail)) only [go_sem, seval, ↓reduceIte, reduceCtorEq]) (by simp -implicitDefEqProofs (disch := (first | omega | (simp -implicitDefEqProofs only [szs, ne_eq] <;> omega) | fail)) only [go_sem, seval, ↓reduceIte, reduceCtorEq]) (x14 := .ptr (some (lm, 0))) (by simp -implicitDefEqProofs (disch := (first | omega | (simp -implicitDefEqProofs only [szs, ne_eq] <;> omega) | fail)) only [go_sem, seval, ↓reduceIte, reduceCtorEq]) (x15 := .bool true) (by simp -implicitDefEqProofs (disch := (first | omega | (simp -implicitDefEqProofs only [szs, ne_eq] <;> omega) | fail)) only [go_sem, seval, ↓reduceIte, reduceCtorEq]) (by simp -implicitDefEqProofs (disch := (first | omega | (simp -implicitDefEqProofs only [szs, ne_eq] <;> omega) | fail)) only [go_sem, seval, ↓reduceIte, reduceCtorEq]) ?_
  clear hT hlo6 hp6 hq6 hs6 k6 n6 kh5 hq5 hp5 hlt hd5 hN5 hM5 hl5 hx5 k5 n5 hlm ho hp4 k4 n4 hM4 hx4 t1 t2 t7 t9 tr
  intro tr g7 t1 t2 t7 t9 t12 t14 t15 ⟨n7, k7, M7, X7, hx7, hM7, hX7, hl7, hy7, hlm7⟩
  simp -implicitDefEqProofs (disch := (first | omega | (simp -implicitDefEqProofs only [szs, ne_eq] <;> omega) | fail)) only [go_sem, seval, ↓reduceIte, reduceCtorEq, undefV, t1, t2, t7, t9, t12, t14, t15]
  refine GCall.of (lcrash_nil hx7 hR' ((hkv.old k7).mono fun b h1 h2 => h1) hkl ((few_wr hf 40).lt (by omega))) ?_
  rintro r g8 ⟨M8, bd8, rfl, hx8, hM8, n8, k8⟩
  have f8 : Few ((wrD D DN 40).crashed (crF (wrD D DN 40) kl)) 0 := fun s => Nat.le_refl _
  have d8 : ((wrD D DN 40).crashed (crF (wrD D DN 40) kl)).n = 40 := (wrD_n D DN 40).trans hD
  obtain ⟨D8, eD8⟩ : ∃ D8, D8 = (wrD D DN 40).crashed (crF (wrD D DN 40) kl) := ⟨_, rfl⟩
  rw [← eD8] at hx8 f8 d8 hcr
  simp -implicitDefEqProofs (disch := (first | omega | (simp -implicitDefEqProofs only [szs, ne_eq] <;> omega) | fail)) only [go_sem, seval, ↓reduceIte, reduceCtorEq, undefV, t1, t2, t7, t9, t12, t14, t15]
  refine GCall.of (open_log (f := 0) (k := 40) hx8 (by omega) (by omega) (f8.lt (by omega)) hR' fun k hk => .inl (by have := hM8 k hk; omega)) ?_
  rintro r g9 hq
  have ho : okO D8 0 40 := by unfold okO; omega
  unfold OpenQ at hq
  rw [if_pos ho, show (0 : Int).toNat = 0 from rfl, show (40 : Int).toNat = 40 from rfl, hcr.opens] at hq
  obtain ⟨lo, hlo, rfl, n9, k9, M9, N9, hx9, hl9, hM9, hN9, hd9⟩ := hq
  have kX : ∀ k, X7 k → g9.get k = g7.get k := fun k hk => by
    have := (hX7 k hk).2
    rw [k9 k (by omega) (fun h => by have := hM8 k h; omega) id, k8 k this]
  have kh9 : ∀ k, k < h.n → g9.get k = h.get k := fun k hk => by rw [k9 k (by omega) (fun h => by have := hM8 k h; omega) id, k8 k (by omega), k7 k hk]
  simp -implicitDefEqProofs (disch := (first | omega | (simp -implicitDefEqProofs only [szs, ne_eq] <;> omega) | fail)) only [go_sem, seval, ↓reduceIte, reduceCtorEq, undefV, t1, t2, t7, t9, t12, t14, t15]
  exact hw_z (G := G) (Gm := ckR (reG G) ln ((reG G).nx - 1)) (Go := reG G) (v := vn) (ls := ln) hR' (hl7.keep (by omega) fun k _ h => kX k h) (hlm7.keep (by omega) fun k _ h => kX k h) hl9 rfl rfl rfl rfl ⟨hsb, hsl⟩ ⟨hsn.by', by omega⟩ (by omega) (hsn.r.old kh9) (fun b hb => by omega) (by simp -implicitDefEqProofs (disch := (first | omega | (simp -implicitDefEqProofs only [szs, ne_eq] <;> omega) | fail)) only [go_sem, seval, ↓reduceIte, reduceCtorEq, t1]) (by simp -implicitDefEqProofs (disch := (first | omega | (simp -implicitDefEqProofs only [szs, ne_eq] <;> omega) | fail)) only [go_sem, seval, ↓reduceIte, reduceCtorEq, t9]) (by simp -implicitDefEqProofs (disch := (first | omega | (simp -implicitDefEqProofs only [szs, ne_eq] <;> omega) | fail)) only [go_sem, seval, ↓reduceIte, reduceCtorEq]) (by simp -implicitDefEqProofs (disch := (first | omega | (simp -implicitDefEqProofs only [szs, ne_eq] <;> omega) | fail)) only [go_sem, seval, ↓reduceIte, reduceCtorEq, t12]) (by simp -implicitDefEqProofs (disch := (first | omega | (simp -implicitDefEqProofs only [szs, ne_eq] <;> omega) | fail)) only [go_sem, seval, ↓reduceIte, reduceCtorEq, t14]) (by simp -implicitDefEqProofs (disch := (first | omega | (simp -implicitDefEqProofs only [szs, ne_eq] <;> omega) | fail)) only [go_sem, seval, ↓reduceIte, reduceCtorEq, t15]) (by simp -implicitDefEqProofs (disch := (first | omega | (simp -implicitDefEqProofs only [szs, ne_eq] <;> omega) | fail)) only [go_sem, seval, ↓reduceIte, reduceCtorEq]) fun k hk => .inl (by omega)
end Go.Proofs.Ytakgjjbmniilhaa
