/- The log: a round of load, the record. -/
import Derived.Test.YtakgjjbmniilhaaHA
set_option linter.unusedVariables false
set_option linter.unusedSimpArgs false
set_option linter.unusedSimpArgs false
set_option maxRecDepth 100000
set_option linter.unusedVariables false
set_option linter.unusedSimpArgs false
namespace Go.Proofs.Ytakgjjbmniilhaa
open Go Go.Vm
attribute [-go_sem] sz_101
variable {h g : Heap} {R W M : Set'} {bd lp fr ct : Nat} {D : DS}
def LdF (g g' : Heap) (lp bw n0 : Nat) : Prop := g.n ≤ g'.n ∧ ∀ k, k < g.n → k ≠ lp → k ≠ bw → k ≠ bw + 1 → k ≠ bw + 2 → (k < n0 ∨ ∀ c, g.get k ≠ some (.cells c 5) ∧ g.get k ≠ some (.cells c 22)) → g'.get k = g.get k
theorem gets_out {c : Blk} {a n k : Nat} {v : V} (h : k < a ∨ a + n ≤ k) : (c.set k v).gets a n = c.gets a n := by
  refine List.ext_getElem? fun j => ?_
  by_cases hj : j < n
  · rw [Blk.gets_get _ _ _ _ hj, Blk.gets_get _ _ _ _ hj, Blk.get_set, if_neg (by omega)]
  · rw [List.getElem?_eq_none (by rw [Blk.length_gets]; omega), List.getElem?_eq_none (by rw [Blk.length_gets]; omega)]
theorem own_keep' {n0 : Nat} {h h' : Heap} {v : V} {l : List V} {e : TypeId} (ho : Own n0 h v l e) (hk : ∀ b c, h.get b = some (.cells c e) → n0 ≤ b → h'.get b = some (.cells c e)) : Own n0 h' v l e := by
  rcases ho with ⟨rfl, rfl | ⟨b, c, rfl, h1, hb, hr⟩⟩ | ⟨b, x, c, h0, rfl, h1, hb, hs⟩
  · exact .inl ⟨rfl, .inl rfl⟩
  · exact .inl ⟨rfl, .inr ⟨b, c, rfl, h1, hk _ _ hb h1, hr⟩⟩
  · exact .inr ⟨b, x, c, h0, rfl, h1, hk _ _ hb h1, hs⟩
theorem LdF.trans {g1 g2 g3 : Heap} {lp bw n0 : Nat} (h1 : LdF g1 g2 lp bw n0) (h2 : LdF g2 g3 lp bw n0) : LdF g1 g3 lp bw n0 :=
  ⟨Nat.le_trans h1.1 h2.1, fun k k1 k2 k3 k4 k5 k6 => by
    have e := h1.2 k k1 k2 k3 k4 k5 k6
    rw [h2.2 k (Nat.lt_of_lt_of_le k1 h1.1) k2 k3 k4 k5 (k6.imp id fun h c => by rw [e]; exact h c), e]⟩
def midL (s : LS) (r : Rc) : LS := ⟨r.num, r.ep, r.pl + 1, r.of, s.rc ++ r.dat, s.cn + 1, s.rs, s.at', s.nx⟩
theorem good_mid {s : LS} {r : Rc} (h : ¬ r.pl + 1 = r.of) : goodL s r = midL s r := by unfold goodL; rw [if_neg h]; rfl
theorem good_end {s : LS} {r : Rc} (h : r.pl + 1 = r.of) : goodL s r = ⟨s.nx + 1, r.ep, 0, 0, [], 0, s.rs ++ [s.rc ++ r.dat], s.at' + (s.cn + 1), s.nx + 1⟩ := by unfold goodL; rw [if_pos h]
set_option maxHeartbeats 8000000 in
theorem f2_ok {Q : Ex → Fr → Heap → Prop} {t : List It} {mks : List Nat} {y bm bw xb n0 ep : Nat} {cm cx : Blk} {s : LS} {H : Hd} {tr : Tr V} {v10 v11 : V} {c cw cr cn : Blk} {rv v : V} {vs : List V} (hR : ∀ b, R b) (hW : ∀ k, n0 ≤ k → W k) (hWl : W lp) (hWb : W bw ∧ W (bw + 1) ∧ W (bw + 2))
    (hlo : lp < bw ∧ xb < bw ∧ xb ≠ lp ∧ bw + 2 < n0 ∧ n0 ≤ bm ∧ n0 ≤ g.n)
    (t1 : tr.get 1 = some (.ptr (some (xb, 0)))) (t8 : tr.get 8 = some (.ptr (some (bw, 0)))) (t9 : tr.get 9 = some (.ptr (some (bw + 1, 0)))) (t10 : tr.get 10 = some (.ptr (some (bw + 2, 0)))) (t11 : tr.get 11 = some (.ptr (some (bm, 0))))
    (x1 : g.get xb = some (.cells cx 32)) (x2 : cx.size = 1) (x3 : cx.get 0 = .ptr (some (lp, 0)))
    (m1 : g.get bm = some (.cells cm 90)) (m2 : cm.size = 4) (b1 : cm.get 1 = .int .u64 (ep : Int))
    (hl : LdR g lp bd fr ct bw n0 v10 v11 H s c cw cr cn rv v vs)
    (hvl : vs.length ≤ 10000) (hn1 : s.nx + 1 < 9223372036854775808) (hn2 : s.cn ≤ 10001 ∧ s.at' ≤ 10000)
    (hk : ∀ tr' g', LdM g' lp bd fr ct bw n0 v10 v11 H ⟨s.nx + 1, ep, 0, 0, [], 0, s.rs ++ [s.rc], s.at' + s.cn, s.nx + 1⟩ → LdF g g' lp bw n0 → GO (⟨Try.prog, true⟩ : MP) R W (some y) Q t ⟨⟨211, tr'⟩, mks⟩ g') :
    GO (⟨Try.prog, true⟩ : MP) R W (some y) Q (.code ir35_b0_f2 :: t) ⟨⟨211, tr⟩, mks⟩ g := by
  obtain ⟨l1, l2, l3, k0, k1, k2, k3, k8, k9, k10, k11, k12, w1, w2, w3, a0, a1, a2, a3, r1, r2, r3, r4, rd, n1, n2, n3, n4, vd, vl, ve⟩ := hl
  obtain ⟨hlb, hxb, hxl, hbn, hbm, hng⟩ := hlo
  obtain ⟨W1, W2, W3⟩ := hWb
  have ra := hR xb
  have rb := hR lp
  have rc := hR bm
  have r5 := hR bw
  have r6 := hR (bw + 1)
  have r7 := hR (bw + 2)
  have hvo := rd.lr.one
  have hvc := rd.lr.cells
  have hro := vd.lr.one
  obtain ⟨v2, G, rr, ww, hap, ho2, nG, lG, wG, kG, tG⟩ := app_own (bytes := 24) (h := g.push (.cells (Blk.of [v]) 22)) (x := .slice (some (g.n, 0)) 1 1 true) (vd.old fun b hb => by rw [w_push_ne (by omega)]) (by rw [Heap.n_push]; omega) rfl (first_one (w_push_eq rfl _)) (by simp only [allOne, hvo]) (by simp only [List.length_cons, List.length_nil]; omega) (by simp only [List.length_cons, List.length_nil]; omega)
  have h2o := ho2.lr.one
  have h2c := ho2.lr.cells
  have WW : ∀ b ∈ ww, W b := fun b hb => hW b (wG b hb)
  have nel : ∀ {k c e}, g.get k = some (.cells c e) → (k < n0 ∨ e ≠ 22) → G.get k = some (.cells c e) := fun {k c e} h1 h2 => by
    have hlt := Heap.lt_of_get h1
    have h3 : (g.push (.cells (Blk.of [v]) 22)).get k = some (.cells c e) := by rw [w_push_ne (by omega)]; exact h1
    rcases h2 with h2 | h2
    · rw [lG k h2, h3]
    · rw [kG k (by rw [Heap.n_push]; omega) (fun h4 => ?_), h3]
      obtain ⟨c', h5⟩ := tG k h4
      rw [h3] at h5; cases h5; exact h2 rfl
  have nG' : g.n + 1 ≤ G.n := nG
  have L1 := nel l1 (.inl (by omega))
  have X1 := nel x1 (.inl (by omega))
  have M1 := nel m1 (.inr (by decide))
  have B1 := nel w1 (.inl (by omega))
  have B2 := nel r1 (.inl (by omega))
  have B3 := nel n1 (.inl (by omega))
  have e1 : (s.at' : Int) + (s.cn : Int) = ((s.at' + s.cn : Nat) : Int) := by omega
  have e2 : (s.nx : Int) + 1 = ((s.nx + 1 : Nat) : Int) := by omega
  have e3 : IntKind.u64.wrap ((s.nx + 1 : Nat) : Int) = ((s.nx + 1 : Nat) : Int) := wrap64 (by omega)
  simp -implicitDefEqProofs (disch := (first | omega | (simp -implicitDefEqProofs only [szs, ne_eq] <;> omega) | fail)) only [go_sem, seval, ↓reduceIte, reduceCtorEq, ir35_b0_f2, undefV, t1, t8, t9, t10, t11, l1, l2, l3, k8, k9, k12, x1, x2, x3, r1, r2, r3, r4, ra, rb, r6, W1, W2, W3, hWl, n2, n3, n4, r7, rc, r5, w2, w3, m2, b1, appendV_of ap_45, hap, ↓hvo, ↓hvc, ↓hro, ↓h2o, ↓h2c, L1, X1, M1, B1, B2, B3, e1, e2, e3, false_implies, implies_true]
  have gl := Heap.lt_of_get L1
  have gl1 := Heap.lt_of_get B1
  have gl2 := Heap.lt_of_get B2
  have gl3 := Heap.lt_of_get B3
  have hk2 : ∀ tr' Z, Z.n = G.n → Z.get lp = some (.cells (((c.set 12 v2).set 9 (.int .i64 ((s.at' + s.cn : Nat) : Int))).set 8 (.int .u64 ((s.nx + 1 : Nat) : Int))) 47) →
      Z.get bw = some (.cells ((((cw.set 0 (.int .u64 ((s.nx + 1 : Nat) : Int))).set 1 (.int .u64 (ep : Int))).set 2 (.int .u8 0)).set 3 (.int .u8 0)) 90) →
      Z.get (bw + 1) = some (.cells (cr.set 0 (.slice none 0 0 true)) 22) → Z.get (bw + 2) = some (.cells (cn.set 0 (.int .i64 0)) 3) → (∀ k, k ≠ lp → k ≠ bw → k ≠ bw + 1 → k ≠ bw + 2 → Z.get k = G.get k) → GO (⟨Try.prog, true⟩ : MP) R W (some y) Q t ⟨⟨211, tr'⟩, mks⟩ Z := by
    intro tr' Z nZ z1 z2 z3 z4 kZ
    have kc : ∀ b c' e, (e = 22 → n0 ≤ b) → e = 22 ∨ e = 5 → G.get b = some (.cells c' e) → Z.get b = some (.cells c' e) := fun b c' e h1 h2 h3 => by
      rw [kZ b (fun h => ?_) (fun h => ?_) (fun h => ?_) (fun h => ?_)]
      · exact h3
      · rw [h, L1] at h3; cases h3; rcases h2 with h2 | h2 <;> cases h2
      · rw [h, B1] at h3; cases h3; rcases h2 with h2 | h2 <;> cases h2
      · rw [h, B2] at h3; cases h3; have := h1 rfl; omega
      · rw [h, B3] at h3; cases h3; rcases h2 with h2 | h2 <;> cases h2
    refine hk tr' Z ⟨_, _, _, _, v2, .slice none 0 0 true, vs ++ [v], z1, by simp only [Blk.size_set, l2], by simp only [Blk.ro_set, l3], ?_, ?_, ?_, ?_, ?_, ?_, ?_, ?_, ?_, z2, by simp only [Blk.size_set, w2], by simp only [Blk.ro_set, w3], ?_, ?_, ?_, ?_, z3, by simp only [Blk.size_set, r2], by simp only [Blk.ro_set, r3], ?_, Own.nil _ _ _, z4, by simp only [Blk.size_set, n2], by simp only [Blk.ro_set, n3], ?_, ?_, ?_, ?_⟩ ⟨by omega, ?_⟩
    · simp -implicitDefEqProofs (disch := (first | omega | (simp -implicitDefEqProofs only [szs, ne_eq] <;> omega) | fail)) only [go_sem, seval, ↓reduceIte, reduceCtorEq, k0]
    · simp -implicitDefEqProofs (disch := (first | omega | (simp -implicitDefEqProofs only [szs, ne_eq] <;> omega) | fail)) only [go_sem, seval, ↓reduceIte, reduceCtorEq, k1]
    · simp -implicitDefEqProofs (disch := (first | omega | (simp -implicitDefEqProofs only [szs, ne_eq] <;> omega) | fail)) only [go_sem, seval, ↓reduceIte, reduceCtorEq, k2]
    · rw [gets_out (by omega), gets_out (by omega), gets_out (by omega), k3]
    · simp -implicitDefEqProofs (disch := (first | omega | (simp -implicitDefEqProofs only [szs, ne_eq] <;> omega) | fail)) only [go_sem, seval, ↓reduceIte, reduceCtorEq]
    · simp -implicitDefEqProofs (disch := (first | omega | (simp -implicitDefEqProofs only [szs, ne_eq] <;> omega) | fail)) only [go_sem, seval, ↓reduceIte, reduceCtorEq]
    · simp -implicitDefEqProofs (disch := (first | omega | (simp -implicitDefEqProofs only [szs, ne_eq] <;> omega) | fail)) only [go_sem, seval, ↓reduceIte, reduceCtorEq, k10]
    · simp -implicitDefEqProofs (disch := (first | omega | (simp -implicitDefEqProofs only [szs, ne_eq] <;> omega) | fail)) only [go_sem, seval, ↓reduceIte, reduceCtorEq, k11]
    · simp -implicitDefEqProofs (disch := (first | omega | (simp -implicitDefEqProofs only [szs, ne_eq] <;> omega) | fail)) only [go_sem, seval, ↓reduceIte, reduceCtorEq]
    · simp -implicitDefEqProofs (disch := (first | omega | (simp -implicitDefEqProofs only [szs, ne_eq] <;> omega) | fail)) only [go_sem, seval, ↓reduceIte, reduceCtorEq]
    · simp -implicitDefEqProofs (disch := (first | omega | (simp -implicitDefEqProofs only [szs, ne_eq] <;> omega) | fail)) only [go_sem, seval, ↓reduceIte, reduceCtorEq]
    · simp -implicitDefEqProofs (disch := (first | omega | (simp -implicitDefEqProofs only [szs, ne_eq] <;> omega) | fail)) only [go_sem, Nat.reduceAdd, Nat.reduceSub, Nat.reduceMul, Nat.reduceLT, Nat.reduceMod, Nat.reduceDiv, Nat.reduceEqDiff, Nat.reduceBEq, Nat.reduceLeDiff, ↓reduceIte, reduceCtorEq, Int.reduceAdd, Int.reduceSub, Int.reduceLT, Int.reduceLE, Int.reduceBEq, Int.reduceEq, Int.reduceToNat]; rfl
    · simp -implicitDefEqProofs (disch := (first | omega | (simp -implicitDefEqProofs only [szs, ne_eq] <;> omega) | fail)) only [go_sem, Nat.reduceAdd, Nat.reduceSub, Nat.reduceMul, Nat.reduceLT, Nat.reduceMod, Nat.reduceDiv, Nat.reduceEqDiff, Nat.reduceBEq, Nat.reduceLeDiff, ↓reduceIte, reduceCtorEq, Int.reduceAdd, Int.reduceSub, Int.reduceLT, Int.reduceLE, Int.reduceBEq, Int.reduceEq, Int.reduceToNat]; rfl
    · simp -implicitDefEqProofs (disch := (first | omega | (simp -implicitDefEqProofs only [szs, ne_eq] <;> omega) | fail)) only [go_sem, seval, ↓reduceIte, reduceCtorEq]
    · simp -implicitDefEqProofs (disch := (first | omega | (simp -implicitDefEqProofs only [szs, ne_eq] <;> omega) | fail)) only [go_sem, Nat.reduceAdd, Nat.reduceSub, Nat.reduceMul, Nat.reduceLT, Nat.reduceMod, Nat.reduceDiv, Nat.reduceEqDiff, Nat.reduceBEq, Nat.reduceLeDiff, ↓reduceIte, reduceCtorEq, Int.reduceAdd, Int.reduceSub, Int.reduceLT, Int.reduceLE, Int.reduceBEq, Int.reduceEq, Int.reduceToNat]; rfl
    · exact own_keep' ho2 fun b c' hb hn => kc b c' 22 (fun _ => hn) (.inl rfl) hb
    · simp [vl]
    · intro i l hi
      have hold : ∀ {v' : V} {l : List V} {S' : Set'}, LR g S' v' l → (∀ b, S' b → n0 ≤ b ∧ ∃ c, g.get b = some (.cells c 5)) → LR Z (fun b => n0 ≤ b ∧ b ≠ sblk (V.slice none 0 0 true) ∧ ∃ c, Z.get b = some (.cells c 5)) v' l := fun hv hS => by
        have hz : ∀ b, (n0 ≤ b ∧ ∃ c, g.get b = some (.cells c 5)) → Z.get b = g.get b := fun b ⟨_, c', hb⟩ => (kc b c' 5 (fun h => by cases h) (.inr rfl) (nel hb (.inr (by decide)))).trans hb.symm
        refine (hv.same fun b hb _ => hz b (hS b hb)).mono fun b _ hb => ⟨(hS b hb).1, by show b ≠ 0; have := (hS b hb).1; omega, ?_⟩
        obtain ⟨h1, c', h2⟩ := hS b hb
        exact ⟨c', (hz b ⟨h1, c', h2⟩).trans h2⟩
      by_cases hi2 : i < s.rs.length
      · rw [List.getElem?_append_left hi2] at hi
        have e : (vs ++ [v]).getD i undefV = vs.getD i undefV := by
          rw [List.getD_eq_getElem?_getD, List.getD_eq_getElem?_getD, List.getElem?_append_left (by omega)]
        rw [e]
        exact hold (ve i l hi) fun b hb => ⟨hb.1, hb.2.2⟩
      · rw [List.getElem?_append_right (by omega)] at hi
        have hi3 : i = s.rs.length := by
          have := (List.getElem?_eq_some_iff.1 hi).1
          simp at this; omega
        subst hi3
        rw [Nat.sub_self] at hi
        cases hi
        have e : (vs ++ [v]).getD s.rs.length undefV = v := by
          rw [List.getD_eq_getElem?_getD, List.getElem?_append_right (by omega), vl, Nat.sub_self]; rfl
        rw [e]
        exact hold (Own.lrf rd) fun b hb => hb
    · intro k hk1 hk2 hk3 hk4 hk5 hk6
      rw [kZ k hk2 hk3 hk4 hk5]
      rcases hk6 with h6 | h6
      · rw [lG k h6, w_push_ne (by omega)]
      · rw [kG k (by rw [Heap.n_push]; omega) fun h7 => ?_, w_push_ne (by omega)]
        obtain ⟨c', h8⟩ := tG k h7
        rw [w_push_ne (by omega)] at h8
        exact (h6 c').2 h8
  refine ⟨by (try simp only [List.not_mem_nil, or_false, false_or, and_false, false_and, false_implies, implies_true, not_false_eq_true, List.mem_singleton, List.mem_cons, and_true, true_and, forall_const]; try and_intros; all_goals (try trivial); all_goals (intro b hb; first | omega | (intro hc; first | omega | (have := wG _ hb.2; omega) | (rcases hb with hb | hb <;> first | omega | (have := wG _ hb.2; omega))))), ⟨fun b _ _ => hR b, fun b _ hb => WW b hb⟩, by (try simp only [List.not_mem_nil, or_false, false_or, and_false, false_and, false_implies, implies_true, not_false_eq_true, List.mem_singleton, List.mem_cons, and_true, true_and, forall_const]; try and_intros; all_goals (try trivial); all_goals (intro b hb; first | omega | (intro hc; first | omega | (rcases hb with hb | hb <;> first | omega)))), hk2 _ _ (by simp only [Heap.n_set]) ?_ ?_ ?_ ?_ ?_⟩
  · rw [w_set_ne (by simp; omega) (by omega), w_set_ne (by simp; omega) (by omega), w_set_ne (by simp; omega) (by omega)]
    exact w_set_eq (by simp; omega) rfl _
  · rw [w_set_ne (by simp; omega) (by omega), w_set_ne (by simp; omega) (by omega)]
    exact w_set_eq (by simp; omega) rfl _
  · rw [w_set_ne (by simp; omega) (by omega)]
    exact w_set_eq (by simp; omega) rfl _
  · exact w_set_eq (by simp; omega) rfl _
  · intro k h1 h2 h3 h4
    rw [w_set_ne (by simp; omega) h4, w_set_ne (by simp; omega) h3, w_set_ne (by simp; omega) h2, w_set_ne (by simp; omega) h1, w_set_ne (by simp; omega) h1, w_set_ne (by omega) h1]
set_option maxHeartbeats 8000000 in
theorem f1_ok {Q : Ex → Fr → Heap → Prop} {t : List It} {mks : List Nat} {y bm bw xb n0 : Nat} {cm cx : Blk} {r : Rc} {s : LS} {H : Hd} {tr : Tr V} {v10 v11 dv : V} {S : Set'} {c cw cr cn : Blk} {rv v : V} {vs : List V} (hR : ∀ b, R b) (hW : ∀ k, n0 ≤ k → W k) (hWl : W lp) (hWb : W bw ∧ W (bw + 1) ∧ W (bw + 2))
    (hlo : lp < bw ∧ xb < bw ∧ xb ≠ lp ∧ bw + 2 < n0 ∧ n0 ≤ bm ∧ n0 ≤ g.n)
    (t1 : tr.get 1 = some (.ptr (some (xb, 0)))) (t8 : tr.get 8 = some (.ptr (some (bw, 0)))) (t9 : tr.get 9 = some (.ptr (some (bw + 1, 0)))) (t10 : tr.get 10 = some (.ptr (some (bw + 2, 0)))) (t11 : tr.get 11 = some (.ptr (some (bm, 0)))) (t12 : tr.get 12 = some dv)
    (x1 : g.get xb = some (.cells cx 32)) (x2 : cx.size = 1) (x3 : cx.get 0 = .ptr (some (lp, 0)))
    (m1 : g.get bm = some (.cells cm 90)) (m2 : cm.size = 4) (b0 : cm.get 0 = .int .u64 (r.num : Int)) (b1 : cm.get 1 = .int .u64 (r.ep : Int)) (b2 : cm.get 2 = .int .u8 (r.pl : Int)) (b3 : cm.get 3 = .int .u8 (r.of : Int))
    (hd : LR g S dv r.dat) (hdb : Byt r.dat) (hl : LdR g lp bd fr ct bw n0 v10 v11 H s c cw cr cn rv v vs)
    (hof : r.pl < r.of ∧ r.of ≤ 64) (hdl : r.dat.length ≤ 108) (hrl : s.rc.length ≤ 1000000) (hrb : Byt s.rc) (hvl : vs.length ≤ 10000) (hn1 : s.nx + 1 < 9223372036854775808) (hn2 : s.cn ≤ 10000 ∧ s.at' ≤ 10000)
    (hk : ∀ tr' g', LdM g' lp bd fr ct bw n0 v10 v11 H (goodL s r) → LdF g g' lp bw n0 → GO (⟨Try.prog, true⟩ : MP) R W (some y) Q t ⟨⟨211, tr'⟩, mks⟩ g') :
    GO (⟨Try.prog, true⟩ : MP) R W (some y) Q (.code ir35_b0_f1 :: t) ⟨⟨211, tr⟩, mks⟩ g := by
  obtain ⟨l1, l2, l3, k0, k1, k2, k3, k8, k9, k10, k11, k12, w1, w2, w3, a0, a1, a2, a3, r1, r2, r3, r4, rd, n1, n2, n3, n4, vd, vl, ve⟩ := hl
  obtain ⟨hlb, hxb, hxl, hbn, hbm, hng⟩ := hlo
  obtain ⟨W1, W2, W3⟩ := hWb
  have ra := hR xb
  have rb := hR lp
  have rc := hR bm
  have r5 := hR bw
  have r6 := hR (bw + 1)
  have r7 := hR (bw + 2)
  obtain ⟨q1, rs, q2⟩ := first_lr' hd
  obtain ⟨v2, G, rr, ww, hap, ho2, nG, lG, wG, kG, tG⟩ := app_own (bytes := 1) rd hng q1 q2 hdb.allOne (by omega) (by omega)
  have hsb := appE_blk hap
  have hww := appE_w hap
  simp only at hsb hww
  have hvo := ho2.lr.one
  have hvc := ho2.lr.cells
  have ho1 := hd.one
  have hvv := rd.lr.one
  have WW : ∀ b ∈ ww, W b := fun b hb => hW b (wG b hb)
  have nel : ∀ {k c e}, g.get k = some (.cells c e) → (k < n0 ∨ e ≠ 5) → G.get k = some (.cells c e) := fun {k c e} h1 h2 => by
    rcases h2 with h2 | h2
    · rw [lG k h2, h1]
    · rw [kG k (Heap.lt_of_get h1) (fun h3 => ?_), h1]
      obtain ⟨c', h4⟩ := tG k h3
      rw [h1] at h4; cases h4; exact h2 rfl
  have L1 := nel l1 (.inl (by omega))
  have X1 := nel x1 (.inl (by omega))
  have M1 := nel m1 (.inr (by decide))
  have B1 := nel w1 (.inl (by omega))
  have B2 := nel r1 (.inl (by omega))
  have B3 := nel n1 (.inl (by omega))
  have e1 : (s.cn : Int) + 1 = ((s.cn + 1 : Nat) : Int) := by omega
  have e2 : (r.pl : Int) + 1 = ((r.pl + 1 : Nat) : Int) := by omega
  have e3 : IntKind.u8.wrap ((r.pl + 1 : Nat) : Int) = ((r.pl + 1 : Nat) : Int) := by rw [wrap8, Nat.mod_eq_of_lt (by omega)]
  have q3 : allB R rr := allB_of fun b _ => hR b
  have q4 : allB W ww := allB_of WW
  have gl := Heap.lt_of_get B1
  have gl2 := Heap.lt_of_get B2
  have gl3 := Heap.lt_of_get B3
  have key : ∀ X, X.n = G.n → X.get bw = some (.cells ((((cw.set 0 (.int .u64 (r.num : Int))).set 1 (.int .u64 (r.ep : Int))).set 2 (.int .u8 ((r.pl + 1 : Nat) : Int))).set 3 (.int .u8 (r.of : Int))) 90) → X.get (bw + 1) = some (.cells (cr.set 0 v2) 22) → X.get (bw + 2) = some (.cells (cn.set 0 (.int .i64 ((s.cn + 1 : Nat) : Int))) 3) → (∀ k, k ≠ bw → k ≠ bw + 1 → k ≠ bw + 2 → X.get k = G.get k) → LdF g X lp bw n0 ∧ LdR X lp bd fr ct bw n0 v10 v11 H (midL s r) c ((((cw.set 0 (.int .u64 (r.num : Int))).set 1 (.int .u64 (r.ep : Int))).set 2 (.int .u8 ((r.pl + 1 : Nat) : Int))).set 3 (.int .u8 (r.of : Int))) (cr.set 0 v2) (cn.set 0 (.int .i64 ((s.cn + 1 : Nat) : Int))) rv v2 vs := by
    intro X nX x1 x2 x3 kX
    have kc : ∀ b c' e, (e = 22 → n0 ≤ b) → e = 22 ∨ e = 5 → G.get b = some (.cells c' e) → X.get b = some (.cells c' e) := fun b c' e h1 h2 h3 => by
      rw [kX b (fun h => ?_) (fun h => ?_) (fun h => ?_)]
      · exact h3
      · rw [h, B1] at h3; cases h3; rcases h2 with h2 | h2 <;> cases h2
      · rw [h, B2] at h3; cases h3; have := h1 rfl; omega
      · rw [h, B3] at h3; cases h3; rcases h2 with h2 | h2 <;> cases h2
    refine ⟨⟨by omega, fun k hk1 hk2 hk3 hk4 hk5 hk6 => ?_⟩, (kX lp (by omega) (by omega) (by omega)).trans L1, l2, l3, k0, k1, k2, k3, k8, k9, k10, k11, k12, x1, by simp only [Blk.size_set, w2], by simp only [Blk.ro_set, w3], ?_, ?_, ?_, ?_, x2, by simp only [Blk.size_set, r2], by simp only [Blk.ro_set, r3], ?_, own_keep' ho2 fun b c' hb hn => kc b c' 5 (fun h => by cases h) (.inr rfl) hb, x3, by simp only [Blk.size_set, n2], by simp only [Blk.ro_set, n3], ?_, own_keep' vd fun b c' hb hn => kc b c' 22 (fun _ => hn) (.inl rfl) (nel hb (.inr (by decide))), vl, fun i l hi => ?_⟩
    · rw [kX k hk3 hk4 hk5]
      rcases hk6 with h6 | h6
      · exact lG k h6
      · exact kG k hk1 fun h7 => by obtain ⟨c', h8⟩ := tG k h7; exact (h6 c').1 h8
    · show _ = V.int .u64 (r.num : Int); simp -implicitDefEqProofs (disch := (first | omega | (simp -implicitDefEqProofs only [szs, ne_eq] <;> omega) | fail)) only [go_sem, seval, ↓reduceIte, reduceCtorEq]
    · show _ = V.int .u64 (r.ep : Int); simp -implicitDefEqProofs (disch := (first | omega | (simp -implicitDefEqProofs only [szs, ne_eq] <;> omega) | fail)) only [go_sem, seval, ↓reduceIte, reduceCtorEq]
    · show _ = V.int .u8 ((r.pl + 1 : Nat) : Int); simp -implicitDefEqProofs (disch := (first | omega | (simp -implicitDefEqProofs only [szs, ne_eq] <;> omega) | fail)) only [go_sem, seval, ↓reduceIte, reduceCtorEq]
    · show _ = V.int .u8 (r.of : Int); simp -implicitDefEqProofs (disch := (first | omega | (simp -implicitDefEqProofs only [szs, ne_eq] <;> omega) | fail)) only [go_sem, seval, ↓reduceIte, reduceCtorEq]
    · simp -implicitDefEqProofs (disch := (first | omega | (simp -implicitDefEqProofs only [szs, ne_eq] <;> omega) | fail)) only [go_sem, seval, ↓reduceIte, reduceCtorEq]
    · show _ = V.int .i64 ((s.cn + 1 : Nat) : Int); simp -implicitDefEqProofs (disch := (first | omega | (simp -implicitDefEqProofs only [szs, ne_eq] <;> omega) | fail)) only [go_sem, seval, ↓reduceIte, reduceCtorEq]
    · have hz : ∀ b, (n0 ≤ b ∧ b ≠ sblk v ∧ ∃ c, g.get b = some (.cells c 5)) → X.get b = g.get b := fun b ⟨_, h2, c', hb⟩ => by
        have h3 : G.get b = some (.cells c' 5) := by rw [kG b (Heap.lt_of_get hb) fun h => h2 (hww b h)]; exact hb
        rw [kc b c' 5 (fun h => by cases h) (.inr rfl) h3, hb]
      refine ((ve i l hi).same fun b hb _ => hz b hb).mono fun b _ hb => ⟨hb.1, ?_, ?_⟩
      · obtain ⟨_, h2, c', h3⟩ := hb
        have := Heap.lt_of_get h3
        rcases hsb with h4 | h4
        · rw [h4]; exact h2
        · rw [h4]; omega
      · obtain ⟨c', h3⟩ := hb.2.2
        exact ⟨c', (hz b hb).trans h3⟩
  have hgl : ∀ o o' o'', (((G.set (bw + 1) o).set (bw + 2) o').set bw o'').n = G.n := fun _ _ _ => by simp only [Heap.n_set]
  have hx0 : ∀ o o' o'', (((G.set (bw + 1) o).set (bw + 2) o').set bw o'').get bw = some o'' := fun _ _ _ => w_set_eq (by simp only [Heap.n_set]; omega) rfl _
  have hx1 : ∀ o o' o'', (((G.set (bw + 1) o).set (bw + 2) o').set bw o'').get (bw + 1) = some o := fun _ _ _ => by rw [w_set_ne (by simp only [Heap.n_set]; omega) (by omega), w_set_ne (by simp only [Heap.n_set]; omega) (by omega)]; exact w_set_eq (by omega) rfl _
  have hx2 : ∀ o o' o'', (((G.set (bw + 1) o).set (bw + 2) o').set bw o'').get (bw + 2) = some o' := fun _ _ _ => by rw [w_set_ne (by simp only [Heap.n_set]; omega) (by omega)]; exact w_set_eq (by simp only [Heap.n_set]; omega) rfl _
  have hx3 : ∀ o o' o'' k, k ≠ bw → k ≠ bw + 1 → k ≠ bw + 2 → (((G.set (bw + 1) o).set (bw + 2) o').set bw o'').get k = G.get k := fun _ _ _ k h1 h2 h3 => by rw [w_set_ne (by simp only [Heap.n_set]; omega) h1, w_set_ne (by simp only [Heap.n_set]; omega) h3, w_set_ne (by omega) h2]
  by_cases hfin : r.pl + 1 = r.of
  · have i1 : ((r.pl + 1 : Nat) : Int) = (r.of : Int) := by omega
    have i2 : (((r.pl + 1 : Nat) : Int) == (r.of : Int)) = true := beq_iff_eq.2 i1
    simp -implicitDefEqProofs (disch := (first | omega | (simp -implicitDefEqProofs only [szs, ne_eq] <;> omega) | fail)) only [go_sem, seval, ↓reduceIte, reduceCtorEq, ir35_b0_f1, undefV, t1, t8, t9, t10, t11, t12, r1, r2, r3, r4, r6, W1, W2, W3, n2, n3, n4, r7, rc, r5, w2, w3, m2, b0, b1, b2, b3, appendV_of ap_22, hap, ↓hvo, ↓hvc, ↓ho1, ↓hvv, L1, X1, M1, B1, B2, B3, e1, e2, e3, q3, q4, i2]
    obtain ⟨hF, hM⟩ := key _ (hgl _ _ _) (hx0 _ _ _) (hx1 _ _ _) (hx2 _ _ _) (hx3 _ _ _)
    refine f2_ok (ep := r.ep) hR hW hWl ⟨W1, W2, W3⟩ ⟨hlb, hxb, hxl, hbn, hbm, by rw [hgl]; omega⟩ (by simp -implicitDefEqProofs (disch := (first | omega | (simp -implicitDefEqProofs only [szs, ne_eq] <;> omega) | fail)) only [go_sem, seval, ↓reduceIte, reduceCtorEq, t1]) (by simp -implicitDefEqProofs (disch := (first | omega | (simp -implicitDefEqProofs only [szs, ne_eq] <;> omega) | fail)) only [go_sem, seval, ↓reduceIte, reduceCtorEq, t8]) (by simp -implicitDefEqProofs (disch := (first | omega | (simp -implicitDefEqProofs only [szs, ne_eq] <;> omega) | fail)) only [go_sem, seval, ↓reduceIte, reduceCtorEq, t9]) (by simp -implicitDefEqProofs (disch := (first | omega | (simp -implicitDefEqProofs only [szs, ne_eq] <;> omega) | fail)) only [go_sem, seval, ↓reduceIte, reduceCtorEq, t10]) (by simp -implicitDefEqProofs (disch := (first | omega | (simp -implicitDefEqProofs only [szs, ne_eq] <;> omega) | fail)) only [go_sem, seval, ↓reduceIte, reduceCtorEq, t11]) ((hx3 _ _ _ xb (by omega) (by omega) (by omega)).trans X1) x2 x3 ((hx3 _ _ _ bm (by omega) (by omega) (by omega)).trans M1) m2 b1 hM hvl hn1 ⟨by show s.cn + 1 ≤ _; omega, hn2.2⟩ fun tr' g' h1 h2 => hk tr' g' ?_ (hF.trans h2)
    rw [good_end hfin]; exact h1
  · have i1 : ¬ ((r.pl + 1 : Nat) : Int) = (r.of : Int) := by omega
    have i2 : (((r.pl + 1 : Nat) : Int) == (r.of : Int)) = false := beq_eq_false_iff_ne.2 i1
    simp -implicitDefEqProofs (disch := (first | omega | (simp -implicitDefEqProofs only [szs, ne_eq] <;> omega) | fail)) only [go_sem, seval, ↓reduceIte, reduceCtorEq, ir35_b0_f1, undefV, t1, t8, t9, t10, t11, t12, r1, r2, r3, r4, r6, W1, W2, W3, n2, n3, n4, r7, rc, r5, w2, w3, m2, b0, b1, b2, b3, appendV_of ap_22, hap, ↓hvo, ↓hvc, ↓ho1, ↓hvv, L1, X1, M1, B1, B2, B3, e1, e2, e3, q3, q4, i2]
    obtain ⟨hF, hM⟩ := key _ (hgl _ _ _) (hx0 _ _ _) (hx1 _ _ _) (hx2 _ _ _) (hx3 _ _ _)
    refine hk _ _ ?_ hF
    rw [good_mid hfin]
    exact ⟨_, _, _, _, _, _, _, hM⟩
end Go.Proofs.Ytakgjjbmniilhaa
