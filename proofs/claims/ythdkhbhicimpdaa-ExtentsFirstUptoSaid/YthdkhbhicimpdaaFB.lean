/- begin leaves both side by side (printed by genFB.py). -/
import Derived.Test.YthdkhbhicimpdaaFA
import Derived.Test.YthdkhbhicimpdaaF6
set_option linter.unusedVariables false
set_option maxRecDepth 100000
namespace Go.Proofs.Ythdkhbhicimpdaa
open Go Go.Vm
attribute [-go_sem] sz_113
theorem RefFresh.refx {h : Heap} {n0 rd n : Nat} {F : Nat → List V} {sb : Nat → Nat} (hf : RefFresh h n0 rd n F sb) (hn : 1 ≤ n ∧ n ≤ 4096) (hF : ∀ s, s < n → IsSec (F s)) : ∃ fb pb, RefX h (fun b => n0 ≤ b ∧ b < h.n) rd fb pb ⟨n, F, fun _ => [], 0⟩ := by
  obtain ⟨c, fb, pb, xf, c1, cs, cr, c0, c2, c3, rf, rp, ⟨cf, f1, f2, f3, f4⟩, p1⟩ := hf.d
  have hN := secN_eq
  have e1 : rd ≠ fb := fun e => by rw [e, f1] at c1; cases c1
  have e2 : rd ≠ pb := fun e => by rw [e, p1] at c1; cases c1
  have e3 : fb ≠ pb := fun e => by rw [e, p1] at f1; cases f1
  refine ⟨fb, pb, hn, ⟨⟨hf.lo, Heap.lt_of_get c1⟩, ⟨rf, Heap.lt_of_get f1⟩, ⟨rp, Heap.lt_of_get p1⟩⟩, ⟨c, xf, true, c1, cs, cr, c0, c2, c3⟩, ⟨cf, f1, f2, f3, fun s hs => ?_⟩, ⟨_, p1, rfl, rfl, fun s hs => ?_⟩, hF, fun s l hl => by simp at hl, fun s hs => rfl, fun s => by simp⟩
  · obtain ⟨h1, cc, q1, q2, q3, q4⟩ := hf.s s hs
    have hl := (hF s hs).1
    rw [f4 s hs]
    refine .inr ⟨sb s, 0, 128, true, cc, 5, by rw [hl, hN], ⟨⟨h1, Heap.lt_of_get q1⟩, fun e => ?_, fun e => ?_, fun e => ?_⟩, q1, by rw [q2]; show 0 + (F s).length ≤ 128; omega, by show cc.gets 0 (F s).length = F s; rw [hl]; exact q4⟩
    · rw [e, c1] at q1; cases q1
    · rw [e, f1] at q1; cases q1
    · rw [e, p1] at q1; cases q1
  · rw [rep_get, show s % [V.slice none 0 0 true].length = 0 from Nat.mod_one s]
    exact PLs.nil _ _
def BothX (n0 : Nat) (h : Heap) (n : Nat) (m : Nat) (q : Nat → Int) (x d r : V) : Prop := ∃ (u : UU) (SX SD : Set') (rx rd qb hb fb pb : Nat) (hk : Nat → Nat), x = .ptr (some (u.bx, 0)) ∧ d = .ptr (some (u.bd, 0)) ∧ r = .ptr (some (rx, 0)) ∧ PX (fun b => n0 ≤ b) h u u.X u.D SX SD rx rd qb hb fb pb hk ∧ u.X.n = m ∧ u.D.n = n ∧ (∀ i, i < m → (u.X.count i : Int) = q i) ∧ ∀ s, u.D.pe s = []
set_option maxHeartbeats 2000000 in
theorem begin_px {h : Heap} {R W : Set'} {n : Int} {v : V} {m : Nat} {q : Nat → Int} (hq : QI h v m q) (hm20 : m ≤ 20) (hR : ∀ b, R b) :
    SF Try.prog 10 [.int .i64 n, v] h R W fun r h' => h.n ≤ h'.n ∧ (∀ b, b < h.n → h'.get b = h.get b) ∧ ∃ x d r', r = .tuple [.agg [x, d, r'], .bool true] ∧ ((r' = .ptr none ∧ x = .ptr none ∧ (d = .ptr none ∨ ∃ b, d = .ptr (some (b, 0))) ∧ (¬ (1 ≤ n ∧ n ≤ 4096) ∨ ∃ e, e ≠ 0 ∧ OC q n.toNat m e)) ∨ BothX h.n h' n.toNat m q x d r') := by
  have hlv := hq.lenV
  have hvb : ∀ b n c o x, v = .slice (some (b, o)) n c x → b < h.n := fun b n c o x e => by
    rcases hq.at' with ⟨_, rfl | ⟨_, rfl⟩⟩ | ⟨b', o', cap, ex, cq, ce, rfl, hb, _⟩
    · cases e
    · cases e
    · cases e
      exact Heap.lt_of_get hb
  refine SF.go hm Try.func10 ir10_eq ?_
  by_cases hn : 1 ≤ n ∧ n ≤ 4096
  · obtain ⟨N, rfl⟩ := Int.eq_ofNat_of_zero_le (show 0 ≤ n by omega)
    have hN : 1 ≤ N ∧ N ≤ 4096 := by omega
    obtain ⟨g, eg⟩ : ∃ g, h.push (.cells (Blk.of [.ptr none, .ptr none, .ptr none]) 29) = g := ⟨_, rfl⟩
    have ng : g.n = h.n + 1 := by rw [← eg]; simp
    have kg : ∀ b, b < h.n → g.get b = h.get b := fun b hb => by rw [← eg, w_push_ne (by omega)]
    have cg : g.get h.n = some (.cells (Blk.of [.ptr none, .ptr none, .ptr none]) 29) := by rw [← eg, w_push_eq rfl]
    simp -implicitDefEqProofs (disch := (first | omega | (simp -implicitDefEqProofs only [szs, ne_eq] <;> omega) | fail)) only [go_sem, Nat.reduceAdd, Nat.reduceSub, Nat.reduceLT, Nat.reduceMod, Nat.reduceDiv, ↓reduceIte, reduceCtorEq, ir10, eg]
    refine GCall.of (((new_ok (R := fun _ => False) (W := fun _ => False) hn).kept).foot (fun _ h => h.elim) (fun _ h => h.elim)) ?_
    rintro v1 g1 ⟨⟨L, rfl, hLf, hLm, hd⟩, vf1⟩
    have ng1 := vf1.1
    have kg1 : ∀ b, b < g.n → g1.get b = g.get b := fun b hb => vf1.2 b hb (fun h => h)
    simp -implicitDefEqProofs (disch := (first | omega | (simp -implicitDefEqProofs only [szs, ne_eq] <;> omega) | fail)) only [go_sem, Nat.reduceAdd, Nat.reduceSub, Nat.reduceLT, Nat.reduceMod, Nat.reduceDiv, ↓reduceIte, reduceCtorEq]
    refine GCall.of (rnew_ok hN (fun b => .inr (hR b))) ?_
    rintro v2 g2 ⟨rfl, ⟨sb, hf⟩, kg2⟩
    have hr := hf.ref hN (fun s _ => ze_sec)
    simp -implicitDefEqProofs (disch := (first | omega | (simp -implicitDefEqProofs only [szs, ne_eq] <;> omega) | fail)) only [go_sem, Nat.reduceAdd, Nat.reduceSub, Nat.reduceLT, Nat.reduceMod, Nat.reduceDiv, ↓reduceIte, reduceCtorEq]
    refine GCall.of (num_ok _) ?_
    rintro v3 g3 ⟨rfl, rfl⟩
    have ng2 : g1.n < g3.n := by
      have := Heap.lt_of_get hf.d.choose_spec.choose_spec.choose_spec.choose_spec.1
      omega
    have kg3 : ∀ b, b < h.n → g3.get b = h.get b := fun b hb => by rw [kg2 b (by omega), kg1 b (by omega)]; exact kg b hb
    have hqg := hq.old kg3
    have cg3 : g3.get h.n = some (.cells (Blk.of [.ptr none, .ptr none, .ptr none]) 29) := by rw [kg2 _ (by omega), kg1 _ (by omega)]; exact cg
    obtain ⟨a1, h1, r1, h3, r3, w3, e1, e3, n1, n3, w3g, k3, ob⟩ := own_app hqg hm20
    have hsl := slice_lo (h1.n + 1) 0 (m + 1) (m + 1) m (by omega) (by omega) (by omega)
    simp -implicitDefEqProofs (disch := (first | omega | (simp -implicitDefEqProofs only [szs, ne_eq] <;> omega) | fail)) only [go_sem, Nat.reduceAdd, Nat.reduceSub, Nat.reduceLT, Nat.reduceMod, Nat.reduceDiv, ↓reduceIte, reduceCtorEq, appendV_of ap_22, ↓e1, ↓e3, ↓hlv, ↓hsl]
    refine ⟨allB_of fun b _ => .inr (hR b), allB_of fun b _ => .inr (hR b), allB_of fun b hb => .inl (by have := w3g b hb; omega), ?_⟩
    have hd1 : DiskAt g1 (g.n + 2) L (DS.new N) := hd
    have hd3 : DiskAt h3 (g.n + 2) L (DS.new N) := (hd1.old kg2).old k3
    have qown : QI h3 (.slice (some (h1.n + 1, 0)) m (m + 1) false) m q := by
      obtain ⟨c, c1, c2, c3, c4⟩ := ob
      exact ⟨hq.int, hq.len, .inr ⟨_, _, _, _, c, _, rfl, c1, by omega, by omega, fun i hi => by rw [Nat.zero_add]; exact c4 i (Nat.zero_le _) hi⟩⟩
    refine GCall.of (xnew_any hd3 (fun b => .inr (hR b)) qown) ?_
    rintro v4 h4 ⟨n4, k4, px, e, rfl, oc, hx⟩
    simp -implicitDefEqProofs (disch := (first | omega | (simp -implicitDefEqProofs only [szs, ne_eq] <;> omega) | fail)) only [go_sem, Nat.reduceAdd, Nat.reduceSub, Nat.reduceLT, Nat.reduceMod, Nat.reduceDiv, ↓reduceIte, reduceCtorEq]
    have hr4 := (hr.old k3).old k4
    refine GCall.of (rnew_any hr4 (fun b => .inr (hR b)) ((hqg.old k3).old k4)) ?_
    rintro v5 h5 ⟨n5, k5, pr, e', rfl, oc', hx'⟩
    have ee := OC.uniq oc oc'
    subst ee
    simp -implicitDefEqProofs (disch := (first | omega | (simp -implicitDefEqProofs only [szs, ne_eq] <;> omega) | fail)) only [go_sem, Nat.reduceAdd, Nat.reduceSub, Nat.reduceLT, Nat.reduceMod, Nat.reduceDiv, ↓reduceIte, reduceCtorEq]
    have ob5 : OwnB h5 (h1.n + 1) m q 0 := by
      obtain ⟨c, c1, c2⟩ := ob
      exact ⟨c, by rw [k5 _ (by omega), k4 _ (by omega)]; exact c1, c2⟩
    refine own_loop (v := v) (v4 := .ptr (some (h.n, 0))) (v6 := .ptr (some (g.n + 2, 0))) (v10 := px) (v11 := .int .i64 e) (v12 := pr) (v13 := .int .i64 e) (nb := h1.n + 1) (q := q) (((hqg.old k3).old k4).old k5) hm20 (fun b => .inr (hR b)) (.inl (by omega)) ob5 (fun b n c o x e => by have := hvb b n c o x e; omega) ?_ rfl rfl (by simp -implicitDefEqProofs (disch := (first | omega | (simp -implicitDefEqProofs only [szs, ne_eq] <;> omega) | fail)) only [go_sem, Nat.reduceDiv, ↓reduceIte, reduceCtorEq]) (by simp -implicitDefEqProofs (disch := (first | omega | (simp -implicitDefEqProofs only [szs, ne_eq] <;> omega) | fail)) only [go_sem, Nat.reduceSub, Nat.reduceMod, Nat.reduceDiv, ↓reduceIte, reduceCtorEq]) (by simp -implicitDefEqProofs (disch := (first | omega | (simp -implicitDefEqProofs only [szs, ne_eq] <;> omega) | fail)) only [go_sem, Nat.reduceSub, Nat.reduceMod, Nat.reduceDiv, ↓reduceIte, reduceCtorEq]) (by simp -implicitDefEqProofs (disch := (first | omega | (simp -implicitDefEqProofs only [szs, ne_eq] <;> omega) | fail)) only [go_sem, Nat.reduceSub, Nat.reduceMod, Nat.reduceDiv, ↓reduceIte, reduceCtorEq]) (by simp -implicitDefEqProofs (disch := (first | omega | (simp -implicitDefEqProofs only [szs, ne_eq] <;> omega) | fail)) only [go_sem, Nat.reduceSub, Nat.reduceMod, Nat.reduceDiv, ↓reduceIte, reduceCtorEq]) (by simp -implicitDefEqProofs (disch := (first | omega | (simp -implicitDefEqProofs only [szs, ne_eq] <;> omega) | fail)) only [go_sem, Nat.reduceSub, Nat.reduceMod, Nat.reduceDiv, ↓reduceIte, reduceCtorEq]) (by simp -implicitDefEqProofs (disch := (first | omega | (simp -implicitDefEqProofs only [szs, ne_eq] <;> omega) | fail)) only [go_sem, Nat.reduceSub, Nat.reduceMod, Nat.reduceDiv, ↓reduceIte, reduceCtorEq]) (by simp -implicitDefEqProofs (disch := (first | omega | (simp -implicitDefEqProofs only [szs, ne_eq] <;> omega) | fail)) only [go_sem, Nat.reduceSub, Nat.reduceMod, Nat.reduceDiv, ↓reduceIte, reduceCtorEq]) (by simp -implicitDefEqProofs (disch := (first | omega | (simp -implicitDefEqProofs only [szs, ne_eq] <;> omega) | fail)) only [go_sem, Nat.reduceSub, Nat.reduceMod, Nat.reduceDiv, ↓reduceIte, reduceCtorEq])
    intro tr g' hg' ng' t4 t6 t10 t11 t12 t13
    have c' : g'.get h.n = some (.cells (Blk.of [.ptr none, .ptr none, .ptr none]) 29) := by
      rw [hg' h.n (by omega), k5 _ (by omega), k4 _ (by omega), k3 h.n (by omega)]; exact cg3
    have kF : ∀ b, b < h.n → g'.get b = h.get b := fun b hb => by
      rw [hg' b (by omega), k5 b (by omega), k4 b (by omega), k3 b (by omega)]; exact kg3 b hb
    have hee : (e == e) = true := by simp
    rcases hx with ⟨rfl, rfl, hex, hexn⟩ | ⟨he0, rfl⟩
    · rcases hx' with ⟨_, rfl, ⟨qb, hb, hext⟩, hpos⟩ | ⟨he0, _⟩
      · simp -implicitDefEqProofs (disch := (first | omega | (simp -implicitDefEqProofs only [szs, ne_eq] <;> omega) | fail)) only [go_sem, Nat.reduceAdd, Nat.reduceLT, Nat.reduceEqDiff, Nat.reduceLeDiff, ↓reduceIte, t6, t10, t11, t12]
        refine GCall.of (num_ok _) ?_
        rintro v3 h6 ⟨rfl, rfl⟩
        simp -implicitDefEqProofs (disch := (first | omega | (simp -implicitDefEqProofs only [szs, ne_eq] <;> omega) | fail)) only [go_sem, Nat.reduceAdd, Nat.reduceLT, Nat.reduceEqDiff, ↓reduceIte, t4, t13, undefV, c']
        obtain ⟨hF, eF⟩ : ∃ hF, h6.set h.n (.cells ((((Blk.of [.ptr none, .ptr none, .ptr none]).set 0 (.ptr (some (h3.n, 0)))).set 1 (.ptr (some (g.n + 2, 0)))).set 2 (.ptr (some (h4.n, 0)))) 29) = hF := ⟨_, rfl⟩
        rw [eF]
        have nF : hF.n = h6.n := by rw [← eF]; simp
        have kF6 : ∀ b, b ≠ h.n → hF.get b = h6.get b := fun b hb => by rw [← eF, w_set_ne (by omega) hb]
        have kF5 : ∀ b, b ≠ h.n → b ≠ h1.n + 1 → hF.get b = h5.get b := fun b hb hb2 => by rw [kF6 b hb, hg' b hb2]
        have o4 := oc
        rcases oc with ⟨_, h0⟩ | ⟨m1, m8, ⟨_, h0⟩ | ⟨_, _, h0⟩ | ⟨p1, p2, _⟩⟩
        · omega
        · omega
        · omega
        obtain ⟨s1, s2⟩ := stQ_good p1 p2
        have p2' : sumN (qN q) m ≤ N := s2
        have hlt5 : ∀ b, b < h5.n → b < hF.n := fun b hb => by omega
        obtain ⟨fb, pb, hrx⟩ := hf.refx hN (fun s _ => ze_sec)
        have hfx : ∀ b, FootX h3.n (fun a => h3.n + 1 + a) (XS.new m (qN q)) b → h3.n ≤ b ∧ b < h4.n := fun b hb => ⟨by
            rcases hb with rfl | ⟨a, _, rfl⟩
            · exact Nat.le_refl _
            · show h3.n ≤ h3.n + 1 + a
              omega, hex.lt b hb⟩
        have hfd : ∀ b, Foot (g.n + 2) L (DS.new N) b → g.n ≤ b ∧ b < g1.n := fun b hb => ⟨by
            rcases hb with rfl | rfl | rfl | ⟨x, hx, _⟩
            · omega
            · assumption
            · assumption
            · exact absurd rfl hx, hd1.lt b hb⟩
        refine ⟨by omega, fun b hb => by rw [kF6 b (by omega)]; exact kF b hb, _, _, _, rfl, .inr ⟨⟨h3.n, g.n + 2, fun a => h3.n + 1 + a, L, XS.new m (qN q), DS.new N⟩, _, _, h4.n, g1.n + 1, qb, hb, fb, pb, _, rfl, rfl, rfl, ⟨⟨?_, ?_, ?_⟩, (hext.same (h' := hF) ?_).live, (hrx.same (h' := hF) ?_), ?_, ?_, ?_, ?_, ?_⟩, rfl, rfl, fun i hi => ?_, fun _ => rfl⟩⟩
        · refine hex.same fun b hb hbl => ?_
          have : h3.n ≤ b := by
            rcases hb with rfl | ⟨a, _, rfl⟩
            · exact Nat.le_refl _
            · show h3.n ≤ h3.n + 1 + a
              omega
          rw [kF5 b (by omega) (by omega), k5 b (by omega)]
        · refine hd1.same fun b hb hbl => ?_
          have : g.n ≤ b := by
            rcases hb with rfl | rfl | rfl | ⟨x, hx, _⟩
            · omega
            · assumption
            · assumption
            · exact absurd rfl hx
          rw [kF5 b (by omega) (by omega), k5 b (by omega), k4 b (by omega), k3 b (by omega), kg2 b (by omega)]
        · intro a ha
          have := sumN_le (q := qN q) (i := a + 1) (m := m) ha
          simp only [XS.new, sumN, DS.new] at this ⊢
          omega
        · intro b hb hbl
          have hb' : h4.n ≤ b := hb
          rw [kF5 b (by omega) (by omega)]
        · intro b hb hbl
          have hb' : g1.n ≤ b ∧ b < g3.n := hb
          rw [kF5 b (by omega) (by omega), k5 b (by omega), k4 b (by omega), k3 b (by omega)]
        · intro b hb
          have hb' : h4.n ≤ b ∧ b < hF.n := hb
          refine ⟨show h.n ≤ b by omega, hb'.2, fun h => ?_, fun h => ?_⟩
          · have h' : g1.n ≤ b ∧ b < g3.n := h
            omega
          · rcases h with h | h
            · have := hfd b h
              omega
            · have := hfx b h
              omega
        · intro b hb
          have hb' : g1.n ≤ b ∧ b < g3.n := hb
          refine ⟨show h.n ≤ b by omega, by omega, fun h => ?_⟩
          rcases h with h | h
          · have := hfd b h
            omega
          · have := hfx b h
            omega
        · intro b hb
          show h.n ≤ b
          rcases hb with hb | hb
          · have := hfd b hb
            omega
          · have := hfx b hb
            omega
        · intro a ha
          have := sumN_le (q := qN q) (i := a + 1) (m := m) ha
          simp only [XS.new, sumN, DS.new] at this ⊢
          omega
        · intro b hb
          show h.n ≤ b
          omega
        · have := hpos i hi
          show ((q i).toNat : Int) = _
          omega
      · omega
    · rcases hx' with ⟨e0, _⟩ | ⟨_, rfl⟩
      · omega
      · simp -implicitDefEqProofs (disch := (first | omega | (simp -implicitDefEqProofs only [szs, ne_eq] <;> omega) | fail)) only [go_sem, Nat.reduceAdd, Nat.reduceLT, Nat.reduceEqDiff, Nat.reduceLeDiff, ↓reduceIte, t6, t10, t11, t12, Option.isNone_none]
        refine GCall.of (num_ok _) ?_
        rintro v3 h6 ⟨rfl, rfl⟩
        simp -implicitDefEqProofs (disch := (first | omega | (simp -implicitDefEqProofs only [szs, ne_eq] <;> omega) | fail)) only [go_sem, Nat.reduceAdd, Nat.reduceLT, Nat.reduceEqDiff, ↓reduceIte, t4, t13, undefV, c', hee]
        exact ⟨by omega, fun b hb => by rw [w_set_ne (by omega) (by omega)]; exact kF b hb, _, _, _, rfl, .inl ⟨rfl, rfl, .inr ⟨_, rfl⟩, .inr ⟨_, he0, oc⟩⟩⟩
  · simp -implicitDefEqProofs (disch := (first | omega | (simp -implicitDefEqProofs only [szs, ne_eq] <;> omega) | fail)) only [go_sem, Nat.reduceAdd, Nat.reduceSub, Nat.reduceLT, Nat.reduceMod, Nat.reduceDiv, ↓reduceIte, reduceCtorEq, ir10]
    refine GCall.of (new_bad hn) ?_
    rintro v1 h1 ⟨rfl, rfl⟩
    simp -implicitDefEqProofs (disch := (first | omega | (simp -implicitDefEqProofs only [szs, ne_eq] <;> omega) | fail)) only [go_sem, Nat.reduceAdd, Nat.reduceSub, Nat.reduceLT, Nat.reduceMod, Nat.reduceDiv, ↓reduceIte, reduceCtorEq]
    refine GCall.of (rnew_bad hn) ?_
    rintro v2 h2 ⟨rfl, rfl⟩
    simp -implicitDefEqProofs (disch := (first | omega | (simp -implicitDefEqProofs only [szs, ne_eq] <;> omega) | fail)) only [go_sem, Nat.reduceAdd, Nat.reduceSub, Nat.reduceLT, Nat.reduceMod, Nat.reduceDiv, ↓reduceIte, reduceCtorEq, Option.isNone_none]
    refine GCall.of (num_ok _) ?_
    rintro v3 g ⟨rfl, rfl⟩
    obtain ⟨g, eg⟩ : ∃ g, h.push (.cells (Blk.of [.ptr none, .ptr none, .ptr none]) 29) = g := ⟨_, rfl⟩
    have ng : g.n = h.n + 1 := by rw [← eg]; simp
    have kg : ∀ b, b < h.n → g.get b = h.get b := fun b hb => by rw [← eg, w_push_ne (by omega)]
    have cg : g.get h.n = some (.cells (Blk.of [.ptr none, .ptr none, .ptr none]) 29) := by rw [← eg, w_push_eq rfl]
    have hqg := hq.old kg
    obtain ⟨a1, h1, r1, h3, r3, w3, e1, e3, n1, n3, w3g, k3, ob⟩ := own_app hqg hm20
    have hsl := slice_lo (h1.n + 1) 0 (m + 1) (m + 1) m (by omega) (by omega) (by omega)
    simp -implicitDefEqProofs (disch := (first | omega | (simp -implicitDefEqProofs only [szs, ne_eq] <;> omega) | fail)) only [go_sem, Nat.reduceAdd, Nat.reduceSub, Nat.reduceLT, Nat.reduceMod, Nat.reduceDiv, ↓reduceIte, reduceCtorEq, Option.isNone_none, eg, appendV_of ap_22, ↓e1, ↓e3, ↓hlv, ↓hsl]
    refine ⟨allB_of fun b _ => .inr (hR b), allB_of fun b _ => .inr (hR b), allB_of fun b hb => .inl (by have := w3g b hb; omega), ?_⟩
    refine GCall.of xnew_none ?_
    rintro v3 h4 ⟨rfl, rfl⟩
    simp -implicitDefEqProofs (disch := (first | omega | (simp -implicitDefEqProofs only [szs, ne_eq] <;> omega) | fail)) only [go_sem, Nat.reduceAdd, Nat.reduceSub, Nat.reduceLT, Nat.reduceMod, Nat.reduceDiv, ↓reduceIte, reduceCtorEq]
    refine GCall.of rnew31_none ?_
    rintro v3 h5 ⟨rfl, rfl⟩
    simp -implicitDefEqProofs (disch := (first | omega | (simp -implicitDefEqProofs only [szs, ne_eq] <;> omega) | fail)) only [go_sem, Nat.reduceAdd, Nat.reduceSub, Nat.reduceLT, Nat.reduceMod, Nat.reduceDiv, ↓reduceIte, reduceCtorEq]
    refine own_loop (v := v) (v4 := .ptr (some (h.n, 0))) (v6 := .ptr none) (v10 := .ptr none) (v11 := .int .i64 1) (v12 := .ptr none) (v13 := .int .i64 1) (nb := h1.n + 1) (q := q) (hqg.old k3) hm20 (fun b => .inr (hR b)) (.inl (by omega)) ob (fun b n c o x e => by have := hvb b n c o x e; omega) ?_ rfl rfl (by simp -implicitDefEqProofs (disch := (first | omega | (simp -implicitDefEqProofs only [szs, ne_eq] <;> omega) | fail)) only [go_sem, Nat.reduceDiv, ↓reduceIte, reduceCtorEq]) (by simp -implicitDefEqProofs (disch := (first | omega | (simp -implicitDefEqProofs only [szs, ne_eq] <;> omega) | fail)) only [go_sem, Nat.reduceSub, Nat.reduceMod, Nat.reduceDiv, ↓reduceIte, reduceCtorEq]) (by simp -implicitDefEqProofs (disch := (first | omega | (simp -implicitDefEqProofs only [szs, ne_eq] <;> omega) | fail)) only [go_sem, Nat.reduceSub, Nat.reduceMod, Nat.reduceDiv, ↓reduceIte, reduceCtorEq]) (by simp -implicitDefEqProofs (disch := (first | omega | (simp -implicitDefEqProofs only [szs, ne_eq] <;> omega) | fail)) only [go_sem, Nat.reduceSub, Nat.reduceMod, Nat.reduceDiv, ↓reduceIte, reduceCtorEq]) (by simp -implicitDefEqProofs (disch := (first | omega | (simp -implicitDefEqProofs only [szs, ne_eq] <;> omega) | fail)) only [go_sem, Nat.reduceSub, Nat.reduceMod, Nat.reduceDiv, ↓reduceIte, reduceCtorEq]) (by simp -implicitDefEqProofs (disch := (first | omega | (simp -implicitDefEqProofs only [szs, ne_eq] <;> omega) | fail)) only [go_sem, Nat.reduceSub, Nat.reduceMod, Nat.reduceDiv, ↓reduceIte, reduceCtorEq]) (by simp -implicitDefEqProofs (disch := (first | omega | (simp -implicitDefEqProofs only [szs, ne_eq] <;> omega) | fail)) only [go_sem, Nat.reduceSub, Nat.reduceMod, Nat.reduceDiv, ↓reduceIte, reduceCtorEq]) (by simp -implicitDefEqProofs (disch := (first | omega | (simp -implicitDefEqProofs only [szs, ne_eq] <;> omega) | fail)) only [go_sem, Nat.reduceSub, Nat.reduceMod, Nat.reduceDiv, ↓reduceIte, reduceCtorEq]) (by simp -implicitDefEqProofs (disch := (first | omega | (simp -implicitDefEqProofs only [szs, ne_eq] <;> omega) | fail)) only [go_sem, Nat.reduceSub, Nat.reduceMod, Nat.reduceDiv, ↓reduceIte, reduceCtorEq])
    intro tr g' hg' ng' t4 t6 t10 t11 t12 t13
    have c' := (hg' h.n (by omega)).trans ((k3 h.n (by omega)).trans cg)
    simp -implicitDefEqProofs (disch := (first | omega | (simp -implicitDefEqProofs only [szs, ne_eq] <;> omega) | fail)) only [go_sem, Nat.reduceAdd, Nat.reduceLT, Nat.reduceEqDiff, Nat.reduceLeDiff, ↓reduceIte, t6, t10, t11, t12, Option.isNone_none]
    refine GCall.of (num_ok _) ?_
    rintro v3 h6 ⟨rfl, rfl⟩
    simp -implicitDefEqProofs (disch := (first | omega | (simp -implicitDefEqProofs only [szs, ne_eq] <;> omega) | fail)) only [go_sem, Nat.reduceAdd, Nat.reduceLT, Nat.reduceEqDiff, ↓reduceIte, t4, t13, undefV, c']
    exact ⟨by omega, fun b hb => by rw [w_set_ne (by omega) (by omega), hg' b (by omega), k3 b (by omega)]; exact kg b hb, _, _, _, rfl, .inl ⟨rfl, rfl, .inl rfl, .inl hn⟩⟩
end Go.Proofs.Ythdkhbhicimpdaa
