/- The document's disk in the extents' seat: in, Seen, Read, Bytes, New (the disk's texts, ported). -/
import Derived.Test.YthdkhbhicimpdaaE6
import Derived.Test.YthdkhbhicimpdaaIr2
set_option linter.unusedVariables false
set_option maxRecDepth 100000
namespace Go.Proofs.Ythdkhbhicimpdaa
open Go Go.Vm
attribute [-go_sem] sz_113
structure RefAt (h : Heap) (R : Set') (rd : Nat) (D : DS) : Prop where
  pos : 1 ≤ D.n ∧ D.n ≤ 4096
  r : R rd
  d : ∃ c fb pb xf xp, h.get rd = some (.cells c 83) ∧ c.size = 3 ∧ c.ro = false ∧ c.get 0 = .slice (some (fb, 0)) D.n D.n xf ∧ c.get 1 = .slice (some (pb, 0)) D.n D.n xp ∧ c.get 2 = .int .i64 D.wr ∧
    R fb ∧ R pb ∧ (∃ cf, h.get fb = some (.cells cf 45) ∧ cf.size = D.n ∧ cf.ro = false ∧ ∀ s, s < D.n → LR h R (cf.get s) (D.fl s)) ∧
    (∃ cp, h.get pb = some (.cells cp 80) ∧ cp.size = D.n ∧ cp.ro = false ∧ ∀ s, s < D.n → ∃ vs, LR h R (cp.get s) vs ∧ vs.length = (D.pe s).length ∧ ∀ i l, (D.pe s)[i]? = some l → LR h R (vs.getD i undefV) l)
  fl : ∀ s, s < D.n → IsSec (D.fl s)
  pe : ∀ s, ∀ l ∈ D.pe s, IsSec l
  out : ∀ s, D.n ≤ s → D.pe s = []
  few : ∀ s, (D.pe s).length ≤ 1000000000
theorem RefAt.same {h h' : Heap} {R : Set'} {rd : Nat} {D : DS} (hr : RefAt h R rd D) (hk : ∀ b, R b → b < h.n → h'.get b = h.get b) : RefAt h' R rd D := by
  obtain ⟨hp, r, ⟨c, fb, pb, xf, xp, d1, d2, d3, d4, d5, d6, rf, rp, ⟨cf, f1, f2, f3, f4⟩, ⟨cp, p1, p2, p3, p4⟩⟩, h1, h2, h3, h4⟩ := hr
  refine ⟨hp, r, ⟨c, fb, pb, xf, xp, by rw [hk _ r (Heap.lt_of_get d1)]; exact d1, d2, d3, d4, d5, d6, rf, rp, ⟨cf, by rw [hk _ rf (Heap.lt_of_get f1)]; exact f1, f2, f3, fun s hs => (f4 s hs).same hk⟩, ⟨cp, by rw [hk _ rp (Heap.lt_of_get p1)]; exact p1, p2, p3, fun s hs => ?_⟩⟩, h1, h2, h3, h4⟩
  obtain ⟨vs, v1, v2, v3⟩ := p4 s hs
  exact ⟨vs, v1.same hk, v2, fun i l e => (v3 i l e).same hk⟩
theorem RefAt.old {h h' : Heap} {R : Set'} {rd : Nat} {D : DS} (hr : RefAt h R rd D) (hk : ∀ b, b < h.n → h'.get b = h.get b) : RefAt h' R rd D := hr.same fun b _ hb => hk b hb
theorem rdin_ok {h : Heap} {R W S : Set'} {rd : Nat} {D : DS} (hr : RefAt h S rd D) (hR : ∀ b, R b) (k : Int) : SF Try.prog 75 [.ptr (some (rd, 0)), .int .i64 k] h R W fun v h' => v = .bool (decide (0 ≤ k ∧ k < D.n)) ∧ h' = h := by
  obtain ⟨c, fb, pb, xf, xp, d1, d2, d3, d4, d5, d6, _⟩ := hr.d
  have hRr := hR rd
  have hp := hr.pos
  refine SF.go hm Try.func75 ir75_eq ?_
  by_cases h0 : 0 ≤ k
  · simp -implicitDefEqProofs (disch := (first | omega | fail)) only [go_sem, Nat.reduceAdd, Nat.reduceSub, Nat.reduceLT, Nat.reduceMod, Nat.reduceDiv, ↓reduceIte, reduceCtorEq, ir75, d1, d2, d4, hRr]
    congr 1
    exact decide_eq_decide.2 (by omega)
  · simp -implicitDefEqProofs (disch := (first | omega | fail)) only [go_sem, Nat.reduceAdd, Nat.reduceSub, Nat.reduceLT, Nat.reduceMod, Nat.reduceDiv, ↓reduceIte, reduceCtorEq, ir75, undefV]
    congr 1
    exact (decide_eq_false (by omega)).symm
theorem rseen_ok {h : Heap} {R W S : Set'} {rd : Nat} {D : DS} (hr : RefAt h S rd D) (hR : ∀ b, R b) {s : Nat} (hs : s < D.n) : SF Try.prog 76 [.ptr (some (rd, 0)), .int .i64 s] h R W fun v h' => LR h S v (D.seen s) ∧ h' = h := by
  obtain ⟨c, fb, pb, xf, xp, d1, d2, d3, d4, d5, d6, _, _, ⟨cf, f1, f2, f3, f4⟩, ⟨cp, p1, p2, p3, p4⟩⟩ := hr.d
  have hp := hr.pos
  have hRr := hR rd
  have hRf := hR fb
  have hRp := hR pb
  have hfew := hr.few s
  obtain ⟨vs, v1, v2, v3⟩ := p4 s hs
  have hlen := v1.lenV Try.underlying80
  rw [v2] at hlen
  refine SF.go hm Try.func76 ir76_eq ?_
  by_cases he : D.pe s = []
  · rw [he, List.length_nil] at hlen
    simp -implicitDefEqProofs (disch := (first | omega | fail)) only [go_sem, Nat.reduceAdd, Nat.reduceSub, Nat.reduceLT, Nat.reduceMod, Nat.reduceDiv, ↓reduceIte, reduceCtorEq, ir76, d1, d2, d4, d5, p1, p2, f1, f2, hRr, hRf, hRp, ↓hlen]
    rw [DS.seen_nil he]
    exact f4 s hs
  · have hp0 := List.length_pos_iff.2 he
    have hgs := DS.seen_get he
    obtain ⟨b, o, cap, ex, cc, ce, hv, hRb', hb, hbs, hbg⟩ := v1.get (i := (D.pe s).length - 1) (by omega)
    have h3 := v3 _ _ hgs
    have hRb := hR b
    have hto : (((D.pe s).length : Int) - 1).toNat = (D.pe s).length - 1 := by omega
    rw [v2] at hv hbs
    rw [hv] at hlen
    simp -implicitDefEqProofs (disch := (first | omega | fail)) only [go_sem, Nat.reduceAdd, Nat.reduceSub, Nat.reduceLT, Nat.reduceMod, Nat.reduceDiv, ↓reduceIte, reduceCtorEq, ir76, d1, d2, d5, p1, p2, hRr, hRp, hv, ↓hlen, hb, hRb, hto]
    rw [hbg]
    exact h3
theorem rread_ok {h : Heap} {R W S : Set'} {rd : Nat} {D : DS} (hr : RefAt h S rd D) (hR : ∀ b, R b) {s : Nat} (hs : s < D.n) : SF Try.prog 72 [.ptr (some (rd, 0)), .int .i64 s] h R W fun v h' => (∃ v', v = .tuple [v', .int .i64 0] ∧ LR h S v' (D.seen s)) ∧ h' = h := by
  refine SF.go hm Try.func72 ir72_eq ?_
  simp -implicitDefEqProofs (disch := (first | omega | fail)) only [go_sem, Nat.reduceAdd, Nat.reduceSub, Nat.reduceLT, Nat.reduceMod, Nat.reduceDiv, ↓reduceIte, reduceCtorEq, ir72]
  refine GCall.of (rdin_ok hr (fun b => .inr (hR b)) s) ?_
  rintro v g ⟨rfl, rfl⟩
  rw [decide_eq_true (show 0 ≤ (s : Int) ∧ (s : Int) < D.n by omega)]
  simp -implicitDefEqProofs (disch := (first | omega | fail)) only [go_sem, Nat.reduceAdd, Nat.reduceSub, Nat.reduceLT, Nat.reduceMod, Nat.reduceDiv, ↓reduceIte, reduceCtorEq]
  refine GCall.of (rseen_ok hr (fun b => .inr (hR b)) hs) ?_
  rintro v g2 ⟨hv, rfl⟩
  simp -implicitDefEqProofs (disch := (first | omega | fail)) only [go_sem, Nat.reduceAdd, Nat.reduceSub, Nat.reduceLT, Nat.reduceMod, Nat.reduceDiv, ↓reduceIte, reduceCtorEq]
  exact ⟨v, rfl, hv⟩
theorem ap_80 : apT Try.prog 80 80 = some (45, 1, 24) := by kernel_rfl
theorem rnew_bad {h : Heap} {R W : Set'} {n : Int} (hn : ¬ (1 ≤ n ∧ n ≤ 4096)) : SF Try.prog 30 [.int .i64 n] h R W fun v h' => v = .ptr none ∧ h' = h := by
  refine SF.go hm Try.func30 ir30_eq ?_
  by_cases h1 : n < 1
  · simp -implicitDefEqProofs (disch := (first | omega | fail)) only [go_sem, Nat.reduceAdd, Nat.reduceSub, Nat.reduceLT, Nat.reduceMod, Nat.reduceDiv, ↓reduceIte, reduceCtorEq, ir30, undefV]
  · simp -implicitDefEqProofs (disch := (first | omega | fail)) only [go_sem, Nat.reduceAdd, Nat.reduceSub, Nat.reduceLT, Nat.reduceMod, Nat.reduceDiv, ↓reduceIte, reduceCtorEq, ir30]
theorem rep_gets0 (n : Nat) (v : V) : (Blk.rep n [v]).gets 0 n = List.replicate n v := by
  refine Blk.gets_ext (fun j hj => ?_) (by simp)
  rw [List.length_replicate] at hj
  rw [rep_get, show (0 + j) % [v].length = 0 from Nat.mod_one _, List.getD_eq_getElem?_getD, List.getD_eq_getElem?_getD, List.getElem?_replicate, if_pos hj]; rfl
structure RefFresh (h : Heap) (n0 rd n : Nat) (F : Nat → List V) (sb : Nat → Nat) : Prop where
  lo : n0 ≤ rd
  d : ∃ c fb pb xf, h.get rd = some (.cells c 83) ∧ c.size = 3 ∧ c.ro = false ∧ c.get 0 = .slice (some (fb, 0)) n n xf ∧ c.get 1 = .slice (some (pb, 0)) n n true ∧ c.get 2 = .int .i64 0 ∧ n0 ≤ fb ∧ n0 ≤ pb ∧
    (∃ cf, h.get fb = some (.cells cf 45) ∧ cf.size = n ∧ cf.ro = false ∧ ∀ s, s < n → cf.get s = .slice (some (sb s, 0)) 128 128 true) ∧ h.get pb = some (.cells (Blk.rep n [.slice none 0 0 true]) 80)
  s : ∀ s, s < n → n0 ≤ sb s ∧ ∃ cc, h.get (sb s) = some (.cells cc 5) ∧ cc.size = 128 ∧ cc.ro = false ∧ cc.gets 0 secN = F s
  inj : ∀ s t, s < n → t < n → s ≠ t → sb s ≠ sb t
theorem RefFresh.ref {h : Heap} {n0 rd n : Nat} {F : Nat → List V} {sb : Nat → Nat} (hf : RefFresh h n0 rd n F sb) (hn : 1 ≤ n ∧ n ≤ 4096) (hF : ∀ s, s < n → IsSec (F s)) : RefAt h (fun b => n0 ≤ b) rd ⟨n, F, fun _ => [], 0⟩ := by
  obtain ⟨c, fb, pb, xf, c1, cs, cr, c0, c2, c3, rf, rp, ⟨cf, f1, f2, f3, f4⟩, p1⟩ := hf.d
  have hN := secN_eq
  refine ⟨hn, hf.lo, ⟨c, fb, pb, xf, true, c1, cs, cr, c0, c2, c3, rf, rp, ⟨cf, f1, f2, f3, fun s hs => ?_⟩, ⟨_, p1, rfl, rfl, fun s hs => ⟨[], .inl ⟨rfl, .inl ?_⟩, rfl, fun i l e => by simp at e⟩⟩⟩, hF, fun s l hl => by simp at hl, fun s hs => rfl, fun s => by simp⟩
  · obtain ⟨h1, cc, e1, e2, e3, e4⟩ := hf.s s hs
    have hl := (hF s hs).1
    rw [f4 s hs]
    exact .inr ⟨sb s, 0, 128, true, cc, 5, by rw [hl, hN], h1, e1, by rw [e2]; show 0 + (F s).length ≤ 128; omega, by show cc.gets 0 (F s).length = F s; rw [hl]; exact e4⟩
  · rw [rep_get, show s % [V.slice none 0 0 true].length = 0 from Nat.mod_one s]; rfl
set_option maxHeartbeats 1000000 in
theorem rnew_ok {h : Heap} {R W : Set'} {n : Nat} (hn : 1 ≤ n ∧ n ≤ 4096) (hR : ∀ b, R b) : SF Try.prog 30 [.int .i64 n] h R W fun v h' => v = .ptr (some (h.n + 1, 0)) ∧ (∃ sb, RefFresh h' h.n (h.n + 1) n (fun _ => ze_113) sb) ∧ ∀ b, b < h.n → h'.get b = h.get b := by
  have hc : 0 ≤ (n : Int) ∧ (n : Int) ≤ (n : Int) ∧ 24 * (n : Int).toNat ≤ 281474976710656 ∧ (n : Int) ≤ 9223372036854775807 := by omega
  have hc2 : 24 * n ≤ 281474976710656 := by omega
  have htn : (n : Int).toNat = n := by omega
  have hN := secN_eq
  refine SF.go hm Try.func30 ir30_eq ?_
  simp -implicitDefEqProofs (disch := (first | omega | (simp -implicitDefEqProofs only [szs, ne_eq] <;> omega) | fail)) only [go_sem, Nat.reduceAdd, Nat.reduceSub, Nat.reduceLT, Nat.reduceMod, Nat.reduceDiv, Nat.reduceLeDiff, ↓reduceIte, reduceCtorEq, ir30, hc, hc2, htn]
  refine GLoop.inv hm (fun k f g => f.mks = [] ∧ f.tm.n = 31 ∧ f.tm.get 0 = some (.int .i64 n) ∧ f.tm.get 3 = some (.ptr (some (h.n + 1, 0))) ∧ ∃ (i : Nat) (l : List V) (v : V), i + k = n ∧ f.tm.get 4 = some (.int .i64 i) ∧ l.length = i ∧ h.n + 2 ≤ g.n ∧ Own (h.n + 2) g v l 45 ∧ (∃ c, g.get (h.n + 1) = some (.cells c 83) ∧ c.size = 3 ∧ c.ro = false ∧ c.get 0 = v ∧ c.get 1 = .slice (some (h.n, 0)) n n true ∧ c.get 2 = .int .i64 0) ∧ g.get h.n = some (.cells (Blk.rep n [.slice none 0 0 true]) 80) ∧ (∀ j, j < i → ∃ b, l[j]? = some (.slice (some (b, 0)) 128 128 true) ∧ h.n + 2 ≤ b ∧ g.get b = some (.cells (Blk.rep 128 [.int .u8 0]) 5) ∧ ∀ j2 b2, j2 < i → j2 ≠ j → l[j2]? = some (.slice (some (b2, 0)) 128 128 true) → b2 ≠ b) ∧ ∀ b, b < h.n → g.get b = h.get b) n ?_ ?_
  · exact ⟨rfl, rfl, by simp -implicitDefEqProofs (disch := (first | omega | (simp -implicitDefEqProofs only [szs, ne_eq] <;> omega) | fail)) only [go_sem, ↓reduceIte], by simp -implicitDefEqProofs (disch := (first | omega | (simp -implicitDefEqProofs only [szs, ne_eq] <;> omega) | fail)) only [go_sem, Nat.reduceMod, Nat.reduceDiv, ↓reduceIte, reduceCtorEq], 0, [], _, by omega, by simp -implicitDefEqProofs (disch := (first | omega | (simp -implicitDefEqProofs only [szs, ne_eq] <;> omega) | fail)) only [go_sem, Nat.reduceSub, Nat.reduceMod, Nat.reduceDiv, ↓reduceIte, reduceCtorEq]; rfl, rfl, by simp, Own.nil _ _ _, ⟨_, by simp -implicitDefEqProofs (disch := (first | omega | (simp -implicitDefEqProofs only [szs, ne_eq] <;> omega) | fail)) only [go_sem]; rfl, rfl, rfl, rfl, rfl, rfl⟩, by simp -implicitDefEqProofs (disch := (first | omega | (simp -implicitDefEqProofs only [szs, ne_eq] <;> omega) | fail)) only [go_sem], fun j hj => by omega, fun b hb => by simp -implicitDefEqProofs (disch := (first | omega | (simp -implicitDefEqProofs only [szs, ne_eq] <;> omega) | fail)) only [go_sem]⟩
  rintro k ⟨⟨n', tr⟩, mks⟩ g ⟨hmk, hn', t0, t3, i, l, v, hik, t4, hl, hgn, ho, ⟨c, c1, cs, cr, c0, c2, c3⟩, hp, htx, hold⟩
  simp only [Tm.get_mk] at hmk hn' t0 t3 t4
  subst hmk hn'
  by_cases hin : i < n
  · obtain ⟨v', h', r', w', hap, o', m', k', hw', kk, ht⟩ := app_own (n0 := h.n + 2) (h := (g.push (.cells (Blk.rep 128 [.int .u8 0]) 5)).push (.cells (Blk.of [.slice (some (g.n, 0)) 128 128 true]) 45)) (x := .slice (some (g.n + 1, 0)) 1 1 true) (news := [.slice (some (g.n, 0)) 128 128 true]) (rs := [g.n + 1]) (bytes := 24) (ho.old fun b hb => by simp -implicitDefEqProofs (disch := (first | omega | (simp -implicitDefEqProofs only [szs, ne_eq] <;> omega) | fail)) only [go_sem]) (by simp; omega) rfl (first_one (e := 45) (by simp -implicitDefEqProofs (disch := (first | omega | (simp -implicitDefEqProofs only [szs, ne_eq] <;> omega) | fail)) only [go_sem])) rfl (by simp only [List.length_cons, List.length_nil]; omega) (by simp only [List.length_cons, List.length_nil]; omega)
    have hgn' : g.n + 2 ≤ h'.n := by simp at m'; omega
    have hkk : ∀ b o, b < g.n → g.get b = some o → (∀ c, o ≠ .cells c 45) → h'.get b = some o := fun b o hb e hne => by
      rw [kk b (by simp; omega) (fun hb' => by
        obtain ⟨c', e'⟩ := ht b hb'
        rw [w_push_ne (by simp; omega), w_push_ne (by omega), e] at e'
        exact hne c' (Option.some.inj e'))]
      rw [w_push_ne (by simp; omega), w_push_ne (by omega), e]
    have hnew : h'.get g.n = some (.cells (Blk.rep 128 [.int .u8 0]) 5) := by
      rw [kk g.n (by simp; omega) (fun hb' => by
        obtain ⟨c', e'⟩ := ht _ hb'
        rw [w_push_ne (by simp), w_push_eq rfl] at e'
        cases e')]
      simp -implicitDefEqProofs (disch := (first | omega | (simp -implicitDefEqProofs only [szs, ne_eq] <;> omega) | fail)) only [go_sem]
    have c1' := hkk _ _ (Heap.lt_of_get c1) c1 (fun c => by simp)
    have hlt' := Heap.lt_of_get c1'
    have hcv := o'.lr.cells
    have hon := o'.lr.one
    have hRq := fun b => (show (h.n ≤ b ∨ R b) = (h.n ≤ b ∨ R b) from rfl)
    simp -implicitDefEqProofs (disch := (first | omega | (simp -implicitDefEqProofs only [szs, ne_eq] <;> omega) | fail)) only [go_sem, Nat.reduceAdd, Nat.reduceLT, Nat.reduceEqDiff, Nat.reduceLeDiff, ↓reduceIte, reduceCtorEq, Int.reduceLE, Int.reduceToNat, ir30_l0, t0, t3, t4, c1, cs, cr, c0, appendV_of ap_80, hap, c1', ↓hcv, ↓hon]
    simp only [List.not_mem_nil, or_false, false_or, and_false, false_implies, implies_true, not_false_eq_true, List.mem_cons, and_true, true_and]
    have hlg : ∀ j, j < i → (l ++ [V.slice (some (g.n, 0)) 128 128 true])[j]? = l[j]? := fun j hj => List.getElem?_append_left (by omega)
    have hlgi : (l ++ [V.slice (some (g.n, 0)) 128 128 true])[i]? = some (V.slice (some (g.n, 0)) 128 128 true) := by
      rw [List.getElem?_append_right (by omega), show i - l.length = 0 by omega]; rfl
    refine ⟨fun b hb => by omega, ⟨fun b _ _ => .inr (hR b), fun b _ hb => .inl (by have := hw' b hb; omega)⟩, k - 1, by omega, i + 1, _, _, by omega, rfl, by simp; omega, by omega, o'.keep ?_, ⟨c.set 0 v', rfl, by rw [Blk.size_set]; exact cs, by rw [Blk.ro_set]; exact cr, by simp -implicitDefEqProofs (disch := (first | omega | (simp -implicitDefEqProofs only [szs, ne_eq] <;> omega) | fail)) only [go_sem], by simp -implicitDefEqProofs (disch := (first | omega | (simp -implicitDefEqProofs only [szs, ne_eq] <;> omega) | fail)) only [go_sem, c2], by simp -implicitDefEqProofs (disch := (first | omega | (simp -implicitDefEqProofs only [szs, ne_eq] <;> omega) | fail)) only [go_sem, c3]⟩, hkk _ _ (Heap.lt_of_get hp) hp (fun c => by simp), fun j hj => ?_, fun b hb => ?_⟩
    · intro b c' e
      have : b ≠ h.n + 1 := fun e2 => by rw [e2, c1'] at e; simp at e
      rw [w_set_ne hlt' this]; exact e
    · by_cases hji : j < i
      · obtain ⟨b, e1, e2, e3, e4⟩ := htx j hji
        have hbl := Heap.lt_of_get e3
        refine ⟨b, by rw [hlg j hji]; exact e1, e2, ?_, fun j2 b2 hj2 hne e5 => ?_⟩
        · rw [w_set_ne hlt' (by omega)]; exact hkk _ _ hbl e3 (fun c => by simp)
        · by_cases hj2i : j2 < i
          · rw [hlg j2 hj2i] at e5; exact e4 j2 b2 hj2i hne e5
          · obtain rfl : j2 = i := by omega
            rw [hlgi] at e5
            have : g.n = b2 := by simpa using e5
            omega
      · obtain rfl : j = i := by omega
        refine ⟨g.n, hlgi, by omega, ?_, fun j2 b2 hj2 hne e5 => ?_⟩
        · rw [w_set_ne hlt' (by omega)]; exact hnew
        · rw [hlg j2 (by omega)] at e5
          obtain ⟨b, e1, e2, e3, e4⟩ := htx j2 (by omega)
          have hbl := Heap.lt_of_get e3
          rw [e1] at e5
          have : b = b2 := by simpa using e5
          omega
    · rw [w_set_ne hlt' (by omega), k' b (by omega), w_push_ne (by simp; omega), w_push_ne (by omega), hold b hb]
  · have : i = n := by omega
    subst this
    simp -implicitDefEqProofs (disch := (first | omega | (simp -implicitDefEqProofs only [szs, ne_eq] <;> omega) | fail)) only [go_sem, Nat.reduceAdd, Nat.reduceLT, Nat.reduceEqDiff, ↓reduceIte, reduceCtorEq, ir30_l0, t0, t3, t4]
    rcases ho with ⟨rfl, _⟩ | ⟨b, x, cb, h0, rfl, hb0, hb, hbs, hbr, hbg⟩
    · simp at hl; omega
    have hcg : ∀ s, s < i → ∃ b2, cb.get s = .slice (some (b2, 0)) 128 128 true ∧ h.n + 2 ≤ b2 ∧ g.get b2 = some (.cells (Blk.rep 128 [.int .u8 0]) 5) ∧ ∀ j2 b3, j2 < i → j2 ≠ s → l[j2]? = some (.slice (some (b3, 0)) 128 128 true) → b3 ≠ b2 := fun s hs => by
      obtain ⟨b2, e1, e2, e3, e4⟩ := htx s hs
      refine ⟨b2, ?_, e2, e3, e4⟩
      have := Blk.gets_get cb l.length 0 s (by omega)
      rw [hbg, Nat.zero_add, e1] at this
      exact (Option.some.inj this).symm
    have hz : (Blk.rep 128 [V.int .u8 0]).gets 0 128 = ze_113 := by rw [rep_gets0, ze_eq, hN]
    have hlb : ∀ s, s < i → ∃ b2, l[s]? = some (.slice (some (b2, 0)) 128 128 true) ∧ cb.get s = .slice (some (b2, 0)) 128 128 true := fun s hs => by
      obtain ⟨b2, e1, e2, e3, e4⟩ := htx s hs
      refine ⟨b2, e1, ?_⟩
      have := Blk.gets_get cb l.length 0 s (by omega)
      rw [hbg, Nat.zero_add, e1] at this
      exact (Option.some.inj this).symm
    refine ⟨⟨fun s => sblk (cb.get s), by omega, ⟨c, b, h.n, x, c1, cs, cr, by rw [c0, hl], c2, c3, by omega, by omega, ⟨cb, hb, by rw [hbs, hl], hbr, fun s hs => ?_⟩, hp⟩, fun s hs => ?_, fun s t hs ht hst => ?_⟩, hold⟩
    · obtain ⟨b2, e1, e2, e3, _⟩ := hcg s hs
      rw [e1]; rfl
    · obtain ⟨b2, e1, e2, e3, _⟩ := hcg s hs
      rw [e1]
      exact ⟨by show h.n ≤ b2; omega, _, e3, rfl, rfl, by rw [hN]; exact hz⟩
    · obtain ⟨b2, e1, e2, e3, e4⟩ := hcg s hs
      obtain ⟨b3, g1, g2⟩ := hlb t ht
      have := e4 t b3 ht (Ne.symm hst) g1
      rw [e1, g2]
      exact Ne.symm this
end Go.Proofs.Ythdkhbhicimpdaa
