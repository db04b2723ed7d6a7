/- Tables of pages: Copy. -/
import Derived.Test.YtkfhdaimememiaaK
set_option linter.unusedVariables false
set_option linter.unusedSimpArgs false
set_option linter.unusedSimpArgs false
set_option maxRecDepth 100000
set_option linter.unusedVariables false
set_option linter.unusedSimpArgs false
namespace Go.Proofs.Ytkfhdaimememiaa
open Go Go.Vm
set_option maxHeartbeats 4000000 in
theorem copy_dem {h : Heap} {R W : Set'} {tb r : Nat} {T : Tb} (ht : TabAt h tb r T) (hR : ∀ b, R b) :
    SF ⟨Try.prog, true⟩ 10 [.ptr (some (tb, 0))] h R W fun v h' => v = .ptr (some (h.n + 1, 0)) ∧ TabAt h' (h.n + 1) h.n T ∧ h.n + 2 ≤ h'.n ∧ ∀ b, b < h.n → h'.get b = h.get b := by
  obtain ⟨c, t1, t2, t3, t4, t5⟩ := ht.t
  obtain ⟨es, ck, m1, m2, m3⟩ := ht.m
  have hlt := ht.lt
  have hR1 := hR tb
  have hR2 := hR r
  refine SF.go hm Try.func10 ir10_eq ?_
  simp -implicitDefEqProofs (disch := (first | omega | (simp -implicitDefEqProofs only [szs, ne_eq] <;> omega) | fail)) only [go_sem, Nat.reduceAdd, Nat.reduceSub, Nat.reduceMul, Nat.reduceLT, Nat.reduceMod, Nat.reduceDiv, Nat.reduceEqDiff, Nat.reduceBEq, Nat.reduceLeDiff, ↓reduceIte, reduceCtorEq, Int.reduceAdd, Int.reduceSub, Int.reduceLT, Int.reduceLE, Int.reduceBEq, Int.reduceEq, Int.reduceToNat, ir10]
  refine GCall.of (there_ok ht (.inr hR1)).any ?_
  rintro v h1 ⟨rfl, rfl⟩
  obtain ⟨L, hL⟩ : ∃ L, c.gets 0 2560 = L := ⟨_, rfl⟩
  have hLl : L.length = 2560 := by rw [← hL, Blk.length_gets]
  have hbz := built_64 L hLl h1.n
  obtain ⟨h2, e2, n2, b2, r2, k2⟩ : ∃ h2, ((h1.push (.map [] 0)).push (.cells (Blk.of (L ++ [.map (some h1.n)])) 64)) = h2 ∧ h2.n = h1.n + 2 ∧ h2.get (h1.n + 1) = some (.cells (Blk.of (L ++ [.map (some h1.n)])) 64) ∧ h2.get h1.n = some (.map [] 0) ∧ ∀ b, b < h1.n → h2.get b = h1.get b :=
    ⟨_, rfl, by simp, w_push_eq (by simp) _, by rw [w_push_ne (by simp), w_push_eq rfl], fun b hb => by rw [w_push_ne (by simp; omega), w_push_ne (by omega)]⟩
  have t1' := (k2 tb (by omega)).trans t1
  have m1' := (k2 r (by omega)).trans m1
  simp -implicitDefEqProofs (disch := (first | omega | (simp -implicitDefEqProofs only [szs, ne_eq] <;> omega) | fail)) only [go_sem, Nat.reduceAdd, Nat.reduceSub, Nat.reduceMul, Nat.reduceLT, Nat.reduceMod, Nat.reduceDiv, Nat.reduceEqDiff, Nat.reduceBEq, Nat.reduceLeDiff, ↓reduceIte, reduceCtorEq, Int.reduceAdd, Int.reduceSub, Int.reduceLT, Int.reduceLE, Int.reduceBEq, Int.reduceEq, Int.reduceToNat, t1, t2, hR1, ↓hL, ↓hbz, e2, t1', t5, rangeV, m1', Try.underlying62]
  have hgetL : ∀ i, i < 2560 → (Blk.of (L ++ [V.map (some h1.n)])).get i = c.get i := fun i hi => by
    rw [w_of_get (by rw [List.length_append, List.length_singleton]; omega), List.getD_eq_getElem?_getD, List.getElem?_append_left (by omega), ← hL, Blk.gets_get _ _ _ _ hi, Nat.zero_add]; rfl
  have hgetM : (Blk.of (L ++ [V.map (some h1.n)])).get 2560 = .map (some h1.n) := by
    rw [w_of_get (by rw [List.length_append, List.length_singleton]; omega), List.getD_eq_getElem?_getD, List.getElem?_append_right (by omega), hLl]; rfl
  have hsz : (Blk.of (L ++ [V.map (some h1.n)])).size = 2561 := by rw [w_of_size, List.length_append, List.length_singleton, hLl]
  have hro : (Blk.of (L ++ [V.map (some h1.n)])).ro = false := rfl
  have hcells : CellsAt (Blk.of (L ++ [V.map (some h1.n)])) T := fun s p hs hp => by
    obtain ⟨c0, c1, c2, c3, c4⟩ := t4 s p hs hp
    exact ⟨by rw [hgetL _ (by omega)]; exact c0, by rw [hgetL _ (by omega)]; exact c1, by rw [hgetL _ (by omega)]; exact c2, by rw [hgetL _ (by omega)]; exact c3, by rw [hgetL _ (by omega)]; exact c4⟩
  generalize Blk.of (L ++ [V.map (some h1.n)]) = C at hgetL hgetM hsz hro hcells b2 e2 ⊢
  refine ⟨.inr hR2, GLoop.inv hm (fun k f g => f.mks = [] ∧ f.tm.n = 33 ∧ f.tm.get 3 = some (.ptr (some (h1.n + 1, 0))) ∧ f.tm.get 20 = some (.ptr (some (h2.n, 0))) ∧ h1.n + 3 ≤ g.n ∧ (∀ b, b < h1.n → g.get b = h1.get b) ∧ g.get (h1.n + 1) = some (.cells C 64) ∧
    ∃ l seen es2 ck2, Seen es seen l ∧ l.length + k = es.length ∧ g.get h2.n = some (.iter (some r) ck seen ck) ∧ g.get h1.n = some (.map es2 ck2) ∧ PMap es2 ck2 ∧ ∀ k, getP es2 k = getP l k) es.length ?_ ?_⟩
  · exact ⟨rfl, rfl, rfl, rfl, by simp; omega, fun b hb => by rw [w_push_ne (by omega), k2 b hb], by rw [w_push_ne (by omega)]; exact b2, [], [], [], 0, Seen.nil es, by simp, w_push_eq rfl _, by rw [w_push_ne (by omega)]; exact r2, PMap.nil, fun k => rfl⟩
  rintro k ⟨⟨m, tr⟩, mks⟩ g ⟨hmk, hn, u3, t20, hgn, hgo, hgC, l, seen, es2, ck2, hs, hlk, hit, hg2, hp2, hgp⟩
  simp only [Tm.get_mk] at hmk hn u3 t20
  subst hmk hn
  have hgr : g.get r = some (.map es ck) := by rw [hgo r hlt.2.1]; exact m1
  simp -implicitDefEqProofs (disch := (first | omega | (simp -implicitDefEqProofs only [szs, ne_eq] <;> omega) | fail)) only [go_sem, Nat.reduceAdd, Nat.reduceSub, Nat.reduceMul, Nat.reduceLT, Nat.reduceMod, Nat.reduceDiv, Nat.reduceEqDiff, Nat.reduceBEq, Nat.reduceLeDiff, ↓reduceIte, reduceCtorEq, Int.reduceAdd, Int.reduceSub, Int.reduceLT, Int.reduceLE, Int.reduceBEq, Int.reduceEq, Int.reduceToNat, ir10_l0, t20, SNext, hit, hgr]
  refine ⟨.inr (hR _), .inl (by omega), .inr (hR _), ?_, ?_, ?_⟩
  · cases es with
    | nil => exact .inr (.inl rfl)
    | cons e es => exact .inr (.inr ⟨e, by simp, m2.ok.lt e (by simp)⟩)
  · intro hall
    have hp := hs.last m2.ok fun e he => hall e he (m2.ok.lt e he)
    simp -implicitDefEqProofs (disch := (first | omega | (simp -implicitDefEqProofs only [szs, ne_eq] <;> omega) | fail)) only [go_sem, Nat.reduceAdd, Nat.reduceSub, Nat.reduceMul, Nat.reduceLT, Nat.reduceMod, Nat.reduceDiv, Nat.reduceEqDiff, Nat.reduceBEq, Nat.reduceLeDiff, ↓reduceIte, reduceCtorEq, Int.reduceAdd, Int.reduceSub, Int.reduceLT, Int.reduceLE, Int.reduceBEq, Int.reduceEq, Int.reduceToNat, u3]
    exact ⟨⟨⟨C, hgC, hsz, hro, hcells, hgetM⟩, es2, ck2, hg2, hp2, fun k => by rw [hgp, getP_perm m2 hp, m3]⟩, by omega, hgo⟩
  · intro e he hns
    have hs' := hs.step he hns
    have hle := hs'.length
    obtain ⟨gX, eX, nX, bX, kX⟩ : ∃ gX, g.set h2.n (.iter (some r) ck (seen ++ [e.2.2]) ck) = gX ∧ gX.n = g.n ∧ gX.get h2.n = some (.iter (some r) ck (seen ++ [e.2.2]) ck) ∧ ∀ b, b ≠ h2.n → gX.get b = g.get b := ⟨_, rfl, by simp, w_set_eq (by omega) rfl _, fun b hb => w_set_ne (by omega) hb _⟩
    have hE := entry_at (g := gX) (b := h2.n) bX (by rw [kX _ (by omega)]; exact hgr) m2.ok he
    obtain ⟨a, q, x, ha, hq, hk, hT, hv⟩ := ent_ok m2 m3 he
    have hnone : getP l (keyP e.1) = none := by
      cases h : getP l (keyP e.1) with
      | none => rfl
      | some v =>
        obtain ⟨e', he', hk'⟩ := getP_mem h
        have := nodup_inj m2.keys (hs.sub e' he') he hk'
        exact absurd (by rw [← hs.stamps]; exact List.mem_map.2 ⟨e', he', by rw [this]⟩) hns
    have hkk : keyP e.1 = ((a : Int), (q : Int)) := by rw [hk]; rfl
    rw [hkk] at hnone
    rw [List.length_append, List.length_singleton] at hle
    obtain ⟨h3, e3, n3, b3, k3⟩ : ∃ h3, (gX.push (O.cells (Blk.of [V.int IntKind.i64 0, V.int IntKind.i64 0]) 50)).set g.n (O.cells (((Blk.of [V.int IntKind.i64 0, V.int IntKind.i64 0]).set 0 (V.int IntKind.i64 (a : Int))).set 1 (V.int IntKind.i64 (q : Int))) 50) = h3 ∧ h3.n = gX.n + 1 ∧
      (∃ d, h3.get g.n = some (.cells d 50) ∧ d.size = 2 ∧ d.get 0 = .int .i64 (a : Int) ∧ d.get 1 = .int .i64 (q : Int)) ∧ ∀ b, b < gX.n → h3.get b = gX.get b := ⟨_, rfl, by simp, ⟨_, w_set_eq (by simp; omega) rfl _, rfl, by simp -implicitDefEqProofs (disch := (first | omega | (simp -implicitDefEqProofs only [szs, ne_eq] <;> omega) | fail)) only [go_sem, Nat.reduceAdd, Nat.reduceSub, Nat.reduceMul, Nat.reduceLT, Nat.reduceMod, Nat.reduceDiv, Nat.reduceEqDiff, Nat.reduceBEq, Nat.reduceLeDiff, ↓reduceIte, reduceCtorEq, Int.reduceAdd, Int.reduceSub, Int.reduceLT, Int.reduceLE, Int.reduceBEq, Int.reduceEq, Int.reduceToNat], by simp -implicitDefEqProofs (disch := (first | omega | (simp -implicitDefEqProofs only [szs, ne_eq] <;> omega) | fail)) only [go_sem, Nat.reduceAdd, Nat.reduceSub, Nat.reduceMul, Nat.reduceLT, Nat.reduceMod, Nat.reduceDiv, Nat.reduceEqDiff, Nat.reduceBEq, Nat.reduceLeDiff, ↓reduceIte, reduceCtorEq, Int.reduceAdd, Int.reduceSub, Int.reduceLT, Int.reduceLE, Int.reduceBEq, Int.reduceEq, Int.reduceToNat]⟩, fun b hb => by rw [w_set_ne (by simp; omega) (by omega), w_push_ne (by omega)]⟩
    obtain ⟨d, b3, f1, f2, f3⟩ := b3
    have hC3 : h3.get (h1.n + 1) = some (.cells C 64) := by rw [k3 _ (by omega), kX _ (by omega)]; exact hgC
    have hm3 : h3.get h1.n = some (.map es2 ck2) := by rw [k3 _ (by omega), kX _ (by omega)]; exact hg2
    obtain ⟨es', ck', hu, v1, v2, v3⟩ := upd_pair (P := Try.prog) (t := 62) Try.underlying62 pk_50 hm3 hp2 ((a : Int), (q : Int)) (.int .i64 x.f)
    have hu' : updV Try.prog 62 h3 (.map (some h1.n)) (.agg [.int .i64 (a : Int), .int .i64 (q : Int)]) (.int .i64 x.f) = some (h3.set h1.n (.map es' ck'), [h1.n]) := hu
    have hpe : ∀ k, getP es' k = getP (l ++ [e]) k := fun k => by
      have : e = (kp ((a : Int), (q : Int)), V.int IntKind.i64 x.f, e.2.2) := by rw [← hk, ← hv]
      rw [v2, hgp, this, getP_append]
      by_cases hkq : k = ((a : Int), (q : Int))
      · subst hkq; rw [hnone]
      · rw [if_neg hkq, if_neg hkq]; cases getP l k <;> rfl
    rw [hk, hv, kp] at hE
    have hRX := hR (h1.n + 1)
    simp -implicitDefEqProofs (disch := (first | omega | (simp -implicitDefEqProofs only [szs, ne_eq] <;> omega) | fail)) only [go_sem, Nat.reduceAdd, Nat.reduceSub, Nat.reduceMul, Nat.reduceLT, Nat.reduceMod, Nat.reduceDiv, Nat.reduceEqDiff, Nat.reduceBEq, Nat.reduceLeDiff, ↓reduceIte, reduceCtorEq, Int.reduceAdd, Int.reduceSub, Int.reduceLT, Int.reduceLE, Int.reduceBEq, Int.reduceEq, Int.reduceToNat, eX, hE, u3, t20, e3, hC3, hsz, hgetM, b3, f1, f2, f3, hu', hRX]
    exact ⟨⟨.inr (hR _), .inr (hR _)⟩, .inl (by omega), fun _ => .inr (hR _), k - 1, by omega, by omega, fun b hb => by rw [w_set_ne (by omega) (by omega), k3 b (by omega), kX b (by omega)]; exact hgo b hb, l ++ [e], _, es', ck', hs', by simp; omega, by rw [k3 _ (by omega)]; exact bX, rfl, v1, hpe⟩
end Go.Proofs.Ytkfhdaimememiaa
