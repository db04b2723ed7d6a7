/- The law's stands. -/
import Derived.Test.YtmimialblhlklaaRR
import Derived.Test.YtmimialblhlklaaH3
import Derived.Test.YtmimialblhlklaaRO
set_option linter.unusedVariables false
set_option maxRecDepth 100000
namespace Go.Proofs.Ytmimialblhlklaa
open Go Go.Vm
variable {h : Heap} {R W : Set'} {M MD : Set'} {pp rd : Nat} {qs : List Nat} {S : AT}
theorem filter_px (hx : PX h M pp qs S) (hR : ∀ b, R b) (a n : Int) : SF Try.prog 58 [.ptr (some (pp, 0)), .int .i64 a, .int .i64 n] h R W fun r g => h.n ≤ g.n ∧ (∀ k, k < h.n → g.get k = h.get k) ∧ ∃ s, r = .tuple [s, .bool (lookA S a n).isSome] ∧ OwnS 3 h.n g s (tsO (lookA S a n)).length (flatT (tsO (lookA S a n))) 79 := by
 obtain ⟨⟨I, mp, T, hp, rfl, hm⟩, hF, hl⟩ := hx
 refine (filter_ok hp hF.of hR a n).mono ?_
 rintro r g ⟨hk, hn, hq⟩
 refine ⟨hn, hk, ?_⟩
 rw [lookA_abs]
 rcases hq with ⟨h1, rfl⟩ | ⟨b, x, s, h1, rfl, h2⟩
 ·rw [h1]; exact ⟨_, rfl, OwnS.nil _ _ _ _⟩
 ·rw [h1]; exact ⟨s, rfl, h2⟩
theorem quota_px (hx : PX h M pp qs S) (hR : ∀ b, R b) (a : Int) : SF Try.prog 54 [.ptr (some (pp, 0)), .int .i64 a] h R W fun r g => r = .int .i64 (if okA qs a then ((qs.getD a.toNat 0 : Nat) : Int) else 0) ∧ g = h := by
 obtain ⟨⟨I, mp, T, hp, rfl, hm⟩, hF, hl⟩ := hx
 exact quota_ok hp hR a
theorem get_rx {I : Set'} {bl : Nat → Nat} (hr : RPorts h I rd bl qs S) (hR : ∀ b, R b) (a n : Int) : SF Try.prog 57 [.ptr (some (rd, 0)), .int .i64 a, .int .i64 n] h R W fun r g => (∃ vf vr, r = .tuple [.agg [.bool (lookA S a n).isSome, vf, vr, .int .i64 (lostO (lookA S a n))], .bool (lookA S a n).isSome] ∧ TestsV g I vf (tsO (lookA S a n)) ∧ RingV g I vr (ringO (lookA S a n))) ∧ h.n ≤ g.n ∧ ∀ k, k < h.n → g.get k = h.get k := by
 refine (rget_ok hr hR a n).mono ?_
 rintro r g ⟨⟨v, rfl, hv⟩, hn, hk⟩
 have e1 : (if askA qs S a n = 0 then lookA S a n else none) = lookA S a n := by
  split
  ·rfl
  ·rename_i hz; exact (hr.not hz).symm
 have e2 : decide (askA qs S a n = 0) = (lookA S a n).isSome := by
  by_cases hz : askA qs S a n = 0
  ·obtain ⟨_, x, hx⟩ := askA_some hz
   rw [decide_eq_true hz, hx]; rfl
  ·rw [decide_eq_false hz, hr.not hz]; rfl
 rw [e1] at hv
 obtain ⟨vi, vf, vr, vl, rfl, hp⟩ := hv
 obtain ⟨p0, p1, p2, p3⟩ := hp.uni
 have q0 : vi = .bool (lookA S a n).isSome := p0
 have q3 : vl = .int .i64 (lostO (lookA S a n)) := p3
 subst q0 q3
 exact ⟨⟨vf, vr, by rw [e2], p1, p2⟩, hn, hk⟩
theorem fill23 {Q : Ex → Fr → Heap → Prop} {t : List It} {tr : Tr V} {g : Heap} {v : V} {m n0 : Nat} {l : List V} (ho : OwnS 3 n0 g v m l 79) (hm0 : m ≤ 1000000000) (hR : ∀ b, R b) (hW : ∀ b, n0 ≤ b → W b) (t11 : tr.get 11 = some v) (t13 : tr.get 13 = some (.int .i64 0))
  (hk : ∀ tr' g', tr'.get 0 = tr.get 0 → tr'.get 1 = tr.get 1 → tr'.get 2 = tr.get 2 → tr'.get 7 = tr.get 7 → tr'.get 8 = tr.get 8 → g'.n = g.n → (∀ k, k < n0 → g'.get k = g.get k) → resume ⟨Try.prog, true⟩ R W none Q t (.exit 4) ⟨⟨102, tr'⟩, []⟩ g') :
  GLoop ⟨Try.prog, true⟩ R W none Q ir23_l0 t ⟨⟨102, tr⟩, []⟩ g := by
 have hl := ho.lr.lenV Try.underlying22
 refine GLoop.inv hm (fun k f g' => f.mks = [] ∧ f.tm.n = 102 ∧ f.tm.get 11 = some v ∧ f.tm.get 0 = tr.get 0 ∧ f.tm.get 1 = tr.get 1 ∧ f.tm.get 2 = tr.get 2 ∧ f.tm.get 7 = tr.get 7 ∧ f.tm.get 8 = tr.get 8 ∧ g'.n = g.n ∧ (∀ k, k < n0 → g'.get k = g.get k) ∧ (0 < m → ∃ b x c, v = .slice (some (b, 0)) m m x ∧ n0 ≤ b ∧ g'.get b = some (.cells c 79) ∧ c.size = m * 3 ∧ c.ro = false) ∧ ∃ i : Nat, i + k = m ∧ f.tm.get 13 = some (.int .i64 ((i : Nat) : Int))) m ?_ ?_
 ·refine ⟨rfl, rfl, t11, rfl, rfl, rfl, rfl, rfl, rfl, fun _ _ => rfl, fun h0 => ?_, 0, by omega, t13⟩
  obtain ⟨b, x, c, e, h1, h2, h3, h4, _⟩ := ownS_at ho h0
  exact ⟨b, x, c, e, h1, h2, h3, h4⟩
 rintro k ⟨⟨n', tr'⟩, mks⟩ g' ⟨hmk, hn', u11, u0, u1, u2, u7, u8, gn, go, hc, i, hik, u13⟩
 simp only [Tm.get_mk] at hmk hn' u11 u0 u1 u2 u7 u8 u13
 subst hmk hn'
 by_cases hi : i < m
 ·have hz : (i : Int) < (m : Int) := by omega
  have hi0 : (0 : Int) ≤ (i : Int) := by omega
  obtain ⟨b, x, c, rfl, hb0, hb, hs, hro⟩ := hc (by omega)
  have hbl := Heap.lt_of_get hb
  have hRb := hR b; have hWb := hW b hb0
  have hsz : i * 3 + 3 ≤ c.size := by omega
  simp -implicitDefEqProofs (disch := (first | omega | (simp -implicitDefEqProofs only [szs, ne_eq] <;> omega) | fail)) only [go_sem, seval, ↓reduceIte, reduceCtorEq, ir23_l0, undefV, u11, u13, ↓hl, hz, hi0, hb, hWb, hro]
  exact ⟨k - 1, by omega, u0, u1, u2, u7, u8, gn, fun k hk => by rw [w_set_ne hbl (by omega)]; exact go k hk, fun _ => ⟨b, x, _, rfl, hb0, w_set_eq hbl rfl _, by simp only [Blk.size_set]; exact hs, by simp only [Blk.ro_set]; exact hro⟩, i + 1, by omega, by simp⟩
 ·have hz : ¬ (i : Int) < (m : Int) := by omega
  simp -implicitDefEqProofs (disch := (first | omega | (simp -implicitDefEqProofs only [szs, ne_eq] <;> omega) | fail)) only [go_sem, seval, ↓reduceIte, ir23_l0, u11, u13, ↓hl, hz]
  exact hk _ _ (by simp -implicitDefEqProofs (disch := (first | omega | (simp -implicitDefEqProofs only [szs, ne_eq] <;> omega) | fail)) only [go_sem, seval, ↓reduceIte, reduceCtorEq, u0]) (by simp -implicitDefEqProofs (disch := (first | omega | (simp -implicitDefEqProofs only [szs, ne_eq] <;> omega) | fail)) only [go_sem, seval, ↓reduceIte, u1]) (by simp -implicitDefEqProofs (disch := (first | omega | (simp -implicitDefEqProofs only [szs, ne_eq] <;> omega) | fail)) only [go_sem, seval, ↓reduceIte, u2]) (by simp -implicitDefEqProofs (disch := (first | omega | (simp -implicitDefEqProofs only [szs, ne_eq] <;> omega) | fail)) only [go_sem, seval, ↓reduceIte, u7]) (by simp -implicitDefEqProofs (disch := (first | omega | (simp -implicitDefEqProofs only [szs, ne_eq] <;> omega) | fail)) only [go_sem, seval, ↓reduceIte, u8]) gn go
set_option maxHeartbeats 8000000 in
theorem stands_l1 {Q : Ex → Fr → Heap → Prop} {t : List It} {tr : Tr V} {g : Heap} {a leave : Int} (hx : PX h M pp qs S) (hd : RX h MD rd qs S) (hR : ∀ b, R b) (hW : ∀ b, h.n ≤ b → W b) (hgn : h.n ≤ g.n) (hgo : ∀ k, k < h.n → g.get k = h.get k)
  (t0 : tr.get 0 = some (.ptr (some (pp, 0)))) (t1 : tr.get 1 = some (.ptr (some (rd, 0)))) (t2 : tr.get 2 = some (.int .i64 leave)) (t7 : tr.get 7 = some (.int .i64 a)) (t8 : tr.get 8 = some (.int .i64 (-1)))
  (hk : ∀ tr' g', tr'.get 0 = some (.ptr (some (pp, 0))) → tr'.get 1 = some (.ptr (some (rd, 0))) → tr'.get 2 = some (.int .i64 leave) → tr'.get 7 = some (.int .i64 a) → h.n ≤ g'.n → (∀ k, k < h.n → g'.get k = h.get k) → resume ⟨Try.prog, true⟩ R W none Q t (.exit 2) ⟨⟨102, tr'⟩, []⟩ g') :
  GLoop ⟨Try.prog, true⟩ R W none Q ir23_l1 t ⟨⟨102, tr⟩, []⟩ g := by
 refine GLoop.inv hm (fun k f g' => f.mks = [] ∧ f.tm.n = 102 ∧ f.tm.get 0 = some (.ptr (some (pp, 0))) ∧ f.tm.get 1 = some (.ptr (some (rd, 0))) ∧ f.tm.get 2 = some (.int .i64 leave) ∧ f.tm.get 7 = some (.int .i64 a) ∧ h.n ≤ g'.n ∧ (∀ k, k < h.n → g'.get k = h.get k) ∧ ∃ i : Nat, i + k = 18 ∧ f.tm.get 8 = some (.int .i64 ((i : Int) - 1))) 18 ?_ ?_
 ·exact ⟨rfl, rfl, t0, t1, t2, t7, hgn, hgo, 0, by omega, t8⟩
 clear t0 t1 t2 t7 t8 hgn hgo
 rintro k ⟨⟨n', tr⟩, mks⟩ g ⟨hmk, hn', t0, t1, t2, t7, hgn, hgo, i, hik, t8⟩
 simp only [Tm.get_mk] at hmk hn' t0 t1 t2 t7 t8
 subst hmk hn'
 by_cases hi : i < 18
 rotate_left
 ·have hz : ¬ ((i : Int) - 1) ≤ 16 := by omega
  simp -implicitDefEqProofs (disch := (first | omega | (simp -implicitDefEqProofs only [szs, ne_eq] <;> omega) | fail)) only [go_sem, seval, ↓reduceIte, ir23_l1, t8, hz]
  exact hk _ _ (by simp -implicitDefEqProofs (disch := (first | omega | (simp -implicitDefEqProofs only [szs, ne_eq] <;> omega) | fail)) only [go_sem, seval, ↓reduceIte, reduceCtorEq, t0]) (by simp -implicitDefEqProofs (disch := (first | omega | (simp -implicitDefEqProofs only [szs, ne_eq] <;> omega) | fail)) only [go_sem, seval, ↓reduceIte, t1]) (by simp -implicitDefEqProofs (disch := (first | omega | (simp -implicitDefEqProofs only [szs, ne_eq] <;> omega) | fail)) only [go_sem, seval, ↓reduceIte, t2]) (by simp -implicitDefEqProofs (disch := (first | omega | (simp -implicitDefEqProofs only [szs, ne_eq] <;> omega) | fail)) only [go_sem, seval, ↓reduceIte, t7]) hgn hgo
 have hz : ((i : Int) - 1) ≤ 16 := by omega
 have hxg := hx.old hgn hgo
 obtain ⟨⟨I, bl, hr, hmI⟩, hrl⟩ := hd.old hgn hgo
 obtain ⟨n, en⟩ : ∃ n : Int, n = (i : Int) - 1 := ⟨_, rfl⟩
 rw [← en] at t8 hz
 simp -implicitDefEqProofs (disch := (first | omega | (simp -implicitDefEqProofs only [szs, ne_eq] <;> omega) | fail)) only [go_sem, seval, ↓reduceIte, ir23_l1, t1, t7, t8, hz]
 refine GCall.of (get_rx hr hR a n).any ?_
 rintro r g1 ⟨⟨vf, vr, rfl, hvf, hvr⟩, n1, k1⟩
 have hfo := LRs.one hvf
 have hfc := LRs.cells hvf
 have hro := hvr.one
 have hrc := hvr.cells
 have hWn : W g1.n := hW _ (by omega)
 have hRn := hR g1.n
 simp -implicitDefEqProofs (disch := (first | omega | (simp -implicitDefEqProofs only [szs, ne_eq] <;> omega) | fail)) only [go_sem, seval, ↓reduceIte, reduceCtorEq, undefV, t0, t7, t8, ↓hfo, ↓hro, hWn]
 obtain ⟨gx, eX⟩ : ∃ gx, gx = (g1.push (O.cells (Blk.of [V.bool false, V.slice none 0 0 true, V.slice none 0 0 true, V.int IntKind.i64 0]) 109)).set g1.n (O.cells (((((Blk.of [V.bool false, V.slice none 0 0 true, V.slice none 0 0 true, V.int IntKind.i64 0]).set 0 (V.bool (lookA S a n).isSome)).set 1 vf).set 2 vr).set 3 (V.int IntKind.i64 (lostO (lookA S a n)))) 109) := ⟨_, rfl⟩
 rw [← eX]
 have nX : gx.n = g1.n + 1 := by rw [eX]; simp
 have kX : ∀ k, k < g1.n → gx.get k = g1.get k := fun k hk => by rw [eX, w_set_ne (by simp) (by omega), w_push_ne (by omega)]
 have bX : gx.get g1.n = some (O.cells (((((Blk.of [V.bool false, V.slice none 0 0 true, V.slice none 0 0 true, V.int IntKind.i64 0]).set 0 (V.bool (lookA S a n).isSome)).set 1 vf).set 2 vr).set 3 (V.int IntKind.i64 (lostO (lookA S a n)))) 109) := by rw [eX]; exact w_set_eq (by simp) rfl _
 clear eX
 have hxx := hxg.old (g' := gx) (by omega) fun k hk => by rw [kX k (by omega)]; exact k1 k hk
 refine GCall.of (filter_px hxx hR a n).any ?_
 rintro r g2 ⟨n2, k2, s, rfl, os⟩
 have bX2 := (k2 g1.n (by omega)).trans bX
 have hx2 := hxx.old n2 k2
 have hIl : ∀ k, I k → k < g.n := fun k hk => hr.blk_lt (.inl hk)
 have kk2 : ∀ k, k < g1.n → g2.get k = g1.get k := fun k hk => by rw [k2 k (by omega), kX k hk]
 have hvf2 : TestsV g2 I vf (tsO (lookA S a n)) := LRs.same hvf fun k h1 h2 => kk2 k h2
 have hvr2 : RingV g2 I vr (ringO (lookA S a n)) := hvr.same fun k h1 => kk2 k (by have := hIl k h1; omega)
 have hvl := hvr2.lenV
 have hok := px_oks hx2
 have ht8 : (tsO (lookA S a n)).length ≤ 8 := by
  cases e : lookA S a n with
  | none => simp [tsO]
  | some x => obtain ⟨i', m', _, _, hS⟩ := lookA_nat e; have := hok.t i' m'; rw [hS] at this; exact this
 have e1 : ((lookA S a n).isSome != (lookA S a n).isSome) = false := by simp
 have e1' : ((lookA S a n).isSome == (lookA S a n).isSome) = true := by simp
 simp -implicitDefEqProofs (disch := (first | omega | (simp -implicitDefEqProofs only [szs, ne_eq] <;> omega) | fail)) only [go_sem, seval, ↓reduceIte, bX2, e1']
 refine GCallD.of (R' := fun _ => True) (W' := fun _ => False) (sametests_ok (R := fun _ => True) (W := fun _ => False) os.lr hvf2 (fun _ => trivial) (by omega)) ?_
 rintro r g3 ⟨rfl, rfl⟩
 rw [decide_eq_true rfl]
 simp -implicitDefEqProofs (disch := (first | omega | (simp -implicitDefEqProofs only [szs, ne_eq] <;> omega) | fail)) only [go_sem, seval, ↓reduceIte, reduceCtorEq, t0, t7, t8]
 have el : ((lookA S a n).map fun x => (x.ring.length : Int)).getD 0 = ((ringO (lookA S a n)).length : Int) := by cases lookA S a n <;> rfl
 have es : ((lookA S a n).map fun x => x.lost).getD 0 = lostO (lookA S a n) := by cases lookA S a n <;> rfl
 refine GCallD.of (R' := fun _ => True) (W' := fun _ => False) (len_d (R := fun _ => True) (W := fun _ => False) hx2 (fun _ => trivial) a n) ?_
 rintro r g4 ⟨rfl, rfl⟩
 rw [el]
 have e2 : (((ringO (lookA S a n)).length : Int) != ((ringO (lookA S a n)).length : Int)) = false := by simp
 simp -implicitDefEqProofs (disch := (first | omega | (simp -implicitDefEqProofs only [szs, ne_eq] <;> omega) | fail)) only [go_sem, seval, ↓reduceIte, reduceCtorEq, t0, t7, t8, bX2, ↓hvl, e2]
 refine GCallD.of (R' := fun _ => True) (W' := fun _ => False) (lost_d (R := fun _ => True) (W := fun _ => False) hx2 (fun _ => trivial) a n) ?_
 rintro r g5 ⟨rfl, rfl⟩
 rw [es]
 have e3 : (lostO (lookA S a n) != lostO (lookA S a n)) = false := by simp
 simp -implicitDefEqProofs (disch := (first | omega | (simp -implicitDefEqProofs only [szs, ne_eq] <;> omega) | fail)) only [go_sem, seval, ↓reduceIte, reduceCtorEq, t0, t2, t7, t8, bX2, e3]
 refine GCallD.dem (R' := fun _ => True) (W' := fun _ => False) ((ring_dem (R := fun _ => True) (W := fun _ => False) hx2 a n leave hvr2 (fun _ => trivial)).kept) rfl ?_ ?_ ?_
 ·refine ⟨⟨?_, ?_⟩, ⟨?_, ?_⟩, ⟨?_, ?_⟩, ⟨?_, ?_⟩, ⟨?_, ?_⟩, trivial⟩ <;> (intro b hb hc; first | (simp at hb; omega) | (simp at hb) | (simp at hb hc; omega))
 ·simp -implicitDefEqProofs (disch := (first | omega | (simp -implicitDefEqProofs only [szs, ne_eq] <;> omega) | fail)) only [go_sem, seval]
  simp only [false_implies, implies_true, and_self, hR]
 rintro r g6 ⟨⟨rfl, n6, k6⟩, _⟩
 simp -implicitDefEqProofs (disch := (first | omega | (simp -implicitDefEqProofs only [szs, ne_eq] <;> omega) | fail)) only [go_sem, seval, ↓reduceIte]
 refine ⟨?_, ?_, ?_⟩
 ·simp only [List.not_mem_nil, or_false, false_or, and_false, false_implies, implies_true, not_false_eq_true, List.mem_cons, and_true, true_and]
  and_intros
  all_goals try (intros; omega)
 ·simp only [false_implies, implies_true, and_self, hR]
 have os6 := os.old k6
 have kk6 : ∀ k, k < h.n → g6.get k = h.get k := fun k hk => by rw [k6 k (by omega), kk2 k (by omega), k1 k (by omega)]; exact hgo k hk
 refine fill23 (n0 := gx.n) os6 (by omega) hR (fun b hb => hW b (by omega)) (by simp -implicitDefEqProofs (disch := (first | omega | (simp -implicitDefEqProofs only [szs, ne_eq] <;> omega) | fail)) only [go_sem, seval, ↓reduceIte]) (by simp -implicitDefEqProofs (disch := (first | omega | (simp -implicitDefEqProofs only [szs, ne_eq] <;> omega) | fail)) only [go_sem, seval, ↓reduceIte]) ?_
 intro tr' g7 u0 u1 u2 u7 u8 n7 k7
 replace u0 := u0.trans (show _ = some (V.ptr (some (pp, 0))) by simp -implicitDefEqProofs (disch := (first | omega | (simp -implicitDefEqProofs only [szs, ne_eq] <;> omega) | fail)) only [go_sem, seval, ↓reduceIte, reduceCtorEq, t0])
 replace u1 := u1.trans (show _ = some (V.ptr (some (rd, 0))) by simp -implicitDefEqProofs (disch := (first | omega | (simp -implicitDefEqProofs only [szs, ne_eq] <;> omega) | fail)) only [go_sem, seval, ↓reduceIte, t1])
 replace u2 := u2.trans (show _ = some (V.int .i64 leave) by simp -implicitDefEqProofs (disch := (first | omega | (simp -implicitDefEqProofs only [szs, ne_eq] <;> omega) | fail)) only [go_sem, seval, ↓reduceIte, t2])
 replace u7 := u7.trans (show _ = some (V.int .i64 a) by simp -implicitDefEqProofs (disch := (first | omega | (simp -implicitDefEqProofs only [szs, ne_eq] <;> omega) | fail)) only [go_sem, seval, ↓reduceIte, t7])
 replace u8 := u8.trans (show _ = some (V.int .i64 n) by simp -implicitDefEqProofs (disch := (first | omega | (simp -implicitDefEqProofs only [szs, ne_eq] <;> omega) | fail)) only [go_sem, seval, ↓reduceIte, t8])
 simp -implicitDefEqProofs (disch := (first | omega | (simp -implicitDefEqProofs only [szs, ne_eq] <;> omega) | fail)) only [go_sem, seval, ↓reduceIte, reduceCtorEq, u0, u1, u2, u7, u8]
 refine ⟨k - 1, by omega, by omega, fun k hk => by rw [k7 k (by omega)]; exact kk6 k hk, i + 1, by omega, by rw [show (n + 1 : Int) = ((i + 1 : Nat) : Int) - 1 by omega]⟩
set_option maxHeartbeats 4000000 in
theorem stands_dem (hx : PX h M pp qs S) (hd : RX h MD rd qs S) (hR : ∀ b, R b) (leave : Int) : SF ⟨Try.prog, true⟩ 23 [.ptr (some (pp, 0)), .ptr (some (rd, 0)), .int .i64 leave] h R W fun r g => r = .bool true ∧ h.n ≤ g.n ∧ ∀ k, k < h.n → g.get k = h.get k := by
 refine SF.go hm Try.func23 ir23_eq ?_
 simp -implicitDefEqProofs (disch := (first | omega | fail)) only [go_sem, seval, ↓reduceIte, reduceCtorEq, ir23]
 have hRR : ∀ b, h.n ≤ b ∨ R b := fun b => .inr (hR b)
 have hWW : ∀ b, h.n ≤ b → h.n ≤ b ∨ W b := fun b hb => .inl hb
 refine GLoop.inv hm (fun k f g' => f.mks = [] ∧ f.tm.n = 102 ∧ f.tm.get 0 = some (.ptr (some (pp, 0))) ∧ f.tm.get 1 = some (.ptr (some (rd, 0))) ∧ f.tm.get 2 = some (.int .i64 leave) ∧ h.n ≤ g'.n ∧ (∀ k, k < h.n → g'.get k = h.get k) ∧ ∃ i : Nat, i + k = 10 ∧ f.tm.get 7 = some (.int .i64 ((i : Int) - 1))) 10 ?_ ?_
 ·exact ⟨rfl, rfl, by simp -implicitDefEqProofs (disch := (first | omega | fail)) only [go_sem, seval, ↓reduceIte], by simp -implicitDefEqProofs (disch := (first | omega | fail)) only [go_sem, seval, ↓reduceIte, reduceCtorEq], by simp -implicitDefEqProofs (disch := (first | omega | fail)) only [go_sem, seval, ↓reduceIte, reduceCtorEq], Nat.le_refl _, fun _ _ => rfl, 0, by omega, by simp -implicitDefEqProofs (disch := (first | omega | fail)) only [go_sem, Nat.reduceMod, Nat.reduceDiv, ↓reduceIte, reduceCtorEq]; rfl⟩
 rintro k ⟨⟨n', tr⟩, mks⟩ g ⟨hmk, hn', t0, t1, t2, hgn, hgo, i, hik, t7⟩
 simp only [Tm.get_mk] at hmk hn' t0 t1 t2 t7
 subst hmk hn'
 by_cases hi : i < 10
 rotate_left
 ·have hz : ¬ ((i : Int) - 1) ≤ 8 := by omega
  simp -implicitDefEqProofs (disch := (first | omega | fail)) only [go_sem, seval, ↓reduceIte, ir23_l2, t7, hz]
  exact ⟨hgn, hgo⟩
 have hz : ((i : Int) - 1) ≤ 8 := by omega
 have hxg := hx.old hgn hgo
 obtain ⟨⟨I, bl, hr, hmI⟩, hrl⟩ := hd.old hgn hgo
 obtain ⟨a, ea⟩ : ∃ a : Int, a = (i : Int) - 1 := ⟨_, rfl⟩
 rw [← ea] at t7 hz
 simp -implicitDefEqProofs (disch := (first | omega | fail)) only [go_sem, seval, ↓reduceIte, reduceCtorEq, ir23_l2, t0, t7, hz]
 refine GCall.of (quota_px hxg hRR a).any ?_
 rintro r g1 ⟨rfl, rfl⟩
 simp -implicitDefEqProofs (disch := (first | omega | fail)) only [go_sem, seval, ↓reduceIte, t1, t7]
 refine GCall.of (rquota_ok hr hRR a).any ?_
 rintro r g2 ⟨rfl, rfl⟩
 obtain ⟨z, ez⟩ : ∃ z : Int, z = if okA qs a then ((qs.getD a.toNat 0 : Nat) : Int) else 0 := ⟨_, rfl⟩
 rw [← ez]
 have e1 : (z != z) = false := by simp
 simp -implicitDefEqProofs (disch := (first | omega | fail)) only [go_sem, seval, ↓reduceIte, reduceCtorEq, t0, t7, e1]
 refine GCall.of (open_d hxg hRR a).any ?_
 rintro r g3 ⟨n3, k3, o3⟩
 have hrg3 := hr.old k3
 simp -implicitDefEqProofs (disch := (first | omega | fail)) only [go_sem, seval, ↓reduceIte, t1, t7]
 refine GCall.of (ropen_ok hrg3 hRR a).any ?_
 rintro r' g4 ⟨n4, k4, o4⟩
 have o34 := (o3.lr.old k4)
 have em : ((openA S a).map fun n : Nat => V.int .i64 (n : Int)) = ((openA S a).map fun n : Nat => (n : Int)).map (.int .i64) := by rw [List.map_map]; rfl
 have o44 := o4.lr
 rw [em] at o34 o44
 have hol : (openA S a).length ≤ 16 := Nat.le_trans (List.length_filter_le _ _) (by simp)
 simp -implicitDefEqProofs (disch := (first | omega | fail)) only [go_sem, seval, ↓reduceIte]
 refine GCall.of (sameints_ok o34 o44 hRR (by simp; omega)).any ?_
 rintro r g5 ⟨rfl, rfl⟩
 rw [decide_eq_true rfl]
 simp -implicitDefEqProofs (disch := (first | omega | fail)) only [go_sem, seval, ↓reduceIte]
 have k5 : ∀ k, k < h.n → g5.get k = h.get k := fun k hk => by rw [k4 k (by omega), k3 k (by omega)]; exact hgo k hk
 refine stands_l1 (a := a) (leave := leave) hx hd hRR hWW (by omega) k5 (by simp -implicitDefEqProofs (disch := (first | omega | fail)) only [go_sem, seval, ↓reduceIte, reduceCtorEq, t0]) (by simp -implicitDefEqProofs (disch := (first | omega | fail)) only [go_sem, seval, ↓reduceIte, t1]) (by simp -implicitDefEqProofs (disch := (first | omega | fail)) only [go_sem, seval, ↓reduceIte, t2]) (by simp -implicitDefEqProofs (disch := (first | omega | fail)) only [go_sem, seval, ↓reduceIte, t7]) (by simp -implicitDefEqProofs (disch := (first | omega | fail)) only [go_sem, seval, ↓reduceIte]) ?_
 intro tr' g6 u0 u1 u2 u7 n6 k6
 simp -implicitDefEqProofs (disch := (first | omega | fail)) only [go_sem, seval, ↓reduceIte, reduceCtorEq, u0, u1, u2, u7]
 exact ⟨k - 1, by omega, n6, k6, i + 1, by omega, by rw [show (a + 1 : Int) = ((i + 1 : Nat) : Int) - 1 by omega]⟩
end Go.Proofs.Ytmimialblhlklaa
namespace Go.Proofs.Ytmimialblhlklaa
open Go Go.Vm
variable {hb : Heap} {R W : Set'} {tr : Tr V} {Q : Ex → Fr → Heap → Prop} {t : List It}
def PairQ (hb g : Heap) (pp rd : Nat) (qs : List Nat) : Prop := ∃ M MD S, Both hb g pp M rd MD qs S S
set_option maxHeartbeats 4000000 in
theorem steps_l0 {h : Heap} {v : V} {m : Nat} {pp rd : Nat} {qs : List Nat} {leave : Int} (hv : StepsU hb v m) (hR : ∀ b, R b) (hW : ∀ k, hb.n ≤ k → W k) (f : PairQ hb h pp rd qs)
  (t1 : tr.get 1 = some v) (t2 : tr.get 2 = some (.int .i64 leave)) (t7 : tr.get 7 = some (.ptr (some (pp, 0)))) (t8 : tr.get 8 = some (.ptr (some (rd, 0)))) (t10 : tr.get 10 = some (.int .i64 0))
  (hk : ∀ tr' g pp', tr'.get 2 = some (.int .i64 leave) → tr'.get 7 = some (.ptr (some (pp', 0))) → tr'.get 8 = some (.ptr (some (rd, 0))) → PairQ hb g pp' rd qs → resume ⟨Try.prog, true⟩ R W none Q t (.exit 0) ⟨⟨77, tr'⟩, []⟩ g) :
  GLoop ⟨Try.prog, true⟩ R W none Q ir6_l0 t ⟨⟨77, tr⟩, []⟩ h := by
 have hl := hv.v.len
 have hm9 := hv.1
 refine GLoop.inv hm (fun k f g => f.mks = [] ∧ f.tm.n = 77 ∧ f.tm.get 1 = some v ∧ f.tm.get 2 = some (.int .i64 leave) ∧ f.tm.get 8 = some (.ptr (some (rd, 0))) ∧ ∃ (i pp' : Nat), i + k = 100 ∧ f.tm.get 10 = some (.int .i64 (i : Int)) ∧ f.tm.get 7 = some (.ptr (some (pp', 0))) ∧ PairQ hb g pp' rd qs) 100 ?_ ?_
 ·exact ⟨rfl, rfl, t1, t2, t8, 0, pp, by omega, t10, t7, f⟩
 rintro k ⟨⟨n', tr'⟩, mks⟩ g ⟨hmk, hn', u1, u2, u8, i, pp', hik, u10, u7, hf⟩
 simp only [Tm.get_mk] at hmk hn' u1 u2 u8 u10 u7
 subst hmk hn'
 have hi0 : (0 : Int) ≤ (i : Int) := by omega
 by_cases hi : i < m
 rotate_left
 ·have hz : ¬ (i : Int) < (m : Int) := by omega
  simp -implicitDefEqProofs (disch := (first | omega | fail)) only [go_sem, seval, ↓reduceIte, ir6_l0, undefV, u1, u10, ↓hl, hz]
  exact hk _ _ pp' (by simp -implicitDefEqProofs (disch := (first | omega | fail)) only [go_sem, seval, ↓reduceIte, u2]) (by simp -implicitDefEqProofs (disch := (first | omega | fail)) only [go_sem, seval, ↓reduceIte, u7]) (by simp -implicitDefEqProofs (disch := (first | omega | fail)) only [go_sem, seval, ↓reduceIte, u8]) hf
 have hz : (i : Int) < (m : Int) := by omega
 by_cases h40 : i < 100
 rotate_left
 ·have hz2 : ¬ (i : Int) < 100 := by omega
  simp -implicitDefEqProofs (disch := (first | omega | fail)) only [go_sem, seval, ↓reduceIte, ir6_l0, u1, u10, ↓hl, hz, hz2]
  exact hk _ _ pp' (by simp -implicitDefEqProofs (disch := (first | omega | fail)) only [go_sem, seval, ↓reduceIte, u2]) (by simp -implicitDefEqProofs (disch := (first | omega | fail)) only [go_sem, seval, ↓reduceIte, u7]) (by simp -implicitDefEqProofs (disch := (first | omega | fail)) only [go_sem, seval, ↓reduceIte, u8]) hf
 have hz2 : (i : Int) < 100 := by omega
 obtain ⟨b, o, cap, c, ce, kd, a, n, vf, vp, L, l, rfl, hbl, hbg, hsz, c0, c1, c2, c3, c4, hst, hL, hll⟩ := hv.at' hi
 obtain ⟨M, MD, S, f4⟩ := hf
 have hbg' := (f4.old b hbl).trans hbg
 have hRb := hR b
 have hfo := LRs.one hst.1
 have hpo := hst.2.1.one
 simp -implicitDefEqProofs (disch := (first | omega | fail)) only [go_sem, seval, ↓reduceIte, ir6_l0, u1, u7, u8, u10, ↓hl, hz, hz2, hi0, hbg', hRb, c0, c1, c2, c3, c4]
 refine GCall.of (do_ok f4 hst hL hll hR hW) ?_
 rintro r g2 ⟨pp2, rfl, M', MD', f5, _, _, hn2, hk2⟩
 by_cases h6 : (i : Int).tmod 6 = 0
 rotate_left
 ·have h6' : ((i : Int).tmod 6 == 0) = false := by simpa using h6
  simp -implicitDefEqProofs (disch := (first | omega | fail)) only [go_sem, seval, ↓reduceIte, undefV, u1, u2, u10, h6']
  exact ⟨k - 1, by omega, i + 1, pp2, by omega, by simp, rfl, _, _, _, f5⟩
 have h6' : ((i : Int).tmod 6 == 0) = true := by simpa using h6
 simp -implicitDefEqProofs (disch := (first | omega | fail)) only [go_sem, seval, ↓reduceIte, u2, u10, h6]
 refine GCall.of (((stands_dem (R := fun _ => True) (W := fun _ => False) f5.p f5.d (fun _ => trivial) leave)).foot (fun b _ => hR b) (fun _ h => h.elim)) ?_
 rintro r g3 ⟨rfl, n3, k3⟩
 simp -implicitDefEqProofs (disch := (first | omega | fail)) only [go_sem, seval, ↓reduceIte, u1, u2, u10]
 exact ⟨k - 1, by omega, i + 1, pp2, by omega, by simp, rfl, _, _, _, f5.same n3 fun k hk _ => k3 k hk⟩
set_option maxHeartbeats 8000000 in
theorem steps_law {h : Heap} {v0 v1 : V} {m : Nat} {zs : List Int} {S0 : Set'} (leave : Int) (hv0 : LR h S0 v0 (zs.map (.int .i64))) (hv1 : StepsU h v1 m) (hR : ∀ b, R b) : SF ⟨Try.prog, true⟩ 6 [v0, v1, .int .i64 leave] h R W fun r g => r = .bool true := by
 have hRR : ∀ b, h.n ≤ b ∨ R b := fun b => .inr (hR b)
 have hWW : ∀ k, h.n ≤ k → h.n ≤ k ∨ W k := fun k hk => .inl hk
 have hlen := hv0.lenV Try.underlying30
 rw [List.length_map] at hlen
 refine SF.go hm Try.func6 ir6_eq ?_
 by_cases h20 : 20 < (zs.length : Int)
 ·simp -implicitDefEqProofs (disch := (first | omega | fail)) only [go_sem, seval, ↓reduceIte, reduceCtorEq, ir6, undefV, ↓hlen, h20]
  refine GCall.of (known_dem hRR) ?_
  rintro r g' ⟨rfl, hn, hk⟩
  simp -implicitDefEqProofs (disch := (first | omega | fail)) only [go_sem, seval, ↓reduceIte, reduceCtorEq]
 simp -implicitDefEqProofs (disch := (first | omega | fail)) only [go_sem, seval, ↓reduceIte, reduceCtorEq, ir6, ↓hlen, h20]
 refine GCall.of (much_ok hv1.v hRR).any ?_
 rintro r g ⟨⟨b, rfl⟩, rfl⟩
 cases b
 rotate_left
 ·simp -implicitDefEqProofs (disch := (first | omega | fail)) only [go_sem, seval, ↓reduceIte, reduceCtorEq]
  refine GCall.of (known_dem hRR) ?_
  rintro r g' ⟨rfl, hn, hk⟩
  simp -implicitDefEqProofs (disch := (first | omega | fail)) only [go_sem, seval, ↓reduceIte, reduceCtorEq]
 simp -implicitDefEqProofs (disch := (first | omega | fail)) only [go_sem, seval, ↓reduceIte, reduceCtorEq]
 refine GCall.of (begin_px hv0 (by omega) hRR) ?_
 rintro r g1 ⟨hn1, hk1, ⟨hno, rfl⟩ | ⟨_, pp, M, rd, bl, I, rfl, hx, hM, hd, hI, hbl⟩⟩
 ·simp -implicitDefEqProofs (disch := (first | omega | fail)) only [go_sem, seval, ↓reduceIte, reduceCtorEq]
  refine GCall.of (known_dem hRR) ?_
  rintro r g' ⟨rfl, hn, hk⟩
  simp -implicitDefEqProofs (disch := (first | omega | fail)) only [go_sem, seval, ↓reduceIte, reduceCtorEq]
 simp -implicitDefEqProofs (disch := (first | omega | fail)) only [go_sem, seval, ↓reduceIte, reduceCtorEq]
 have hrx := RX.mk' hd
 have dl : ∀ k, (I k ∨ ∃ a, a < (zs.map Int.toNat).length ∧ k = bl a) → g.n ≤ k ∧ ¬ M k := fun k hk => by
  rcases hk with hk | ⟨a, ha, rfl⟩
  ·exact hI k hk
  ·exact hbl a (by simpa using ha)
 have f0 : PairQ g g1 pp rd (zs.map Int.toNat) := ⟨M, _, _, ⟨hx, hrx, hM, fun k hk => (dl k hk).1, fun k h1 h2 => (dl k h2).2 h1, hn1, hk1⟩⟩
 refine steps_l0 (leave := leave) hv1 hRR hWW f0 (by simp -implicitDefEqProofs (disch := (first | omega | fail)) only [go_sem, seval, ↓reduceIte, reduceCtorEq]) (by simp -implicitDefEqProofs (disch := (first | omega | fail)) only [go_sem, seval, ↓reduceIte, reduceCtorEq]) (by simp -implicitDefEqProofs (disch := (first | omega | fail)) only [go_sem, seval, ↓reduceIte, reduceCtorEq]) (by simp -implicitDefEqProofs (disch := (first | omega | fail)) only [go_sem, seval, ↓reduceIte, reduceCtorEq]) (by simp -implicitDefEqProofs (disch := (first | omega | fail)) only [go_sem, seval, ↓reduceIte, reduceCtorEq]) ?_
 intro tr' g3 pp' u2 u7 u8 ⟨M3, MD3, S3, f3⟩
 simp -implicitDefEqProofs (disch := (first | omega | fail)) only [go_sem, seval, ↓reduceIte, u2, u7, u8]
 refine GCall.of (stands_dem f3.p f3.d hRR leave) ?_
 rintro r g4 ⟨rfl, n4, k4⟩
 simp -implicitDefEqProofs (disch := (first | omega | fail)) only [go_sem, seval, ↓reduceIte]
 refine GCall.of (known_dem hRR) ?_
 rintro r g5 ⟨rfl, n5, k5⟩
 simp -implicitDefEqProofs (disch := (first | omega | fail)) only [go_sem, seval, ↓reduceIte]
end Go.Proofs.Ytmimialblhlklaa
