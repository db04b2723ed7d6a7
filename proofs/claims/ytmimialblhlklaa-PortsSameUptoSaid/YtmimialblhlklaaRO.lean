/- PortsSame: its walk. -/
import Derived.Test.YtmimialblhlklaaRN
set_option linter.unusedVariables false
set_option maxRecDepth 100000
namespace Go.Proofs.Ytmimialblhlklaa
open Go Go.Vm
variable {hb : Heap} {R W : Set'} {tr : Tr V} {Q : Ex → Fr → Heap → Prop} {t : List It}
def StepsU (h : Heap) (v : V) (m : Nat) : Prop := m ≤ 9223372036854775807 ∧ ((m = 0 ∧ (v = .slice none 0 0 true ∨ ∃ a, v = .esl a)) ∨ ∃ b o cap c ce, v = .slice (some (b, o)) m cap true ∧ h.get b = some (.cells c ce) ∧ o + m * 5 ≤ c.size ∧ ∀ i, i < m → ∃ kd a n vf vp L l, c.get (o + i * 5) = .int .i64 kd ∧ c.get (o + i * 5 + 1) = .int .i64 a ∧ c.get (o + i * 5 + 2) = .int .i64 n ∧ c.get (o + i * 5 + 3) = vf ∧ c.get (o + i * 5 + 4) = vp ∧ StepIs h vf vp L l ∧ L.length ≤ 1048576 ∧ l.length ≤ 1048576)
theorem StepsU.v {h : Heap} {v : V} {m : Nat} (hv : StepsU h v m) : StepsV h v m := by
  refine ⟨hv.1, hv.2.imp id ?_⟩
  rintro ⟨b, o, cap, c, ce, e, hb, hs, hc⟩
  refine ⟨b, o, cap, c, ce, e, hb, hs, fun i hi => ?_⟩
  obtain ⟨kd, a, n, vf, vp, L, l, e0, e1, e2, e3, e4, e5, _⟩ := hc i hi
  exact ⟨kd, a, n, vf, vp, L, l, e0, e1, e2, e3, e4, e5⟩
structure Four (hb g : Heap) (px : Nat) (Mx : Set') (rx : Nat) (Dx : Set') (py : Nat) (My : Set') (ry : Nat) (Dy : Set') (qs : List Nat) (Sx Sy : AT) : Prop where
  x : Both hb g px Mx rx Dx qs Sx Sx
  y : Both hb g py My ry Dy qs Sy Sy
  dis : ∀ k, Mx k ∨ Dx k → ¬ (My k ∨ Dy k)
theorem Both.same {hb g g' : Heap} {M MD : Set'} {pp rd : Nat} {qs : List Nat} {S SD : AT} (b : Both hb g pp M rd MD qs S SD) (hn : g.n ≤ g'.n) (hk : ∀ k, k < g.n → (k < hb.n ∨ M k ∨ MD k) → g'.get k = g.get k) : Both hb g' pp M rd MD qs S SD :=
  ⟨b.p.same hn fun k h => hk k (b.p.lt k h) (.inr (.inl h)), b.d.same hn fun k h => hk k (b.d.lt k h) (.inr (.inr h)), b.mp, b.md, b.dis, Nat.le_trans b.n hn, fun k h => by rw [hk k (by have := b.n; omega) (.inl h)]; exact b.old k h⟩
theorem Four.left {g g' : Heap} {px rx py ry : Nat} {Mx Dx My Dy : Set'} {qs : List Nat} {Sx Sy S2 : AT} {px' : Nat} (f : Four hb g px Mx rx Dx py My ry Dy qs Sx Sy) (hq : StepQ hb g g' Mx Dx rx qs px' S2) : ∃ Mx' Dx', Four hb g' px' Mx' rx Dx' py My ry Dy qs S2 Sy := by
  obtain ⟨M', D', b, hm, hd, hn, hk⟩ := hq
  refine ⟨M', D', b, f.y.same hn fun k h1 h2 => hk k h1 fun h3 => ?_, fun k h1 h2 => ?_⟩
  · rcases h2 with h2 | h2
    · rcases h3 with h3 | h3
      · have := f.x.mp k h3; omega
      · have := f.x.md k h3; omega
    · exact f.dis k h3 h2
  · have hlt : k < g.n := h2.elim (f.y.p.lt k) (f.y.d.lt k)
    exact f.dis k (h1.elim (fun h => .inl ((hm k h).resolve_right (by omega))) fun h => .inr ((hd k h).resolve_right (by omega))) h2
theorem Four.swap {g : Heap} {px rx py ry : Nat} {Mx Dx My Dy : Set'} {qs : List Nat} {Sx Sy : AT} (f : Four hb g px Mx rx Dx py My ry Dy qs Sx Sy) : Four hb g py My ry Dy px Mx rx Dx qs Sy Sx := ⟨f.y, f.x, fun k h1 h2 => f.dis k h2 h1⟩
def FourQ (hb g : Heap) (px rx py ry : Nat) (qs : List Nat) : Prop := ∃ Mx Dx My Dy Sx Sy, Four hb g px Mx rx Dx py My ry Dy qs Sx Sy
theorem StepsU.at' {v : V} {m : Nat} (hv : StepsU hb v m) {i : Nat} (hi : i < m) : ∃ b o cap c ce kd a n vf vp L l, v = .slice (some (b, o)) m cap true ∧ b < hb.n ∧ hb.get b = some (.cells c ce) ∧ o + i * 5 + 5 ≤ c.size ∧ c.get (o + i * 5) = .int .i64 kd ∧ c.get (o + i * 5 + 1) = .int .i64 a ∧ c.get (o + i * 5 + 2) = .int .i64 n ∧ c.get (o + i * 5 + 3) = vf ∧ c.get (o + i * 5 + 4) = vp ∧ StepIs hb vf vp L l ∧ L.length ≤ 1048576 ∧ l.length ≤ 1048576 := by
  rcases hv.2 with ⟨h0, _⟩ | ⟨b, o, cap, c, ce, rfl, hbg, hs, hc⟩
  · omega
  · obtain ⟨kd, a, n, vf, vp, L, l, e0, e1, e2, e3, e4, e5, e6, e7⟩ := hc i hi
    exact ⟨b, o, cap, c, ce, kd, a, n, vf, vp, L, l, rfl, Heap.lt_of_get hbg, hbg, by omega, e0, e1, e2, e3, e4, e5, e6, e7⟩
set_option maxHeartbeats 4000000 in
theorem same_l0 {h : Heap} {v : V} {m : Nat} {px rx py ry : Nat} {qs : List Nat} (hv : StepsU hb v m) (hR : ∀ b, R b) (hW : ∀ k, hb.n ≤ k → W k) (f : FourQ hb h px rx py ry qs)
    (t0 : tr.get 0 = some v) (t7 : tr.get 7 = some (.ptr (some (px, 0)))) (t8 : tr.get 8 = some (.ptr (some (rx, 0)))) (t9 : tr.get 9 = some (.bool true)) (t13 : tr.get 13 = some (.int .i64 0))
    (hk : ∀ tr' g px', tr'.get 1 = tr.get 1 → tr'.get 2 = tr.get 2 → tr'.get 10 = tr.get 10 → tr'.get 11 = tr.get 11 → tr'.get 12 = tr.get 12 → tr'.get 7 = some (.ptr (some (px', 0))) → tr'.get 8 = some (.ptr (some (rx, 0))) → tr'.get 9 = some (.bool true) → FourQ hb g px' rx py ry qs → resume ⟨Try.prog, true⟩ R W none Q t (.exit 0) ⟨⟨127, tr'⟩, []⟩ g) :
    GLoop ⟨Try.prog, true⟩ R W none Q ir5_l0 t ⟨⟨127, tr⟩, []⟩ h := by
  have hl := hv.v.len
  have hm9 := hv.1
  refine GLoop.inv hm (fun k f g => f.mks = [] ∧ f.tm.n = 127 ∧ f.tm.get 0 = some v ∧ f.tm.get 1 = tr.get 1 ∧ f.tm.get 2 = tr.get 2 ∧ f.tm.get 10 = tr.get 10 ∧ f.tm.get 11 = tr.get 11 ∧ f.tm.get 12 = tr.get 12 ∧ f.tm.get 8 = some (.ptr (some (rx, 0))) ∧ f.tm.get 9 = some (.bool true) ∧ ∃ (i px' : Nat), i + k = 40 ∧ f.tm.get 13 = some (.int .i64 (i : Int)) ∧ f.tm.get 7 = some (.ptr (some (px', 0))) ∧ FourQ hb g px' rx py ry qs) 40 ?_ ?_
  · exact ⟨rfl, rfl, t0, rfl, rfl, rfl, rfl, rfl, t8, t9, 0, px, by omega, t13, t7, f⟩
  rintro k ⟨⟨n', tr'⟩, mks⟩ g ⟨hmk, hn', u0, u1, u2, u10, u11, u12, u8, u9, i, px', hik, u13, u7, hf⟩
  simp only [Tm.get_mk] at hmk hn' u0 u1 u2 u10 u11 u12 u8 u9 u13 u7
  subst hmk hn'
  have hi0 : (0 : Int) ≤ (i : Int) := by omega
  by_cases hi : i < m
  rotate_left
  · have hz : ¬ (i : Int) < (m : Int) := by omega
    simp -implicitDefEqProofs (disch := (first | omega | fail)) only [go_sem, seval, ↓reduceIte, reduceCtorEq, ir5_l0, undefV, u0, u13, ↓hl, hz]
    exact hk _ _ px' (by simp -implicitDefEqProofs (disch := (first | omega | fail)) only [go_sem, seval, ↓reduceIte, u1]) (by simp -implicitDefEqProofs (disch := (first | omega | fail)) only [go_sem, seval, ↓reduceIte, u2]) (by simp -implicitDefEqProofs (disch := (first | omega | fail)) only [go_sem, seval, ↓reduceIte, u10]) (by simp -implicitDefEqProofs (disch := (first | omega | fail)) only [go_sem, seval, ↓reduceIte, u11]) (by simp -implicitDefEqProofs (disch := (first | omega | fail)) only [go_sem, seval, ↓reduceIte, u12]) (by simp -implicitDefEqProofs (disch := (first | omega | fail)) only [go_sem, seval, ↓reduceIte, u7]) (by simp -implicitDefEqProofs (disch := (first | omega | fail)) only [go_sem, seval, ↓reduceIte, u8]) (by simp -implicitDefEqProofs (disch := (first | omega | fail)) only [go_sem, seval, ↓reduceIte, u9]) hf
  have hz : (i : Int) < (m : Int) := by omega
  by_cases h40 : i < 40
  rotate_left
  · have hz2 : ¬ (i : Int) < 40 := by omega
    simp -implicitDefEqProofs (disch := (first | omega | fail)) only [go_sem, seval, ↓reduceIte, reduceCtorEq, ir5_l0, undefV, u0, u13, ↓hl, hz, hz2]
    exact hk _ _ px' (by simp -implicitDefEqProofs (disch := (first | omega | fail)) only [go_sem, seval, ↓reduceIte, u1]) (by simp -implicitDefEqProofs (disch := (first | omega | fail)) only [go_sem, seval, ↓reduceIte, u2]) (by simp -implicitDefEqProofs (disch := (first | omega | fail)) only [go_sem, seval, ↓reduceIte, u10]) (by simp -implicitDefEqProofs (disch := (first | omega | fail)) only [go_sem, seval, ↓reduceIte, u11]) (by simp -implicitDefEqProofs (disch := (first | omega | fail)) only [go_sem, seval, ↓reduceIte, u12]) (by simp -implicitDefEqProofs (disch := (first | omega | fail)) only [go_sem, seval, ↓reduceIte, u7]) (by simp -implicitDefEqProofs (disch := (first | omega | fail)) only [go_sem, seval, ↓reduceIte, u8]) (by simp -implicitDefEqProofs (disch := (first | omega | fail)) only [go_sem, seval, ↓reduceIte, u9]) hf
  have hz2 : (i : Int) < 40 := by omega
  obtain ⟨b, o, cap, c, ce, kd, a, n, vf, vp, L, l, rfl, hbl, hbg, hsz, c0, c1, c2, c3, c4, hst, hL, hll⟩ := hv.at' hi
  obtain ⟨Mx, Dx, My, Dy, Sx, Sy, f4⟩ := hf
  have hbg' := (f4.x.old b hbl).trans hbg
  have hRb := hR b
  have hfo := LRs.one hst.1
  have hpo := hst.2.1.one
  simp -implicitDefEqProofs (disch := (first | omega | fail)) only [go_sem, seval, ↓reduceIte, reduceCtorEq, ir5_l0, u0, u7, u8, u9, u13, ↓hl, hz, hz2, hi0, hbg', hRb, c0, c1, c2, c3, c4]
  refine GCall.of (do_ok f4.x hst hL hll hR hW) ?_
  rintro r g2 ⟨px2, rfl, hsq⟩
  obtain ⟨Mx', Dx', f5⟩ := f4.left hsq
  simp -implicitDefEqProofs (disch := (first | omega | fail)) only [go_sem, seval, ↓reduceIte, reduceCtorEq, u0, u1, u2, u10, u11, u12, u13]
  exact ⟨k - 1, by omega, i + 1, px2, by omega, by simp, rfl, _, _, _, _, _, _, f5⟩
set_option maxHeartbeats 4000000 in
theorem same_l1 {h : Heap} {v : V} {m : Nat} {px rx py ry : Nat} {qs : List Nat} (hv : StepsU hb v m) (hR : ∀ b, R b) (hW : ∀ k, hb.n ≤ k → W k) (f : FourQ hb h px rx py ry qs)
    (t1 : tr.get 1 = some v) (t10 : tr.get 10 = some (.ptr (some (py, 0)))) (t11 : tr.get 11 = some (.ptr (some (ry, 0)))) (t12 : tr.get 12 = some (.bool true)) (t14 : tr.get 14 = some (.int .i64 0))
    (hk : ∀ tr' g py', tr'.get 2 = tr.get 2 → tr'.get 7 = tr.get 7 → tr'.get 8 = tr.get 8 → tr'.get 9 = tr.get 9 → tr'.get 10 = some (.ptr (some (py', 0))) → tr'.get 11 = some (.ptr (some (ry, 0))) → tr'.get 12 = some (.bool true) → FourQ hb g px rx py' ry qs → resume ⟨Try.prog, true⟩ R W none Q t (.exit 2) ⟨⟨127, tr'⟩, []⟩ g) :
    GLoop ⟨Try.prog, true⟩ R W none Q ir5_l1 t ⟨⟨127, tr⟩, []⟩ h := by
  have hl := hv.v.len
  have hm9 := hv.1
  refine GLoop.inv hm (fun k f g => f.mks = [] ∧ f.tm.n = 127 ∧ f.tm.get 1 = some v ∧ f.tm.get 2 = tr.get 2 ∧ f.tm.get 7 = tr.get 7 ∧ f.tm.get 8 = tr.get 8 ∧ f.tm.get 9 = tr.get 9 ∧ f.tm.get 11 = some (.ptr (some (ry, 0))) ∧ f.tm.get 12 = some (.bool true) ∧ ∃ (i py' : Nat), i + k = 40 ∧ f.tm.get 14 = some (.int .i64 (i : Int)) ∧ f.tm.get 10 = some (.ptr (some (py', 0))) ∧ FourQ hb g px rx py' ry qs) 40 ?_ ?_
  · exact ⟨rfl, rfl, t1, rfl, rfl, rfl, rfl, t11, t12, 0, py, by omega, t14, t10, f⟩
  rintro k ⟨⟨n', tr'⟩, mks⟩ g ⟨hmk, hn', u1, u2, u7, u8, u9, u11, u12, i, py', hik, u14, u10, hf⟩
  simp only [Tm.get_mk] at hmk hn' u1 u2 u7 u8 u9 u11 u12 u14 u10
  subst hmk hn'
  have hi0 : (0 : Int) ≤ (i : Int) := by omega
  by_cases hi : i < m
  rotate_left
  · have hz : ¬ (i : Int) < (m : Int) := by omega
    simp -implicitDefEqProofs (disch := (first | omega | fail)) only [go_sem, seval, ↓reduceIte, ir5_l1, undefV, u1, u14, ↓hl, hz]
    exact hk _ _ py' (by simp -implicitDefEqProofs (disch := (first | omega | fail)) only [go_sem, seval, ↓reduceIte, u2]) (by simp -implicitDefEqProofs (disch := (first | omega | fail)) only [go_sem, seval, ↓reduceIte, u7]) (by simp -implicitDefEqProofs (disch := (first | omega | fail)) only [go_sem, seval, ↓reduceIte, u8]) (by simp -implicitDefEqProofs (disch := (first | omega | fail)) only [go_sem, seval, ↓reduceIte, u9]) (by simp -implicitDefEqProofs (disch := (first | omega | fail)) only [go_sem, seval, ↓reduceIte, u10]) (by simp -implicitDefEqProofs (disch := (first | omega | fail)) only [go_sem, seval, ↓reduceIte, u11]) (by simp -implicitDefEqProofs (disch := (first | omega | fail)) only [go_sem, seval, ↓reduceIte, u12]) hf
  have hz : (i : Int) < (m : Int) := by omega
  by_cases h40 : i < 40
  rotate_left
  · have hz2 : ¬ (i : Int) < 40 := by omega
    simp -implicitDefEqProofs (disch := (first | omega | fail)) only [go_sem, seval, ↓reduceIte, ir5_l1, undefV, u1, u14, ↓hl, hz, hz2]
    exact hk _ _ py' (by simp -implicitDefEqProofs (disch := (first | omega | fail)) only [go_sem, seval, ↓reduceIte, u2]) (by simp -implicitDefEqProofs (disch := (first | omega | fail)) only [go_sem, seval, ↓reduceIte, u7]) (by simp -implicitDefEqProofs (disch := (first | omega | fail)) only [go_sem, seval, ↓reduceIte, u8]) (by simp -implicitDefEqProofs (disch := (first | omega | fail)) only [go_sem, seval, ↓reduceIte, u9]) (by simp -implicitDefEqProofs (disch := (first | omega | fail)) only [go_sem, seval, ↓reduceIte, u10]) (by simp -implicitDefEqProofs (disch := (first | omega | fail)) only [go_sem, seval, ↓reduceIte, u11]) (by simp -implicitDefEqProofs (disch := (first | omega | fail)) only [go_sem, seval, ↓reduceIte, u12]) hf
  have hz2 : (i : Int) < 40 := by omega
  obtain ⟨b, o, cap, c, ce, kd, a, n, vf, vp, L, l, rfl, hbl, hbg, hsz, c0, c1, c2, c3, c4, hst, hL, hll⟩ := hv.at' hi
  obtain ⟨Mx, Dx, My, Dy, Sx, Sy, f4⟩ := hf
  have hbg' := (f4.x.old b hbl).trans hbg
  have hRb := hR b
  have hfo := LRs.one hst.1
  have hpo := hst.2.1.one
  simp -implicitDefEqProofs (disch := (first | omega | fail)) only [go_sem, seval, ↓reduceIte, ir5_l1, u1, u10, u11, u12, u14, ↓hl, hz, hz2, hi0, hbg', hRb, c0, c1, c2, c3, c4]
  refine GCall.of (do_ok f4.y hst hL hll hR hW) ?_
  rintro r g2 ⟨py2, rfl, hsq⟩
  obtain ⟨My', Dy', f5⟩ := f4.swap.left hsq
  simp -implicitDefEqProofs (disch := (first | omega | fail)) only [go_sem, seval, ↓reduceIte, u1, u2, u7, u8, u9, u14]
  exact ⟨k - 1, by omega, i + 1, py2, by omega, by simp, rfl, _, _, _, _, _, _, f5.swap⟩
set_option maxHeartbeats 8000000 in
theorem same_law {h : Heap} {v0 v1 v2 : V} {m0 m1 : Nat} {l : List V} {S2 : Set'} (hv0 : StepsU h v0 m0) (hv1 : StepsU h v1 m1) (hv2 : LR h S2 v2 l) (hby : Byt l) (hR : ∀ b, R b) : SF ⟨Try.prog, true⟩ 5 [v0, v1, v2] h R W fun r g => r = .bool true := by
  have hRR : ∀ b, h.n ≤ b ∨ R b := fun b => .inr (hR b)
  have hWW : ∀ k, h.n ≤ k → h.n ≤ k ∨ W k := fun k hk => .inl hk
  refine SF.go hm Try.func5 ir5_eq ?_
  simp -implicitDefEqProofs (disch := (first | omega | fail)) only [go_sem, seval, ↓reduceIte, reduceCtorEq, ir5]
  refine GCall.of (much_ok hv0.v hRR).any ?_
  rintro r g ⟨⟨b, rfl⟩, rfl⟩
  cases b
  rotate_left
  · simp -implicitDefEqProofs (disch := (first | omega | fail)) only [go_sem, seval, ↓reduceIte, reduceCtorEq, undefV]
    refine GCall.of (known_dem hRR) ?_
    rintro r g' ⟨rfl, hn, hk⟩
    simp -implicitDefEqProofs (disch := (first | omega | fail)) only [go_sem, seval, ↓reduceIte, reduceCtorEq]
  simp -implicitDefEqProofs (disch := (first | omega | fail)) only [go_sem, seval, ↓reduceIte, reduceCtorEq]
  refine GCall.of (much_ok hv1.v hRR).any ?_
  rintro r g ⟨⟨b, rfl⟩, rfl⟩
  cases b
  rotate_left
  · simp -implicitDefEqProofs (disch := (first | omega | fail)) only [go_sem, seval, ↓reduceIte, reduceCtorEq]
    refine GCall.of (known_dem hRR) ?_
    rintro r g' ⟨rfl, hn, hk⟩
    simp -implicitDefEqProofs (disch := (first | omega | fail)) only [go_sem, seval, ↓reduceIte, reduceCtorEq]
  simp -implicitDefEqProofs (disch := (first | omega | fail)) only [go_sem, seval, ↓reduceIte, reduceCtorEq]
  refine GCall.of (begin_px (zs := [2, 1]) (LR.push g _ 3) (by decide) hRR) ?_
  rintro r g1 ⟨hn1, hk1, ⟨hno, _⟩ | ⟨_, px, Mx, rx, bx, Ix, rfl, hx, hMx, hdx, hIx, hbx⟩⟩
  · exact absurd hno (by decide)
  simp only [Heap.n_push] at hn1 hMx hIx hbx
  simp -implicitDefEqProofs (disch := (first | omega | fail)) only [go_sem, seval, ↓reduceIte, reduceCtorEq]
  refine GCall.of (begin_px (zs := [2, 1]) (LR.push g1 _ 3) (by decide) hRR) ?_
  rintro r g2 ⟨hn2, hk2, ⟨hno, _⟩ | ⟨_, py, My, ry, bY, Iy, rfl, hy, hMy, hdy, hIy, hby'⟩⟩
  · exact absurd hno (by decide)
  simp only [Heap.n_push] at hn2 hMy hIy hby'
  simp -implicitDefEqProofs (disch := (first | omega | fail)) only [go_sem, seval, ↓reduceIte, reduceCtorEq]
  have kg1 : ∀ k, k < g.n → g1.get k = g.get k := fun k hk => by rw [hk1 k (by simp; omega), w_push_ne (by omega)]
  have kg2 : ∀ k, k < g1.n → g2.get k = g1.get k := fun k hk => by rw [hk2 k (by simp; omega), w_push_ne (by omega)]
  have hrx := RX.mk' hdx
  have hry := RX.mk' hdy
  have dlx : ∀ k, (Ix k ∨ ∃ a, a < ([2, 1] : List Int).length ∧ k = bx a) → g.n + 1 ≤ k ∧ ¬ Mx k := fun k hk => by
    rcases hk with hk | ⟨a, ha, rfl⟩
    · exact hIx k hk
    · exact hbx a ha
  have dly : ∀ k, (Iy k ∨ ∃ a, a < ([2, 1] : List Int).length ∧ k = bY a) → g1.n + 1 ≤ k ∧ ¬ My k := fun k hk => by
    rcases hk with hk | ⟨a, ha, rfl⟩
    · exact hIy k hk
    · exact hby' a ha
  have fq : FourQ g g2 px rx py ry [2, 1] := ⟨Mx, _, My, _, _, _, ⟨⟨hx.old (by omega) kg2, hrx.old (by omega) kg2, fun k hk => by have := hMx k hk; omega, fun k hk => by have := (dlx k (by simpa using hk)).1; omega, fun k h1 h2 => (dlx k (by simpa using h2)).2 h1, by omega, fun k hk => by rw [kg2 k (by omega), kg1 k hk]⟩, ⟨hy, hry, fun k hk => by have := hMy k hk; omega, fun k hk => by have := (dly k (by simpa using hk)).1; omega, fun k h1 h2 => (dly k (by simpa using h2)).2 h1, by omega, fun k hk => by rw [kg2 k (by omega), kg1 k hk]⟩, fun k h1 h2 => by
    have e1 : k < g1.n := h1.elim (hx.lt k) fun h => hrx.lt k h
    have e2 : g1.n ≤ k := h2.elim (fun h => by have := hMy k h; omega) fun h => by have := (dly k (by simpa using h)).1; omega
    omega⟩⟩
  refine same_l0 hv0 hRR hWW fq (by simp -implicitDefEqProofs (disch := (first | omega | fail)) only [go_sem, seval, ↓reduceIte]) (by simp -implicitDefEqProofs (disch := (first | omega | fail)) only [go_sem, seval, ↓reduceIte, reduceCtorEq]) (by simp -implicitDefEqProofs (disch := (first | omega | fail)) only [go_sem, seval, ↓reduceIte, reduceCtorEq]) (by simp -implicitDefEqProofs (disch := (first | omega | fail)) only [go_sem, seval, ↓reduceIte, reduceCtorEq]) (by simp -implicitDefEqProofs (disch := (first | omega | fail)) only [go_sem, seval, ↓reduceIte, reduceCtorEq]) ?_
  intro tr' g3 px' u1 u2 u10 u11 u12 u7 u8 u9 fq3
  replace u1 := u1.trans (show _ = some v1 by simp -implicitDefEqProofs (disch := (first | omega | fail)) only [go_sem, seval, ↓reduceIte, reduceCtorEq])
  replace u2 := u2.trans (show _ = some v2 by simp -implicitDefEqProofs (disch := (first | omega | fail)) only [go_sem, seval, ↓reduceIte, reduceCtorEq])
  replace u10 := u10.trans (show _ = some (V.ptr (some (py, 0))) by simp -implicitDefEqProofs (disch := (first | omega | fail)) only [go_sem, seval, ↓reduceIte, reduceCtorEq])
  replace u11 := u11.trans (show _ = some (V.ptr (some (ry, 0))) by simp -implicitDefEqProofs (disch := (first | omega | fail)) only [go_sem, seval, ↓reduceIte, reduceCtorEq])
  replace u12 := u12.trans (show _ = some (V.bool true) by simp -implicitDefEqProofs (disch := (first | omega | fail)) only [go_sem, seval, ↓reduceIte, reduceCtorEq])
  simp -implicitDefEqProofs (disch := (first | omega | fail)) only [go_sem, seval, ↓reduceIte]
  refine same_l1 hv1 hRR hWW fq3 (by simp -implicitDefEqProofs (disch := (first | omega | fail)) only [go_sem, seval, ↓reduceIte, u1]) (by simp -implicitDefEqProofs (disch := (first | omega | fail)) only [go_sem, seval, ↓reduceIte, u10]) (by simp -implicitDefEqProofs (disch := (first | omega | fail)) only [go_sem, seval, ↓reduceIte, u11]) (by simp -implicitDefEqProofs (disch := (first | omega | fail)) only [go_sem, seval, ↓reduceIte, u12]) (by simp -implicitDefEqProofs (disch := (first | omega | fail)) only [go_sem, seval, ↓reduceIte]) ?_
  intro tr4 g4 py' w2 w7 w8 w9 w10 w11 w12 fq4
  replace w2 := w2.trans (show _ = some v2 by simp -implicitDefEqProofs (disch := (first | omega | fail)) only [go_sem, seval, ↓reduceIte, u2])
  replace w7 := w7.trans (show _ = some (V.ptr (some (px', 0))) by simp -implicitDefEqProofs (disch := (first | omega | fail)) only [go_sem, seval, ↓reduceIte, u7])
  replace w8 := w8.trans (show _ = some (V.ptr (some (rx, 0))) by simp -implicitDefEqProofs (disch := (first | omega | fail)) only [go_sem, seval, ↓reduceIte, u8])
  replace w9 := w9.trans (show _ = some (V.bool true) by simp -implicitDefEqProofs (disch := (first | omega | fail)) only [go_sem, seval, ↓reduceIte, u9])
  simp -implicitDefEqProofs (disch := (first | omega | fail)) only [go_sem, seval, ↓reduceIte, w2]
  obtain ⟨Mx4, Dx4, My4, Dy4, Sx, Sy, f4⟩ := fq4
  obtain ⟨z, zb, eH⟩ : ∃ z zb, homeV l = .tuple [.int .i64 z, .bool zb] := by
    unfold homeV
    cases homeP l with
    | none => exact ⟨_, _, rfl⟩
    | some a => exact ⟨_, _, rfl⟩
  have hv24 := hv2.old f4.x.old
  refine GCall.of (home_ok hv24 hby hRR).any ?_
  rintro r g5 ⟨rfl, rfl⟩
  rw [eH]
  simp -implicitDefEqProofs (disch := (first | omega | fail)) only [go_sem, seval, ↓reduceIte, w2]
  refine GCall.of (rhome_ok hv24 hby hRR).any ?_
  rintro r g6 ⟨rfl, rfl⟩
  rw [eH]
  simp -implicitDefEqProofs (disch := (first | omega | fail)) only [go_sem, seval, ↓reduceIte, w7, w9, w10, w12]
  refine GCall.of (same_px f4.x.p f4.y.p hRR) ?_
  rintro r g7 ⟨⟨b1, rfl, hb1⟩, hn7, hk7⟩
  simp -implicitDefEqProofs (disch := (first | omega | fail)) only [go_sem, seval, ↓reduceIte, w8, w11]
  obtain ⟨⟨Ix4, bx4, hrx4, _⟩, _⟩ := f4.x.d.old hn7 hk7
  obtain ⟨⟨Iy4, by4, hry4, _⟩, _⟩ := f4.y.d.old hn7 hk7
  refine GCall.of (rsame_ok hrx4 hry4 (px_oks f4.x.p) (px_oks f4.y.p) hRR).any ?_
  rintro r g8 ⟨⟨b2, rfl, hb2⟩, hn8, hk8⟩
  obtain rfl : b1 = b2 := by
    have := hb1.trans hb2.symm
    cases b1 <;> cases b2 <;> simp at this ⊢
  have e1 : (b1 == b1) = true := by cases b1 <;> rfl
  simp -implicitDefEqProofs (disch := (first | omega | fail)) only [go_sem, seval, ↓reduceIte, w7, e1]
  have hx8 := f4.x.p.old (by omega) fun k hk => (hk8 k (by omega)).trans (hk7 k hk)
  refine GCall.of (same_px hx8 hx8 hRR) ?_
  rintro r g9 ⟨⟨b3, rfl, hb3⟩, hn9, hk9⟩
  obtain rfl : b3 = true := hb3.2 (sameA_refl _ _)
  have e2 : (z == z) = true := by simp
  have e3 : (zb == zb) = true := by cases zb <;> rfl
  simp -implicitDefEqProofs (disch := (first | omega | fail)) only [go_sem, seval, ↓reduceIte, e2, e3]
  refine GCall.of (known_dem hRR) ?_
  rintro r g10 ⟨rfl, hn10, hk10⟩
  simp -implicitDefEqProofs (disch := (first | omega | fail)) only [go_sem, seval, ↓reduceIte]
end Go.Proofs.Ytmimialblhlklaa
