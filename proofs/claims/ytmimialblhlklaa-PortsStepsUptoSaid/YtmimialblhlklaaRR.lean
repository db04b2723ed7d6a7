/- The law's ring. -/
import Derived.Test.YtmimialblhlklaaN8
set_option linter.unusedVariables false
set_option maxRecDepth 100000
namespace Go.Proofs.Ytmimialblhlklaa
open Go Go.Vm
variable {h : Heap} {R W : Set'} {M : Set'} {pp : Nat} {qs : List Nat} {S : AT}
theorem turn_heap (g : Heap) (u : Nat) : ∃ gN, ((g.push (O.cells (Blk.of [V.int IntKind.i64 0]) 3)).set g.n (O.cells ((Blk.of [V.int IntKind.i64 0]).set 0 (V.int IntKind.i64 (u : Int))) 3)).set g.n (O.cells (((Blk.of [V.int IntKind.i64 0]).set 0 (V.int IntKind.i64 (u : Int))).set 0 (V.int IntKind.i64 ((u : Int) + 1))) 3) = gN ∧ gN.n = g.n + 1 ∧ (∃ c, gN.get g.n = some (.cells c 3) ∧ c.size = 1 ∧ c.ro = false ∧ c.get 0 = .int .i64 ((u + 1 : Nat) : Int)) ∧ ∀ b, b < g.n → gN.get b = g.get b :=
 ⟨_, rfl, by simp, ⟨_, w_set_eq (by simp) rfl _, rfl, rfl, by simp -implicitDefEqProofs (disch := (first | omega | fail)) only [go_sem, seval]; simp⟩, fun b hb => by rw [w_set_ne (by simp) (by omega), w_set_ne (by simp) (by omega), w_push_ne (by omega)]⟩
theorem fill59 {Q : Ex → Fr → Heap → Prop} {t : List It} {tr : Tr V} {rd : Option Nat} {g : Heap} {v : V} {l : List V} {n0 : Nat} (ho : Own n0 g v l 5) (hl : l.length ≤ 1000000000) (hR : ∀ b, R b) (hW : ∀ b, n0 ≤ b → W b) (t15 : tr.get 15 = some v) (t16 : tr.get 16 = some (.int .i64 0))
  (hk : ∀ tr' g', tr'.get 8 = tr.get 8 → tr'.get 9 = tr.get 9 → tr'.get 10 = tr.get 10 → tr'.get 12 = tr.get 12 → tr'.get 13 = tr.get 13 → g'.n = g.n → (∀ b, (b < n0 ∨ b ≠ sblk v) → g'.get b = g.get b) → resume ⟨Try.prog, true⟩ R W rd Q t (.exit 4) ⟨⟨91, tr'⟩, []⟩ g') :
  GLoop ⟨Try.prog, true⟩ R W rd Q ir59_l0 t ⟨⟨91, tr⟩, []⟩ g := by
 have hlen := ho.lr.lenV Try.underlying36
 refine GLoop.inv hm (fun k f g' => f.mks = [] ∧ f.tm.n = 91 ∧ f.tm.get 15 = some v ∧ f.tm.get 8 = tr.get 8 ∧ f.tm.get 9 = tr.get 9 ∧ f.tm.get 10 = tr.get 10 ∧ f.tm.get 12 = tr.get 12 ∧ f.tm.get 13 = tr.get 13 ∧ g'.n = g.n ∧ (∀ b, (b < n0 ∨ b ≠ sblk v) → g'.get b = g.get b) ∧ ∃ i l', i + k = l.length ∧ f.tm.get 16 = some (.int .i64 ((i : Nat) : Int)) ∧ Own n0 g' v l' 5 ∧ l'.length = l.length) l.length ?_ ?_
 ·exact ⟨rfl, rfl, t15, rfl, rfl, rfl, rfl, rfl, rfl, fun _ _ => rfl, 0, l, by omega, t16, ho, rfl⟩
 rintro k ⟨⟨n', tr'⟩, mks⟩ g' ⟨hmk, hn', u15, u8, u9, u10, u12, u13, gn, go, i, l', hik, u16, ho', hl'⟩
 simp only [Tm.get_mk] at hmk hn' u15 u8 u9 u10 u12 u13 u16
 subst hmk hn'
 by_cases hi : i < l.length
 ·have hz : (i : Int) < (l.length : Int) := by omega
  have hi0 : (0 : Int) ≤ (i : Int) := by omega
  obtain ⟨b, x, c, rfl, hb0, hb, hs, hro, hg, hgs⟩ := ho'.get (i := i) (by omega)
  have hbl := Heap.lt_of_get hb
  have hRb := hR b; have hWb := hW b hb0
  rw [hl'] at u15 hlen hs
  have hsz : i < c.size := by omega
  simp -implicitDefEqProofs (disch := (first | omega | fail)) only [go_sem, seval, ↓reduceIte, ir59_l0, undefV, u15, u16, ↓hlen, hz, hi0, hb, hWb, hro]
  refine ⟨k - 1, by omega, by rw [hl'], u8, u9, u10, u12, u13, gn, fun b' hb' => by rw [w_set_ne hbl (by rcases hb' with h | h; omega; exact h)]; exact go b' hb', i + 1, l'.set i (.int .u8 102), by omega, by simp, ?_, by rw [List.length_set]; exact hl'⟩
  refine .inr ⟨b, x, c.set i (.int .u8 102), by intro h; have := congrArg List.length h; rw [List.length_set] at this; simp only [List.length_nil] at this; omega, by simp, hb0, w_set_eq hbl rfl _, by rw [Blk.size_set, List.length_set]; omega, by rw [Blk.ro_set]; exact hro, ?_⟩
  rw [List.length_set, set_gets, hgs]
 ·have hz : ¬ (i : Int) < (l.length : Int) := by omega
  simp -implicitDefEqProofs (disch := (first | omega | fail)) only [go_sem, seval, ↓reduceIte, ir59_l0, u15, u16, ↓hlen, hz]
  exact hk _ _ (by simp -implicitDefEqProofs (disch := (first | omega | fail)) only [go_sem, seval, ↓reduceIte, u8]) (by simp -implicitDefEqProofs (disch := (first | omega | fail)) only [go_sem, seval, ↓reduceIte, u9]) (by simp -implicitDefEqProofs (disch := (first | omega | fail)) only [go_sem, seval, ↓reduceIte, u10]) (by simp -implicitDefEqProofs (disch := (first | omega | fail)) only [go_sem, seval, ↓reduceIte, u12]) (by simp -implicitDefEqProofs (disch := (first | omega | fail)) only [go_sem, seval, ↓reduceIte, u13]) gn go
theorem ringOf_fit (hx : PX h M pp qs S) (a n : Int) : (ringOf S a n).length ≤ 8 ∧ ∀ l ∈ ringOf S a n, Byt l ∧ l.length ≤ 64 := by
 unfold ringOf
 cases e : lookA S a n with
 | none => exact ⟨by simp [ringO], fun l hl => by simp [ringO] at hl⟩
 | some x =>
  obtain ⟨i, m, _, _, hS⟩ := lookA_nat e
  exact ⟨px_few hx i m x hS, (hx.fit i m x hS).2⟩
set_option maxHeartbeats 8000000 in
theorem ring_gen {S2 : Set'} {v pv : V} {ring : List (List V)} (a n leave : Int) (hx : ∀ g, h.n ≤ g.n → (∀ k, k < h.n → g.get k = h.get k) → Seq79 g pv a n ring) (hr8 : ring.length ≤ 8) (hfit : ∀ l ∈ ring, Byt l ∧ l.length ≤ 64) (hpo : pv.one = true) (hpc : pv.cellsV = [pv]) (hpos : 0 < h.n) (hv : RingV h S2 v ring) (hR : ∀ b, R b) : SF ⟨Try.prog, true⟩ 59 [pv, .int .i64 a, .int .i64 n, v, .int .i64 leave] h R W fun r g => r = .bool true ∧ h.n ≤ g.n ∧ ∀ k, k < h.n → g.get k = h.get k := by
 have hvo := hv.one
 have hvc := hv.cells
 have hvl := hv.lenV
 obtain ⟨h0, e0, n0, b1, b2, b3, k0⟩ : ∃ h0, ((h.push (.cells (Blk.of [v]) 23)).push (.cells (Blk.of [V.int .i64 leave]) 3)).push (.cells (Blk.of [V.bool false]) 4) = h0 ∧ h0.n = h.n + 3 ∧ h0.get h.n = some (.cells (Blk.of [v]) 23) ∧ h0.get (h.n + 1) = some (.cells (Blk.of [V.int .i64 leave]) 3) ∧ h0.get (h.n + 1 + 1) = some (.cells (Blk.of [V.bool false]) 4) ∧ ∀ b, b < h.n → h0.get b = h.get b :=
  ⟨_, rfl, by simp, by simp -implicitDefEqProofs (disch := (first | omega | (simp -implicitDefEqProofs only [szs, ne_eq] <;> omega) | fail)) only [go_sem, seval], by simp -implicitDefEqProofs (disch := (first | omega | (simp -implicitDefEqProofs only [szs, ne_eq] <;> omega) | fail)) only [go_sem, seval], by simp -implicitDefEqProofs (disch := (first | omega | (simp -implicitDefEqProofs only [szs, ne_eq] <;> omega) | fail)) only [go_sem, seval], fun b hb => by simp -implicitDefEqProofs (disch := (first | omega | (simp -implicitDefEqProofs only [szs, ne_eq] <;> omega) | fail)) only [go_sem, seval]⟩
 refine SF.go hm Try.func59 ir59_eq ?_
 simp -implicitDefEqProofs (disch := (first | omega | (simp -implicitDefEqProofs only [szs, ne_eq] <;> omega) | fail)) only [go_sem, seval, ↓reduceIte, reduceCtorEq, ir59, ↓hvc, e0]
 clear e0
 refine GCall.of (ok72 pv (.int .i64 a) (.int .i64 n) hpc rfl rfl).any ?_
 rintro r h1 ⟨rfl, hh⟩
 have n1 : h1.n = h0.n + 3 := by rw [hh]; simp
 have k1 : ∀ b, b < h0.n → h1.get b = h0.get b := fun b hb => by rw [hh, w_push_ne (by simp; omega), w_push_ne (by simp; omega), w_push_ne (by omega)]
 have p1 : h1.get h0.n = some (.cells (Blk.of [pv]) 26) := by rw [hh, w_push_ne (by simp; omega), w_push_ne (by simp), w_push_eq rfl]
 have p2 : h1.get (h0.n + 1) = some (.cells (Blk.of [.int .i64 a]) 3) := by rw [hh, w_push_ne (by simp), w_push_eq (by simp)]
 have p3 : h1.get (h0.n + 2) = some (.cells (Blk.of [.int .i64 n]) 3) := by rw [hh, w_push_eq (by simp)]
 clear hh
 obtain ⟨g0, e4, n4, b6, k4⟩ : ∃ g0, (h1.push (.cells (Blk.of [V.int .i64 0]) 3)).set h1.n (.cells ((Blk.of [V.int .i64 0]).set 0 (.int .i64 0)) 3) = g0 ∧ g0.n = h1.n + 1 ∧ g0.get h1.n = some (.cells ((Blk.of [V.int .i64 0]).set 0 (.int .i64 0)) 3) ∧ ∀ b, b < h1.n → g0.get b = h1.get b := ⟨_, rfl, by simp, w_set_eq (by simp) rfl _, fun b hb => by rw [w_set_ne (by simp) (by omega), w_push_ne (by omega)]⟩
 simp -implicitDefEqProofs (disch := (first | omega | (simp -implicitDefEqProofs only [szs, ne_eq] <;> omega) | fail)) only [go_sem, seval, ↓reduceIte, reduceCtorEq, undefV, e4]
 have q0 : ∀ b, b < h.n → h1.get b = h.get b := fun b hb => by rw [k1 b (by omega), k0 b hb]
 have q1 := (k1 h.n (by omega)).trans b1
 have q2 := (k1 (h.n + 1) (by omega)).trans b2
 have q3 := (k1 (h.n + 1 + 1) (by omega)).trans b3
 refine ⟨.inl (by omega), GLoop.inv hm (fun k f g => (f.mks.Nodup ∧ ∀ m ∈ f.mks, h1.n ≤ m ∧ g.get m = some (.deferred true)) ∧ f.tm.n = 91 ∧ f.tm.get 8 = some (.ptr (some (h.n, 0))) ∧ f.tm.get 9 = some (.ptr (some (h.n + 1, 0))) ∧ f.tm.get 10 = some (.ptr (some (h.n + 1 + 1, 0))) ∧ f.tm.get 11 = some (.func 79 [] [.ptr (some (h0.n, 0)), .ptr (some (h0.n + 1, 0)), .ptr (some (h0.n + 2, 0))]) ∧ h1.n + 1 ≤ g.n ∧ (∀ b, b < h1.n → g.get b = h1.get b) ∧
  ∃ (u bt : Nat) (ct : Blk), u + k = 2 ∧ f.tm.get 12 = some (.ptr (some (bt, 0))) ∧ h1.n ≤ bt ∧ g.get bt = some (.cells ct 3) ∧ ct.size = 1 ∧ ct.ro = false ∧ ct.get 0 = .int .i64 u) 2 ?_ ?_⟩
 ·exact ⟨⟨List.nodup_nil, fun m hm => by cases hm⟩, rfl, by simp -implicitDefEqProofs (disch := (first | omega | (simp -implicitDefEqProofs only [szs, ne_eq] <;> omega) | fail)) only [go_sem, seval, ↓reduceIte, reduceCtorEq], by simp -implicitDefEqProofs (disch := (first | omega | (simp -implicitDefEqProofs only [szs, ne_eq] <;> omega) | fail)) only [go_sem, seval, ↓reduceIte, reduceCtorEq], by simp -implicitDefEqProofs (disch := (first | omega | (simp -implicitDefEqProofs only [szs, ne_eq] <;> omega) | fail)) only [go_sem, seval, ↓reduceIte, reduceCtorEq], by simp -implicitDefEqProofs (disch := (first | omega | (simp -implicitDefEqProofs only [szs, ne_eq] <;> omega) | fail)) only [go_sem, seval, ↓reduceIte, reduceCtorEq], by omega, k4, 0, h1.n, _, by omega, by simp -implicitDefEqProofs (disch := (first | omega | (simp -implicitDefEqProofs only [szs, ne_eq] <;> omega) | fail)) only [go_sem, seval, ↓reduceIte, reduceCtorEq], Nat.le_refl _, b6, rfl, rfl, rfl⟩
 rintro k ⟨⟨n', tr⟩, mks⟩ g ⟨⟨hmn, hmm⟩, hn', t8, t9, t10, t11, hgn, hgo, u, bt, ct, huk, t12, hbt1, hbt2, hbt3, hbt4, hbt5⟩
 simp only [Tm.get_mk] at hmn hmm hn' t8 t9 t10 t11 t12
 subst hn'
 have hRt : h.n ≤ bt ∨ R bt := .inl (by omega)
 by_cases hu : u < 2
 rotate_left
 ·obtain rfl : u = 2 := by omega
  have p3' := (hgo (h.n + 1 + 1) (by omega)).trans q3
  have hlp := Heap.lt_of_get p3'
  have r2 : h.n ≤ h.n + 1 + 1 ∨ R (h.n + 1 + 1) := .inl (by omega)
  simp -implicitDefEqProofs (disch := (first | omega | (simp -implicitDefEqProofs only [szs, ne_eq] <;> omega) | fail)) only [go_sem, seval, ↓reduceIte, ir59_l1, t10, t12, hbt2, hbt3, hbt5, hRt, p3']
  refine ⟨.inl (by omega), fin_all hmn (fun m hm => ⟨by rw [w_set_ne hlp (by have := (hmm m hm).1; omega)]; exact (hmm m hm).2, .inl (by have := (hmm m hm).1; omega)⟩) fun h' en ek => ?_⟩
  have p5 : h'.get (h.n + 1 + 1) = _ := (ek (h.n + 1 + 1) (fun hm => by have := (hmm _ hm).1; omega)).trans (w_set_eq hlp rfl _)
  rw [fin_ret]
  simp -implicitDefEqProofs (disch := (first | omega | (simp -implicitDefEqProofs only [szs, ne_eq] <;> omega) | fail)) only [go_sem, seval, ↓reduceIte, t10, p5, r2]
  refine ⟨by rw [en, Heap.n_set]; omega, fun k hk => ?_⟩
  rw [ek k (fun hm => by have := (hmm _ hm).1; omega), w_set_ne hlp (by omega), hgo k (by omega)]
  exact q0 k hk
 obtain ⟨gA, eA, nA, bA, kA⟩ : ∃ gA, (g.push (O.cells (Blk.of [V.int IntKind.i64 0]) 3)).set g.n (O.cells ((Blk.of [V.int IntKind.i64 0]).set 0 (V.int IntKind.i64 0)) 3) = gA ∧ gA.n = g.n + 1 ∧ gA.get g.n = some (O.cells ((Blk.of [V.int IntKind.i64 0]).set 0 (V.int IntKind.i64 0)) 3) ∧ ∀ b, b < g.n → gA.get b = g.get b := ⟨_, rfl, by simp, w_set_eq (by simp) rfl _, fun b hb => by rw [w_set_ne (by simp) (by omega), w_push_ne (by omega)]⟩
 have hu2 : (u : Int) < 2 := by omega
 simp -implicitDefEqProofs (disch := (first | omega | (simp -implicitDefEqProofs only [szs, ne_eq] <;> omega) | fail)) only [go_sem, seval, ↓reduceIte, ir59_l1, t11, t12, hbt2, hbt3, hbt5, hRt, hu2, eA]
 refine ⟨.inl (by omega), ?_⟩
 have hgA : ∀ b, b < h1.n → gA.get b = h1.get b := fun b hb => by rw [kA b (by omega)]; exact hgo b hb
 have hml : ∀ m ∈ mks, m < g.n := fun m hm => Heap.lt_of_get (hmm m hm).2
 have hu01 : u = 0 ∨ u = 1 := by omega
 refine range79 (b1 := h0.n) (b2 := h0.n + 1) (b3 := h0.n + 2) (a := a) (n := n) (fun b => b = g.n)
  (fun p g' => gA.n ≤ g'.n ∧ (∀ b, b < g.n → g'.get b = g.get b) ∧ ∃ c, g'.get g.n = some (.cells c 3) ∧ c.size = 1 ∧ c.ro = false ∧ c.get 0 = .int .i64 (p : Int))
  (fun e g' => e = .exit 2 ∧ gA.n ≤ g'.n ∧ (∀ b, b < g.n → g'.get b = g.get b) ∧ (∃ c, g'.get g.n = some (.cells c 3) ∧ c.size = 1 ∧ c.ro = false ∧ c.get 0 = .int .i64 leave) ∧ u = 0)
  (by simp -implicitDefEqProofs (disch := (first | omega | (simp -implicitDefEqProofs only [szs, ne_eq] <;> omega) | fail)) only [go_sem, seval, ↓reduceIte]) (fun g' hg1 hg2 => hx g' (by omega) fun k hk => by rw [hg2 k (by omega), kA k (by omega), hgo k (by omega)]; exact q0 k hk) ((hgA _ (by omega)).trans p1) ((hgA _ (by omega)).trans p2) ((hgA _ (by omega)).trans p3) (fun b => .inr (hR b)) (fun b hb => by rcases hb with hb | rfl <;> exact .inl (by omega)) ⟨Nat.le_refl _, kA, _, bA, rfl, rfl, rfl⟩
  (fun p g' g'' ⟨i1, i2, c, i4, i5⟩ j1 j2 => ⟨by omega, fun b hb => by rw [j2 b (by omega) (by omega) (by omega)]; exact i2 b hb, c, by rw [j2 _ (by omega) (by omega) (by omega)]; exact i4, i5⟩)
  (fun e g' g'' ⟨i1, i2, i3, ⟨c, i4, i5⟩, i6⟩ j1 j2 => ⟨i1, by omega, fun b hb => by rw [j2 b (by omega) (by omega) (by omega)]; exact i3 b hb, ⟨c, by rw [j2 _ (by omega) (by omega) (by omega)]; exact i4, i5⟩, i6⟩)
  ?_ ?_ ?_
 ·rintro W' Q' tr' i gg w hW' hi ⟨i1, i2, cn, v1, v2, v3, v4⟩ ngg ⟨n', hn', ho⟩ s14 s15 s8 s9 s10 s12 s13 hnorm hex
  replace s8 := s8.trans (show _ = some (V.ptr (some (h.n, 0))) by simp -implicitDefEqProofs (disch := (first | omega | (simp -implicitDefEqProofs only [szs, ne_eq] <;> omega) | fail)) only [go_sem, seval, ↓reduceIte, t8])
  replace s9 := s9.trans (show _ = some (V.ptr (some (h.n + 1, 0))) by simp -implicitDefEqProofs (disch := (first | omega | (simp -implicitDefEqProofs only [szs, ne_eq] <;> omega) | fail)) only [go_sem, seval, ↓reduceIte, t9])
  replace s10 := s10.trans (show _ = some (V.ptr (some (h.n + 1 + 1, 0))) by simp -implicitDefEqProofs (disch := (first | omega | (simp -implicitDefEqProofs only [szs, ne_eq] <;> omega) | fail)) only [go_sem, seval, ↓reduceIte, t10])
  replace s12 := s12.trans (show _ = some (V.ptr (some (bt, 0))) by simp -implicitDefEqProofs (disch := (first | omega | (simp -implicitDefEqProofs only [szs, ne_eq] <;> omega) | fail)) only [go_sem, seval, ↓reduceIte, t12])
  replace s13 := s13.trans (show _ = some (V.ptr (some (g.n, 0))) by simp -implicitDefEqProofs (disch := (first | omega | (simp -implicitDefEqProofs only [szs, ne_eq] <;> omega) | fail)) only [go_sem, seval, ↓reduceIte])
  have h2a : ∀ b, b < h1.n → gg.get b = h1.get b := fun b hb => by rw [i2 b (by omega)]; exact hgo b hb
  have zw := (h2a h.n (by omega)).trans q1
  have zl := (h2a (h.n + 1) (by omega)).trans q2
  have hbtl := Heap.lt_of_get hbt2
  have zt := (i2 bt hbtl).trans hbt2
  have hvg : RingV gg S2 v ring := hv.old fun b hb => by rw [h2a b (by omega)]; exact q0 b hb
  obtain ⟨bb, ob, capb, exb, cb, ceb, wv, ev, _, _, hbb, hbs, hbg, hwv⟩ := hvg.at' hi
  have hwo := hwv.one
  have hgd : ring.getD i [] = ring[i] := by rw [List.getD_eq_getElem?_getD, List.getElem?_eq_getElem hi]; rfl
  rw [hgd] at ho
  obtain ⟨hbl, h64⟩ := hfit _ (List.getElem_mem hi)
  generalize ring[i] = L at ho hwv hbl h64
  obtain ⟨r1, hc1⟩ := conv_lr ho.lr hbl
  obtain ⟨r2, hc2⟩ := conv_lr hwv hbl
  have hse := sb_neq (strB L) (strB L)
  rw [decide_eq_true rfl] at hse
  have hr1 : allB (fun _ => True) r1 := allB_of fun b _ => trivial
  have hr2 : allB (fun _ => True) r2 := allB_of fun b _ => trivial
  have c0 : (0 : Int) ≤ (i : Int) := by omega
  have c1 : (i : Int) < (ring.length : Int) := by omega
  have c2 : ¬ (i : Int) ≥ (ring.length : Int) := by omega
  have hne : ((i : Int) != (i : Int)) = false := by simp
  simp -implicitDefEqProofs (disch := (first | omega | (simp -implicitDefEqProofs only [szs, ne_eq] <;> omega) | fail)) only [go_sem, seval, ↓reduceIte, ir59_b0, undefV, s8, s13, s14, s15, v1, v2, v4, zw, c0, c1, c2, hne, ev, hbb, hbg, ↓cvSD, hc1, hc2, hse]
  have hsbw : sblk w = 0 ∨ n' ≤ sblk w := (Own.toS ho).sblk.imp id fun h => h.1
  refine fill59 (n0 := n') ho (by omega) (fun _ => trivial) (fun b hb => hW' b (.inl (by omega))) (by simp -implicitDefEqProofs (disch := (first | omega | (simp -implicitDefEqProofs only [szs, ne_eq] <;> omega) | fail)) only [go_sem, seval, ↓reduceIte, s15]) (by simp -implicitDefEqProofs (disch := (first | omega | (simp -implicitDefEqProofs only [szs, ne_eq] <;> omega) | fail)) only [go_sem, seval, ↓reduceIte]) ?_
  intro tr3 g3 w8 w9 w10 w12 w13 n3 k3
  replace w8 := w8.trans (show _ = some (V.ptr (some (h.n, 0))) by simp -implicitDefEqProofs (disch := (first | omega | (simp -implicitDefEqProofs only [szs, ne_eq] <;> omega) | fail)) only [go_sem, seval, ↓reduceIte, s8])
  replace w9 := w9.trans (show _ = some (V.ptr (some (h.n + 1, 0))) by simp -implicitDefEqProofs (disch := (first | omega | (simp -implicitDefEqProofs only [szs, ne_eq] <;> omega) | fail)) only [go_sem, seval, ↓reduceIte, s9])
  replace w10 := w10.trans (show _ = some (V.ptr (some (h.n + 1 + 1, 0))) by simp -implicitDefEqProofs (disch := (first | omega | (simp -implicitDefEqProofs only [szs, ne_eq] <;> omega) | fail)) only [go_sem, seval, ↓reduceIte, s10])
  replace w12 := w12.trans (show _ = some (V.ptr (some (bt, 0))) by simp -implicitDefEqProofs (disch := (first | omega | (simp -implicitDefEqProofs only [szs, ne_eq] <;> omega) | fail)) only [go_sem, seval, ↓reduceIte, s12])
  replace w13 := w13.trans (show _ = some (V.ptr (some (g.n, 0))) by simp -implicitDefEqProofs (disch := (first | omega | (simp -implicitDefEqProofs only [szs, ne_eq] <;> omega) | fail)) only [go_sem, seval, ↓reduceIte, s13])
  have v13 := (k3 g.n (.inl (by omega))).trans v1
  have zt3 := (k3 bt (.inl (by omega))).trans zt
  have zl3 := (k3 (h.n + 1) (.inl (by omega))).trans zl
  have hln := Heap.lt_of_get v13
  have wn := hW' g.n (.inr rfl)
  have hKeep : ∀ y : O, ∀ b, b < g.n → (g3.set g.n y).get b = g.get b := fun y b hb => by rw [w_set_ne hln (by omega), k3 b (.inl (by omega))]; exact i2 b hb
  have hOth : ∀ y : O, ∀ k, gA.n ≤ k → k < gg.n → k ≠ sblk w → (g3.set g.n y).get k = gg.get k := fun y k q1 q2 q3 => by rw [w_set_ne hln (by omega), k3 k (.inr q3)]
  rcases hu01 with rfl | rfl
  ·by_cases hle : (i : Int) + 1 = leave
   ·have hb : ((i : Int) + 1 == leave) = true := by simp [hle]
    simp -implicitDefEqProofs (disch := (first | omega | (simp -implicitDefEqProofs only [szs, ne_eq] <;> omega) | fail)) only [go_sem, seval, ↓reduceIte, undefV, w9, w12, w13, v13, v2, v3, v4, wn, zt3, hbt3, hbt5, zl3, hb]
    exact hex (.exit 2) _ _ (by simp) (by rw [Heap.n_set]; omega) (hOth _) ⟨rfl, by rw [Heap.n_set]; omega, hKeep _, ⟨_, w_set_eq hln rfl _, by rw [Blk.size_set]; exact v2, by rw [Blk.ro_set]; exact v3, by rw [w_bset_eq rfl, hle]⟩, rfl⟩
   ·have hb : ((i : Int) + 1 == leave) = false := by simpa using hle
    simp -implicitDefEqProofs (disch := (first | omega | (simp -implicitDefEqProofs only [szs, ne_eq] <;> omega) | fail)) only [go_sem, seval, ↓reduceIte, undefV, w9, w12, w13, v13, v2, v3, v4, wn, zt3, hbt3, hbt5, zl3, hb]
    exact hnorm _ _ (by rw [Heap.n_set]; omega) (hOth _) ⟨by rw [Heap.n_set]; omega, hKeep _, _, w_set_eq hln rfl _, by rw [Blk.size_set]; exact v2, by rw [Blk.ro_set]; exact v3, by rw [w_bset_eq rfl]; simp⟩
  ·simp -implicitDefEqProofs (disch := (first | omega | (simp -implicitDefEqProofs only [szs, ne_eq] <;> omega) | fail)) only [go_sem, seval, ↓reduceIte, undefV, w12, w13, v13, v2, v3, v4, wn, zt3, hbt3, hbt5]
   exact hnorm _ _ (by rw [Heap.n_set]; omega) (hOth _) ⟨by rw [Heap.n_set]; omega, hKeep _, _, w_set_eq hln rfl _, by rw [Blk.size_set]; exact v2, by rw [Blk.ro_set]; exact v3, by rw [w_bset_eq rfl]; simp⟩
 ·rintro gC ⟨i1, i2, cn, v1, v2, v3, v4⟩ gn hd
  have h2a : ∀ b, b < h1.n → gC.get b = h1.get b := fun b hb => by rw [i2 b (by omega)]; exact hgo b hb
  have zw := (h2a h.n (by omega)).trans q1
  have zl := (h2a (h.n + 1) (by omega)).trans q2
  have zt := (i2 bt (Heap.lt_of_get hbt2)).trans hbt2
  have rn : h.n ≤ g.n ∨ R g.n := .inl (by omega)
  have rw' : h.n ≤ h.n ∨ R h.n := .inl (by omega)
  have r1 : h.n ≤ h.n + 1 ∨ R (h.n + 1) := .inl (by omega)
  have hne : ∀ x : Int, (x != x) = false := fun x => by simp
  obtain ⟨gN, eN, nN, ⟨cN, bN, bN1, bN2, bN3⟩, kN⟩ := turn_heap gC u
  have fin2 : ((gA.n :: mks).Nodup ∧ ∀ m, m ∈ gA.n :: mks → h1.n ≤ m ∧ gN.get m = some (O.deferred true)) := ⟨List.nodup_cons.2 ⟨fun hm => by have := hml _ hm; omega, hmn⟩, fun m hm => by
   rcases List.mem_cons.1 hm with rfl | hm
   ·exact ⟨by omega, by rw [kN _ (by omega)]; exact hd⟩
   ·have := hml m hm
    exact ⟨(hmm m hm).1, by rw [kN m (by omega), i2 m (by omega)]; exact (hmm m hm).2⟩⟩
  have fin3 : ∀ b, b < h1.n → gN.get b = h1.get b := fun b hb => by rw [kN b (by omega)]; exact h2a b hb
  rcases hu01 with rfl | rfl
  ·simp -implicitDefEqProofs (disch := (first | omega | (simp -implicitDefEqProofs only [szs, ne_eq] <;> omega) | fail)) only [go_sem, Nat.reduceAdd, Nat.reduceLT, Nat.reduceEqDiff, ↓reduceIte, t8, t9, t10, t11, t12, v1, v2, v4, rn, zw, ↓hvl, zt, hbt3, hbt5, hRt, undefV, eN, hne]
   repeat (refine ⟨Or.inl (by omega), ?_⟩)
   exact ⟨k - 1, by omega, fin2, by omega, fin3, 1, gC.n, cN, by omega, rfl, by omega, bN, bN1, bN2, bN3⟩
  ·simp -implicitDefEqProofs (disch := (first | omega | (simp -implicitDefEqProofs only [szs, ne_eq] <;> omega) | fail)) only [go_sem, Nat.reduceAdd, Nat.reduceLT, Nat.reduceEqDiff, ↓reduceIte, t8, t9, t10, t11, t12, v1, v2, v4, rn, zw, ↓hvl, zt, hbt3, hbt5, hRt, undefV, eN, hne]
   repeat (refine ⟨Or.inl (by omega), ?_⟩)
   exact ⟨k - 1, by omega, fin2, by omega, fin3, 2, gC.n, cN, by omega, rfl, by omega, bN, bN1, bN2, bN3⟩
 ·rintro e gC ⟨rfl, i1, i2, ⟨cn, v1, v2, v3, v4⟩, rfl⟩ _ gn hd
  have h2a : ∀ b, b < h1.n → gC.get b = h1.get b := fun b hb => by rw [i2 b (by omega)]; exact hgo b hb
  have zw := (h2a h.n (by omega)).trans q1
  have zl := (h2a (h.n + 1) (by omega)).trans q2
  have zt := (i2 bt (Heap.lt_of_get hbt2)).trans hbt2
  have rn : h.n ≤ g.n ∨ R g.n := .inl (by omega)
  have rw' : h.n ≤ h.n ∨ R h.n := .inl (by omega)
  have r1 : h.n ≤ h.n + 1 ∨ R (h.n + 1) := .inl (by omega)
  have hne : ∀ x : Int, (x != x) = false := fun x => by simp
  obtain ⟨gN, eN, nN, ⟨cN, bN, bN1, bN2, bN3⟩, kN⟩ := turn_heap gC 0
  have fin2 : ((gA.n :: mks).Nodup ∧ ∀ m, m ∈ gA.n :: mks → h1.n ≤ m ∧ gN.get m = some (O.deferred true)) := ⟨List.nodup_cons.2 ⟨fun hm => by have := hml _ hm; omega, hmn⟩, fun m hm => by
   rcases List.mem_cons.1 hm with rfl | hm
   ·exact ⟨by omega, by rw [kN _ (by omega)]; exact hd⟩
   ·have := hml m hm
    exact ⟨(hmm m hm).1, by rw [kN m (by omega), i2 m (by omega)]; exact (hmm m hm).2⟩⟩
  have fin3 : ∀ b, b < h1.n → gN.get b = h1.get b := fun b hb => by rw [kN b (by omega)]; exact h2a b hb
  by_cases hll : leave = (ring.length : Int)
  ·have hb : (leave != (ring.length : Int)) = false := by simp [hll]
   simp -implicitDefEqProofs (disch := (first | omega | (simp -implicitDefEqProofs only [szs, ne_eq] <;> omega) | fail)) only [go_sem, Nat.reduceAdd, Nat.reduceLT, Nat.reduceEqDiff, ↓reduceIte, t8, t9, t10, t11, t12, v1, v2, v4, rn, zw, ↓hvl, zt, hbt3, hbt5, hRt, undefV, eN, hb]
   repeat (refine ⟨Or.inl (by omega), ?_⟩)
   exact ⟨k - 1, by omega, fin2, by omega, fin3, 1, gC.n, cN, by omega, rfl, by omega, bN, bN1, bN2, bN3⟩
  ·have hb : (leave != (ring.length : Int)) = true := by simpa using hll
   simp -implicitDefEqProofs (disch := (first | omega | (simp -implicitDefEqProofs only [szs, ne_eq] <;> omega) | fail)) only [go_sem, Nat.reduceAdd, Nat.reduceLT, Nat.reduceEqDiff, ↓reduceIte, t8, t9, t10, t11, t12, v1, v2, v4, rn, zw, ↓hvl, zt, hbt3, hbt5, hRt, undefV, eN, hne, hb, zl]
   repeat (refine ⟨Or.inl (by omega), ?_⟩)
   exact ⟨k - 1, by omega, fin2, by omega, fin3, 1, gC.n, cN, by omega, rfl, by omega, bN, bN1, bN2, bN3⟩
theorem ring_dem {S2 : Set'} {v : V} (hx : PX h M pp qs S) (a n leave : Int) (hv : RingV h S2 v (ringOf S a n)) (hR : ∀ b, R b) : SF ⟨Try.prog, true⟩ 59 [.ptr (some (pp, 0)), .int .i64 a, .int .i64 n, v, .int .i64 leave] h R W fun r g => r = .bool true ∧ h.n ≤ g.n ∧ ∀ k, k < h.n → g.get k = h.get k := by
 obtain ⟨hr8, hfit⟩ := ringOf_fit hx a n
 have hpos : 0 < h.n := by
  obtain ⟨⟨I, mp, T, hp, _⟩, _⟩ := hx
  have := hp.lt.1; omega
 exact ring_gen a n leave (fun g hn hk => seq79_px (hx.old hn hk) a n) hr8 hfit rfl rfl hpos hv hR
end Go.Proofs.Ytmimialblhlklaa
