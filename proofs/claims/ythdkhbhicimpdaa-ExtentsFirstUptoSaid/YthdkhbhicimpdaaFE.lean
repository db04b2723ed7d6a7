/- do: Take, Give, Flush, Keeps; what is no step. -/
import Derived.Test.YthdkhbhicimpdaaFD
set_option linter.unusedVariables false
set_option maxRecDepth 100000
namespace Go.Proofs.Ythdkhbhicimpdaa
open Go Go.Vm
attribute [-go_sem] sz_113
theorem PX.mk' {P : Set'} {h : Heap} {u u' : UU} {X : XS} {D : DS} {SX SD : Set'} {rx rd qb hb fb pb : Nat} {hk : Nat → Nat} (z : PX P h u X D SX SD rx rd qb hb fb pb hk) (e1 : u'.X = X) (e2 : u'.D = D) : PX P h u u'.X u'.D SX SD rx rd qb hb fb pb hk := by
  rw [e1, e2]; exact z
theorem PX.keep {P : Set'} {h h2 : Heap} {u : UU} {X : XS} {D : DS} {SX SD : Set'} {rx rd qb hb fb pb : Nat} {hk : Nat → Nat} (z : PX P h u X D SX SD rx rd qb hb fb pb hk) (hn : h.n ≤ h2.n) (kk : ∀ b, SX b ∨ SD b ∨ u.foot b → b < h.n → h2.get b = h.get b) : PX P h2 u X D SX SD rx rd qb hb fb pb hk :=
  ⟨z.au.same fun b hb => kk b (.inr (.inr hb)), z.rx.same fun b hb => kk b (.inl hb), z.rd.same fun b hb => kk b (.inr (.inl hb)), fun b hb => by obtain ⟨a, b1, c⟩ := z.sx b hb; exact ⟨a, by omega, c⟩, fun b hb => by obtain ⟨a, b1, c⟩ := z.sd b hb; exact ⟨a, by omega, c⟩, z.fu, z.fit, fun b hb => z.up b (by omega)⟩
theorem withX_foot {u : UU} {X : XS} (e : X.n = u.X.n) {b : Nat} (hb : (u.withX X).foot b) : u.foot b := by
  rcases hb with h | h | ⟨a, ha, h⟩
  · exact .inl h
  · exact .inr (.inl h)
  · exact .inr (.inr ⟨a, by rw [← e]; exact ha, h⟩)
set_option maxHeartbeats 4000000 in
theorem do_take {K : Nat} {P : Set'} {h : Heap} {W SX SD : Set'} {u : UU} {rx rd qb hb fb pb : Nat} {hk : Nat → Nat} (p : PX P h u u.X u.D SX SD rx rd qb hb fb pb hk) (few : ∀ s, (u.D.pe s).length ≤ K) (hW : ∀ b, P b → W b) {a b c : Int} (hb2 : b ≤ 9223372036854775807) (d kv : V) (hd1 : d.one = true) (hk1 : kv.one = true) :
    SF ⟨Try.prog, true⟩ 22 [.agg [.ptr (some (u.bx, 0)), .ptr (some (u.bd, 0)), .ptr (some (rx, 0))], .agg [.int .i64 1, .int .i64 a, .int .i64 b, .int .i64 c, d, kv]] h (fun _ => True) W (DoX P u.X K) := by
  refine SF.go hm Try.func22 ir22_eq ?_
  obtain ⟨h2, e2, n2, ⟨s0, x0, x1, xr, x2, x3, x4⟩, ⟨s1, y0, y1, y2, y3, y4, y5, y6, y7⟩, ⟨s2, z0, z1, z2⟩, k2⟩ := stDo h (.ptr (some (u.bx, 0))) (.ptr (some (u.bd, 0))) (.ptr (some (rx, 0))) 1 a b c d kv
  have p2 := p.old (by omega) k2
  have hW2 : ∀ b, P b → (h.n ≤ b ∨ W b) := fun b hb => .inr (hW b hb)
  simp -implicitDefEqProofs (disch := (first | omega | (simp -implicitDefEqProofs only [szs, ne_eq] <;> omega) | fail)) only [go_sem, Nat.reduceAdd, Nat.reduceSub, Nat.reduceLT, Nat.reduceMod, Nat.reduceDiv, ↓reduceIte, reduceCtorEq, ir22, e2, x0, x1, x2, y0, y1, y2, y3, y4]
  refine GCall.of (((utake_any p2.au a hb2).any.kept).foot (fun _ _ => trivial) (fun b hb => hW2 b (p2.fu b hb))) ?_
  rintro v g1 ⟨⟨X1, q1, hu1⟩, vf1⟩
  have n1 := vf1.n
  have p3 := p2.prog vf1 hu1 (fun b hb => .inl (withX_foot q1.same.1 hb))
  have hlt := p.au.lt
  have kf : ∀ b, h.n ≤ b → b < h2.n → g1.get b = h2.get b := fun b hb hl => vf1.get b hl fun hf => by have := hlt b hf; omega
  have x0' := (kf h.n (by omega) (by omega)).trans x0
  have y0' := (kf (h.n + 1) (by omega) (by omega)).trans y0
  obtain ⟨i1, i2, rfl⟩ := q1.shape
  simp -implicitDefEqProofs (disch := (first | omega | (simp -implicitDefEqProofs only [szs, ne_eq] <;> omega) | fail)) only [go_sem, Nat.reduceAdd, Nat.reduceSub, Nat.reduceLT, Nat.reduceMod, Nat.reduceDiv, ↓reduceIte, reduceCtorEq, x0', x1, x4, y0', y1, y3, y4]
  refine GCall.of (((rtake_any p3.rx a hb2).any.kept).foot (fun _ _ => trivial) (fun b hb => hW2 b (p3.sx b hb).1)) ?_
  rintro v g2 ⟨⟨X2, q2, hx2⟩, vf2⟩
  have n3 := vf2.n
  obtain ⟨rfl, rfl⟩ := q1.uniq q2
  obtain ⟨t1, t2, t3⟩ := q1.same
  have p4 := p3.docX vf2 hx2 t1 t2 t3
  have sxl : ∀ b, SX b → b < h.n := fun b hb => (p.sx b hb).2.1
  have kf2 : ∀ b, h.n ≤ b → b < g1.n → g2.get b = g1.get b := fun b hb hl => vf2.get b hl fun hf => by have := sxl b hf; omega
  have x0'' := (kf2 h.n (by omega) (by omega)).trans x0'
  have z0'' := (kf2 (h.n + 2) (by omega) (by omega)).trans ((kf (h.n + 2) (by omega) (by omega)).trans z0)
  have hee : ∀ e : Int, (e == e) = true := fun e => by simp
  simp -implicitDefEqProofs (disch := (first | omega | (simp -implicitDefEqProofs only [szs, ne_eq] <;> omega) | fail)) only [go_sem, Nat.reduceAdd, Nat.reduceSub, Nat.reduceLT, Nat.reduceMod, Nat.reduceDiv, ↓reduceIte, reduceCtorEq, x0'', x1, x2, x3, x4, hee]
  refine GCallD.of (R' := fun _ => True) (W' := fun _ => False) (num_ok _) ?_
  rintro v g2 ⟨rfl, rfl⟩
  simp -implicitDefEqProofs (disch := (first | omega | (simp -implicitDefEqProofs only [szs, ne_eq] <;> omega) | fail)) only [go_sem, Nat.reduceAdd, Nat.reduceSub, Nat.reduceLT, Nat.reduceMod, Nat.reduceDiv, ↓reduceIte, reduceCtorEq, z0'', z1, z2, hee, undefV]
  refine ⟨?_, ?_, ?_⟩
  · simp only [List.not_mem_nil, or_false, false_or, and_false, false_implies, implies_true, not_false_eq_true, List.mem_cons, and_true, true_and]
    all_goals (try and_intros)
    all_goals (intros; omega)
  · and_intros
    all_goals (intros; first | omega | exact (by assumption : False).elim)
  refine ⟨u.withX X1, SX, SD, rx, rd, qb, hb, fb, pb, hk, rfl, (p4.keep (by simp) fun b hb hl => w_set_ne (by omega) ?_ _).mk' rfl rfl, (fun s => by have := few s; exact Nat.le_succ_of_le this), q1.same⟩
  rcases hb with hb | hb | hb
  · have := sxl b hb; omega
  · have := (p.sd b hb).2.1; omega
  · have := hlt b (withX_foot q1.same.1 hb); omega
set_option maxHeartbeats 4000000 in
theorem do_give {K : Nat} {P : Set'} {h : Heap} {W SX SD : Set'} {u : UU} {rx rd qb hb fb pb : Nat} {hk : Nat → Nat} (p : PX P h u u.X u.D SX SD rx rd qb hb fb pb hk) (few : ∀ s, (u.D.pe s).length ≤ K) (hW : ∀ b, P b → W b) {a b c : Int} (hb2 : b ≤ 9223372036854775807) (hc2 : c ≤ 9223372036854775807) (d kv : V) (hd1 : d.one = true) (hk1 : kv.one = true) :
    SF ⟨Try.prog, true⟩ 22 [.agg [.ptr (some (u.bx, 0)), .ptr (some (u.bd, 0)), .ptr (some (rx, 0))], .agg [.int .i64 2, .int .i64 a, .int .i64 b, .int .i64 c, d, kv]] h (fun _ => True) W (DoX P u.X K) := by
  refine SF.go hm Try.func22 ir22_eq ?_
  obtain ⟨h2, e2, n2, ⟨s0, x0, x1, xr, x2, x3, x4⟩, ⟨s1, y0, y1, y2, y3, y4, y5, y6, y7⟩, ⟨s2, z0, z1, z2⟩, k2⟩ := stDo h (.ptr (some (u.bx, 0))) (.ptr (some (u.bd, 0))) (.ptr (some (rx, 0))) 2 a b c d kv
  have p2 := p.old (by omega) k2
  have hW2 : ∀ b, P b → (h.n ≤ b ∨ W b) := fun b hb => .inr (hW b hb)
  have hlt := p.au.lt
  have sxl : ∀ b, SX b → b < h.n := fun b hb => (p.sx b hb).2.1
  have hee : ∀ e : Int, (e == e) = true := fun e => by simp
  simp -implicitDefEqProofs (disch := (first | omega | (simp -implicitDefEqProofs only [szs, ne_eq] <;> omega) | fail)) only [go_sem, Nat.reduceAdd, Nat.reduceSub, Nat.reduceLT, Nat.reduceMod, Nat.reduceDiv, ↓reduceIte, reduceCtorEq, ir22, e2, x0, x1, x2, x3, x4, y0, y1, y2, y3, y4, y5]
  refine GCallD.of (R' := fun _ => True) (W' := u.foot) (((ugive_any p2.au a hc2 hb2).kept).foot (fun _ _ => trivial) (fun b hb => hb)) ?_
  rintro v g1 ⟨⟨X1, q1, hu1⟩, vf1⟩
  have n1 := vf1.n
  have p3 := p2.prog vf1 hu1 (fun b hb => .inl (withX_foot q1.same.1 hb))
  have kf : ∀ b, h.n ≤ b → b < h2.n → g1.get b = h2.get b := fun b hb hl => vf1.get b hl fun hf => by have := hlt b hf; omega
  have x0' := (kf h.n (by omega) (by omega)).trans x0
  have y0' := (kf (h.n + 1) (by omega) (by omega)).trans y0
  obtain ⟨i1, rfl⟩ := q1.shape
  simp -implicitDefEqProofs (disch := (first | omega | (simp -implicitDefEqProofs only [szs, ne_eq] <;> omega) | fail)) only [go_sem, Nat.reduceAdd, Nat.reduceSub, Nat.reduceLT, Nat.reduceMod, Nat.reduceDiv, ↓reduceIte, reduceCtorEq]
  refine GCallD.of (R' := fun _ => True) (W' := fun _ => False) (num_ok _) ?_
  rintro v g1 ⟨rfl, rfl⟩
  simp -implicitDefEqProofs (disch := (first | omega | (simp -implicitDefEqProofs only [szs, ne_eq] <;> omega) | fail)) only [go_sem, Nat.reduceAdd, Nat.reduceSub, Nat.reduceLT, Nat.reduceMod, Nat.reduceDiv, ↓reduceIte, reduceCtorEq, x0', x1, x4, y0', y1, y3, y4, y5]
  refine GCallD.of (R' := fun _ => True) (W' := SX) (((rgive_any p3.rx a hc2 hb2).kept).foot (fun _ _ => trivial) (fun b hb => hb)) ?_
  rintro v g2 ⟨⟨X2, q2, hx2⟩, vf2⟩
  have n3 := vf2.n
  obtain ⟨rfl, rfl⟩ := q1.uniq q2
  obtain ⟨t1, t2, t3⟩ := q1.same
  have p4 := p3.docX vf2 hx2 t1 t2 t3
  have kf2 : ∀ b, h.n ≤ b → b < g1.n → g2.get b = g1.get b := fun b hb hl => vf2.get b hl fun hf => by have := sxl b hf; omega
  have z0'' := (kf2 (h.n + 2) (by omega) (by omega)).trans ((kf (h.n + 2) (by omega) (by omega)).trans z0)
  simp -implicitDefEqProofs (disch := (first | omega | (simp -implicitDefEqProofs only [szs, ne_eq] <;> omega) | fail)) only [go_sem, Nat.reduceAdd, Nat.reduceSub, Nat.reduceLT, Nat.reduceMod, Nat.reduceDiv, ↓reduceIte, reduceCtorEq, z0'', z1, z2, hee, undefV]
  refine ⟨?_, ?_, ?_⟩
  · (try simp only [List.not_mem_nil, or_false, false_or, and_false, false_implies, implies_true, not_false_eq_true, List.mem_cons, and_true, true_and]; try and_intros; all_goals (try trivial); all_goals (intro b hb; first | omega | (intro hc; first | omega | (have := hlt _ hb.2; omega) | (have := sxl _ hb.2; omega) | (rcases hb with hb | hb <;> first | omega | (have := hlt _ hb.2; omega) | (have := sxl _ hb.2; omega)))))
  · and_intros
    all_goals (intros; first | omega | exact (by assumption : False).elim | exact hW2 _ (p2.fu _ (by assumption)) | exact hW2 _ (p2.sx _ (by assumption)).1)
  refine ⟨u.withX X1, SX, SD, rx, rd, qb, hb, fb, pb, hk, rfl, (p4.keep (by simp) fun b hb hl => w_set_ne (by omega) ?_ _).mk' rfl rfl, (fun s => by have := few s; exact Nat.le_succ_of_le this), q1.same⟩
  rcases hb with hb | hb | hb
  · have := sxl b hb; omega
  · have := (p.sd b hb).2.1; omega
  · have := hlt b (withX_foot q1.same.1 hb); omega
set_option maxHeartbeats 4000000 in
theorem do_flush {K : Nat} {P : Set'} {h : Heap} {W SX SD : Set'} {u : UU} {rx rd qb hb fb pb : Nat} {hk : Nat → Nat} (p : PX P h u u.X u.D SX SD rx rd qb hb fb pb hk) (few : ∀ s, (u.D.pe s).length ≤ K) (hW : ∀ b, P b → W b) {a b c : Int} (d kv : V) (hd1 : d.one = true) (hk1 : kv.one = true) :
    SF ⟨Try.prog, true⟩ 22 [.agg [.ptr (some (u.bx, 0)), .ptr (some (u.bd, 0)), .ptr (some (rx, 0))], .agg [.int .i64 4, .int .i64 a, .int .i64 b, .int .i64 c, d, kv]] h (fun _ => True) W (DoX P u.X K) := by
  refine SF.go hm Try.func22 ir22_eq ?_
  obtain ⟨h2, e2, n2, ⟨s0, x0, x1, xr, x2, x3, x4⟩, ⟨s1, y0, y1, y2, y3, y4, y5, y6, y7⟩, ⟨s2, z0, z1, z2⟩, k2⟩ := stDo h (.ptr (some (u.bx, 0))) (.ptr (some (u.bd, 0))) (.ptr (some (rx, 0))) 4 a b c d kv
  have p2 := p.old (by omega) k2
  have hW2 : ∀ b, P b → (h.n ≤ b ∨ W b) := fun b hb => .inr (hW b hb)
  have hlt := p.au.lt
  have sdl : ∀ b, SD b → b < h.n := fun b hb => (p.sd b hb).2.1
  have hee : ∀ e : Int, (e == e) = true := fun e => by simp
  simp -implicitDefEqProofs (disch := (first | omega | (simp -implicitDefEqProofs only [szs, ne_eq] <;> omega) | fail)) only [go_sem, Nat.reduceAdd, Nat.reduceSub, Nat.reduceLT, Nat.reduceMod, Nat.reduceDiv, ↓reduceIte, reduceCtorEq, ir22, e2, x0, x1, x2, x3, x4, y0, y1, y2, y3]
  refine GCallD.of (R' := fun _ => True) (W' := u.foot) (((uflush_any p2.au a).kept).foot (fun _ _ => trivial) (fun b hb => hb)) ?_
  rintro v g1 ⟨⟨u1, q1, hu1, w1, w2, w3, w4⟩, vf1⟩
  have n1 := vf1.n
  have p3 := p2.prog vf1 hu1 w4
  have kf : ∀ b, h.n ≤ b → b < h2.n → g1.get b = h2.get b := fun b hb hl => vf1.get b hl fun hf => by have := hlt b hf; omega
  have x0' := (kf h.n (by omega) (by omega)).trans x0
  have y0' := (kf (h.n + 1) (by omega) (by omega)).trans y0
  obtain ⟨i1, rfl⟩ := q1.shape
  simp -implicitDefEqProofs (disch := (first | omega | (simp -implicitDefEqProofs only [szs, ne_eq] <;> omega) | fail)) only [go_sem, Nat.reduceAdd, Nat.reduceSub, Nat.reduceLT, Nat.reduceMod, Nat.reduceDiv, ↓reduceIte, reduceCtorEq]
  refine GCallD.of (R' := fun _ => True) (W' := fun _ => False) (num_ok _) ?_
  rintro v g1 ⟨rfl, rfl⟩
  simp -implicitDefEqProofs (disch := (first | omega | (simp -implicitDefEqProofs only [szs, ne_eq] <;> omega) | fail)) only [go_sem, Nat.reduceAdd, Nat.reduceSub, Nat.reduceLT, Nat.reduceMod, Nat.reduceDiv, ↓reduceIte, reduceCtorEq, x0', x1, x4, y0', y1, y3]
  refine GCallD.of (R' := fun _ => True) (W' := SD) (((rxflush_any p3.rx p3.rd p3.fit a).kept).foot (fun _ _ => trivial) (fun b hb => hb)) ?_
  rintro v g2 ⟨⟨D2, q2, hd2⟩, vf2⟩
  have n3 := vf2.n
  obtain ⟨rfl, rfl⟩ := q1.uniq q2
  have t1 := q1.n
  have p4 := p3.docD vf2 hd2 t1.1
  have kf2 : ∀ b, h.n ≤ b → b < g1.n → g2.get b = g1.get b := fun b hb hl => vf2.get b hl fun hf => by have := sdl b hf; omega
  have z0'' := (kf2 (h.n + 2) (by omega) (by omega)).trans ((kf (h.n + 2) (by omega) (by omega)).trans z0)
  simp -implicitDefEqProofs (disch := (first | omega | (simp -implicitDefEqProofs only [szs, ne_eq] <;> omega) | fail)) only [go_sem, Nat.reduceAdd, Nat.reduceSub, Nat.reduceLT, Nat.reduceMod, Nat.reduceDiv, ↓reduceIte, reduceCtorEq, z0'', z1, z2, hee, undefV]
  refine ⟨?_, ?_, ?_⟩
  · (try simp only [List.not_mem_nil, or_false, false_or, and_false, false_implies, implies_true, not_false_eq_true, List.mem_cons, and_true, true_and]; try and_intros; all_goals (try trivial); all_goals (intro b hb; first | omega | (intro hc; first | omega | (have := hlt _ hb.2; omega) | (have := sdl _ hb.2; omega) | (rcases hb with hb | hb <;> first | omega | (have := hlt _ hb.2; omega) | (have := sdl _ hb.2; omega)))))
  · and_intros
    all_goals (intros; first | omega | exact (by assumption : False).elim | exact hW2 _ (p2.fu _ (by assumption)) | exact hW2 _ (p2.sd _ (by assumption)).1)
  refine ⟨u1, SX, _, rx, rd, qb, hb, fb, pb, hk, by rw [w2, w3], (p4.keep (by simp) fun b hb hl => w_set_ne (by omega) ?_ _).mk' w1 rfl, (fun s => by have := few s; have := t1.2 s; omega), by rw [w1]; exact ⟨rfl, rfl, rfl⟩⟩
  rcases hb with hb | hb | hb
  · have := (p.sx b hb).2.1; omega
  · rcases hb with hb | hb
    · have := sdl b hb; omega
    · omega
  · rcases w4 b hb with hb | hb
    · have := hlt b hb; omega
    · omega
set_option maxHeartbeats 4000000 in
theorem do_other {K : Nat} {P : Set'} {h : Heap} {W SX SD : Set'} {u : UU} {rx rd qb hb fb pb : Nat} {hk : Nat → Nat} (p : PX P h u u.X u.D SX SD rx rd qb hb fb pb hk) (few : ∀ s, (u.D.pe s).length ≤ K) (hW : ∀ b, P b → W b) {kd a b c : Int} (hk' : kd ≠ 1 ∧ kd ≠ 2 ∧ kd ≠ 3 ∧ kd ≠ 4 ∧ kd ≠ 5 ∧ kd ≠ 6 ∧ kd ≠ 7) (d kv : V) (hd1 : d.one = true) (hk1 : kv.one = true) :
    SF ⟨Try.prog, true⟩ 22 [.agg [.ptr (some (u.bx, 0)), .ptr (some (u.bd, 0)), .ptr (some (rx, 0))], .agg [.int .i64 kd, .int .i64 a, .int .i64 b, .int .i64 c, d, kv]] h (fun _ => True) W (DoX P u.X K) := by
  refine SF.go hm Try.func22 ir22_eq ?_
  obtain ⟨h2, e2, n2, ⟨s0, x0, x1, xr, x2, x3, x4⟩, ⟨s1, y0, y1, y2, y3, y4, y5, y6, y7⟩, ⟨s2, z0, z1, z2⟩, k2⟩ := stDo h (.ptr (some (u.bx, 0))) (.ptr (some (u.bd, 0))) (.ptr (some (rx, 0))) kd a b c d kv
  have p2 := p.old (by omega) k2
  have hlt := p.au.lt
  obtain ⟨c1, c2, c3, c4, c5, c6, c7⟩ := hk'
  simp -implicitDefEqProofs (disch := (first | omega | (simp -implicitDefEqProofs only [szs, ne_eq] <;> omega) | fail)) only [go_sem, Nat.reduceAdd, Nat.reduceSub, Nat.reduceLT, Nat.reduceMod, Nat.reduceDiv, ↓reduceIte, reduceCtorEq, ir22, e2, x0, x1, x2, x3, x4, y0, y1, y2, z0, z1, z2, undefV]
  refine ⟨.inl (by omega), u, SX, SD, rx, rd, qb, hb, fb, pb, hk, rfl, p2.keep (by simp) fun b hb hl => w_set_ne (by omega) ?_ _, (fun s => by have := few s; omega), rfl, rfl, rfl⟩
  rcases hb with hb | hb | hb
  · have := (p.sx b hb).2.1; omega
  · have := (p.sd b hb).2.1; omega
  · have := hlt b hb; omega
end Go.Proofs.Ythdkhbhicimpdaa
