/- do: Read and Keeps. -/
import Derived.Test.YthdkhbhicimpdaaFE
set_option linter.unusedVariables false
set_option maxRecDepth 100000
namespace Go.Proofs.Ythdkhbhicimpdaa
open Go Go.Vm
attribute [-go_sem] sz_113
def KpQ (X : XS) (a : Int) (m : Nat) (ks : Nat → Int) (n f : Nat) (e : Int) : Prop := (¬ ((0 ≤ a ∧ a < X.n) ∧ keepOk (X.count a.toNat) ks m) ∧ n = 0 ∧ f = 0 ∧ e = 2) ∨ (((0 ≤ a ∧ a < X.n) ∧ keepOk (X.count a.toNat) ks m) ∧ n = m ∧ f = X.first a.toNat ∧ e = 0)
theorem KpQ.uniq {X : XS} {a : Int} {m : Nat} {ks : Nat → Int} {n f n' f' : Nat} {e e' : Int} (h : KpQ X a m ks n f e) (h' : KpQ X a m ks n' f' e') : n = n' ∧ f = f' ∧ e = e' := by
  rcases h with ⟨h1, rfl, rfl, rfl⟩ | ⟨h1, rfl, rfl, rfl⟩ <;> rcases h' with ⟨g1, rfl, rfl, rfl⟩ | ⟨g1, rfl, rfl, rfl⟩ <;> first | exact ⟨rfl, rfl, rfl⟩ | exact absurd h1 g1 | exact absurd g1 h1
theorem KeepsQ.kp {h h' : Heap} {X : XS} {i m : Nat} {ks kw : Nat → Int} {r : V} (hi : i < X.n) (hq : KeepsQ h h' (X.first i) (X.count i) m ks kw r) : (∃ w n f e, r = .tuple [w, .int .i64 e] ∧ KpQ X i m ks n f e ∧ n ≤ m ∧ OwnS 2 h.n h' w n (keepF f ks kw n) 125) ∧ ∀ b, b < h.n → h'.get b = h.get b := by
  obtain ⟨h1, h2, ⟨h3, rfl⟩ | ⟨h3, v, rfl, h4⟩⟩ := hq
  · exact ⟨⟨_, 0, 0, _, rfl, .inl ⟨fun hh => h3 (by simpa using hh.2), rfl, rfl, rfl⟩, Nat.zero_le _, OwnS.nil _ _ _ _⟩, h2⟩
  · exact ⟨⟨_, m, X.first i, _, rfl, .inr ⟨⟨by omega, by simpa using h3⟩, rfl, by simp, rfl⟩, Nat.le_refl _, h4⟩, h2⟩
theorem ukeeps_any {h : Heap} {Rk : Set'} {bx bd : Nat} {tb : Nat → Nat} {X : XS} (hx : ExtAt h bx bd tb X) (a : Int) {w : V} {m : Nat} {ks kw : Nat → Int} (hv : KeepV h Rk w m ks kw) (hm8 : m ≤ 10000000) :
    SF Try.prog 47 [.ptr (some (bx, 0)), .int .i64 a, w] h (fun _ => True) (fun _ => False) fun r h' => (∃ w n f e, r = .tuple [w, .int .i64 e] ∧ KpQ X a m ks n f e ∧ n ≤ m ∧ OwnS 2 h.n h' w n (keepF f ks kw n) 125) ∧ ∀ b, b < h.n → h'.get b = h.get b := by
  by_cases ha : 0 ≤ a ∧ a < X.n
  · obtain ⟨i, rfl⟩ := Int.eq_ofNat_of_zero_le ha.1
    have hi : i < X.n := by omega
    exact (xkeeps_ok hx (fun _ => trivial) hi hv hm8).mono fun r h' hq => KeepsQ.kp hi hq
  · refine (xkeeps_bad hx (fun _ => trivial) ha w).mono ?_
    rintro r h' ⟨rfl, rfl⟩
    exact ⟨⟨_, 0, 0, _, rfl, .inl ⟨fun hh => ha hh.1, rfl, rfl, rfl⟩, Nat.zero_le _, OwnS.nil _ _ _ _⟩, fun _ _ => rfl⟩
theorem rkeeps_any {h : Heap} {SX Rk : Set'} {rx rd qb hb : Nat} {hk : Nat → Nat} {X : XS} (hr : RExt h SX rx rd qb hb hk X) (a : Int) {w : V} {m : Nat} {ks kw : Nat → Int} (hv : KeepV h Rk w m ks kw) (hm8 : m ≤ 10000000) :
    SF Try.prog 54 [.ptr (some (rx, 0)), .int .i64 a, w] h (fun _ => True) (fun _ => False) fun r h' => (∃ w n f e, r = .tuple [w, .int .i64 e] ∧ KpQ X a m ks n f e ∧ n ≤ m ∧ OwnS 2 h.n h' w n (keepF f ks kw n) 125) ∧ ∀ b, b < h.n → h'.get b = h.get b := by
  by_cases ha : 0 ≤ a ∧ a < X.n
  · obtain ⟨i, rfl⟩ := Int.eq_ofNat_of_zero_le ha.1
    have hi : i < X.n := by omega
    exact (rkeeps_ok hr (fun _ => trivial) hi hv hm8).mono fun r h' hq => KeepsQ.kp hi hq
  · refine (rkeeps_bad hr (fun _ => trivial) ha w).mono ?_
    rintro r h' ⟨rfl, rfl⟩
    exact ⟨⟨_, 0, 0, _, rfl, .inl ⟨fun hh => ha hh.1, rfl, rfl, rfl⟩, Nat.zero_le _, OwnS.nil _ _ _ _⟩, fun _ _ => rfl⟩
set_option maxHeartbeats 4000000 in
theorem do_keeps {K : Nat} {P : Set'} {h : Heap} {W SX SD : Set'} {u : UU} {rx rd qb hb fb pb : Nat} {hk : Nat → Nat} (p : PX P h u u.X u.D SX SD rx rd qb hb fb pb hk) (few : ∀ s, (u.D.pe s).length ≤ K) (hW : ∀ b, P b → W b) {a b c : Int} (d kv : V) (hd1 : d.one = true) {mk : Nat} {ks kw : Nat → Int} (hkv : KeepV h (fun _ => True) kv mk ks kw) (hmk : mk ≤ 10000000) :
    SF ⟨Try.prog, true⟩ 22 [.agg [.ptr (some (u.bx, 0)), .ptr (some (u.bd, 0)), .ptr (some (rx, 0))], .agg [.int .i64 6, .int .i64 a, .int .i64 b, .int .i64 c, d, kv]] h (fun _ => True) W (DoX P u.X K) := by
  have hk1 := hkv.one
  refine SF.go hm Try.func22 ir22_eq ?_
  obtain ⟨h2, e2, n2, ⟨s0, x0, x1, xr, x2, x3, x4⟩, ⟨s1, y0, y1, y2, y3, y4, y5, y6, y7⟩, ⟨s2, z0, z1, z2⟩, k2⟩ := stDo h (.ptr (some (u.bx, 0))) (.ptr (some (u.bd, 0))) (.ptr (some (rx, 0))) 6 a b c d kv
  have p2 := p.old (by omega) k2
  have hkv2 := hkv.old k2
  have hlt := p.au.lt
  have hee : ∀ e : Int, (e == e) = true := fun e => by simp
  simp -implicitDefEqProofs (disch := (first | omega | (simp -implicitDefEqProofs only [szs, ne_eq] <;> omega) | fail)) only [go_sem, Nat.reduceAdd, Nat.reduceSub, Nat.reduceLT, Nat.reduceMod, Nat.reduceDiv, ↓reduceIte, reduceCtorEq, ir22, e2, x0, x1, x2, y0, y1, y2, y3, y7]
  refine GCall.of (((ukeeps_any p2.au.x a hkv2 hmk).any.kept).foot (fun _ _ => trivial) (fun b hb => hb.elim)) ?_
  rintro v g1 ⟨⟨⟨w1, m1, f1, e1, rfl, q1, l1, o1⟩, kk1⟩, vf1⟩
  have n1 := vf1.n
  have p3 := p2.old n1 kk1
  have hkv3 := hkv2.old kk1
  have x0' := (kk1 h.n (by omega)).trans x0
  have y0' := (kk1 (h.n + 1) (by omega)).trans y0
  have ow1 : w1.one = true := o1.lr.one
  simp -implicitDefEqProofs (disch := (first | omega | (simp -implicitDefEqProofs only [szs, ne_eq] <;> omega) | fail)) only [go_sem, Nat.reduceAdd, Nat.reduceSub, Nat.reduceLT, Nat.reduceMod, Nat.reduceDiv, ↓reduceIte, reduceCtorEq, x0', x1, x4, y0', y1, y3, y7]
  refine GCall.of (((rkeeps_any p3.rx a hkv3 hmk).any.kept).foot (fun _ _ => trivial) (fun b hb => hb.elim)) ?_
  rintro v g2 ⟨⟨⟨w2, m2, f2, e2', rfl, q2, l2, o2⟩, kk2⟩, vf2⟩
  have n3 := vf2.n
  obtain ⟨rfl, rfl, rfl⟩ := q1.uniq q2
  have p4 := p3.old n3 kk2
  have o1' := o1.old kk2
  have x0'' := (kk2 h.n (by omega)).trans x0'
  have z0'' := (kk2 (h.n + 2) (by omega)).trans ((kk1 (h.n + 2) (by omega)).trans z0)
  have ow2 : w2.one = true := o2.lr.one
  simp -implicitDefEqProofs (disch := (first | omega | (simp -implicitDefEqProofs only [szs, ne_eq] <;> omega) | fail)) only [go_sem, Nat.reduceAdd, Nat.reduceSub, Nat.reduceLT, Nat.reduceMod, Nat.reduceDiv, ↓reduceIte, reduceCtorEq, x0'', x1, x2, x3, x4]
  refine GCallD.of (R' := fun _ => True) (W' := fun _ => False) (keeps_ok o1' o2 (fun _ => trivial) (by omega)) ?_
  rintro v g2 ⟨rfl, rfl⟩
  simp -implicitDefEqProofs (disch := (first | omega | (simp -implicitDefEqProofs only [szs, ne_eq] <;> omega) | fail)) only [go_sem, Nat.reduceAdd, Nat.reduceSub, Nat.reduceLT, Nat.reduceMod, Nat.reduceDiv, ↓reduceIte, reduceCtorEq]
  refine GCallD.of (R' := fun _ => True) (W' := fun _ => False) (num_ok _) ?_
  rintro v g2 ⟨rfl, rfl⟩
  simp -implicitDefEqProofs (disch := (first | omega | (simp -implicitDefEqProofs only [szs, ne_eq] <;> omega) | fail)) only [go_sem, Nat.reduceAdd, Nat.reduceSub, Nat.reduceLT, Nat.reduceMod, Nat.reduceDiv, ↓reduceIte, reduceCtorEq, z0'', z1, z2, hee, undefV]
  refine ⟨?_, ?_, ?_⟩
  · (try simp only [List.not_mem_nil, or_false, false_or, and_false, false_implies, implies_true, not_false_eq_true, List.mem_cons, and_true, true_and]; try and_intros; all_goals (try trivial); all_goals (intro b hb; first | omega | (intro hc; first | omega | (have := hlt _ hb.2; omega) | (rcases hb with hb | hb <;> first | omega | (have := hlt _ hb.2; omega)))))
  · and_intros
    all_goals (intros; first | omega | exact (by assumption : False).elim)
  refine ⟨u, SX, SD, rx, rd, qb, hb, fb, pb, hk, rfl, p4.keep (by simp) fun b hb hl => w_set_ne (by omega) ?_ _, (fun s => by have := few s; omega), rfl, rfl, rfl⟩
  rcases hb with hb | hb | hb
  · have := (p.sx b hb).2.1; omega
  · have := (p.sd b hb).2.1; omega
  · have := hlt b hb; omega
set_option maxHeartbeats 4000000 in
theorem do_read {K : Nat} {P : Set'} {h : Heap} {W SX SD : Set'} {u : UU} {rx rd qb hb fb pb : Nat} {hk : Nat → Nat} (p : PX P h u u.X u.D SX SD rx rd qb hb fb pb hk) (few : ∀ s, (u.D.pe s).length ≤ K) (hW : ∀ b, P b → W b) {a b c : Int} (d kv : V) (hd1 : d.one = true) (hk1 : kv.one = true) :
    SF ⟨Try.prog, true⟩ 22 [.agg [.ptr (some (u.bx, 0)), .ptr (some (u.bd, 0)), .ptr (some (rx, 0))], .agg [.int .i64 5, .int .i64 a, .int .i64 b, .int .i64 c, d, kv]] h (fun _ => True) W (DoX P u.X K) := by
  refine SF.go hm Try.func22 ir22_eq ?_
  obtain ⟨h2, e2, n2, ⟨s0, x0, x1, xr, x2, x3, x4⟩, ⟨s1, y0, y1, y2, y3, y4, y5, y6, y7⟩, ⟨s2, z0, z1, z2⟩, k2⟩ := stDo h (.ptr (some (u.bx, 0))) (.ptr (some (u.bd, 0))) (.ptr (some (rx, 0))) 5 a b c d kv
  have p2 := p.old (by omega) k2
  have hlt := p.au.lt
  have hee : ∀ e : Int, (e == e) = true := fun e => by simp
  simp -implicitDefEqProofs (disch := (first | omega | (simp -implicitDefEqProofs only [szs, ne_eq] <;> omega) | fail)) only [go_sem, Nat.reduceAdd, Nat.reduceSub, Nat.reduceLT, Nat.reduceMod, Nat.reduceDiv, ↓reduceIte, reduceCtorEq, ir22, e2, x0, x1, x2, y0, y1, y2, y3, y4]
  refine GCall.of (((uread_any p2.au p2.fit a b).any.kept).foot (fun _ _ => trivial) (fun b hb => hb.elim)) ?_
  rintro v g1 ⟨⟨w1, l1, e1, rfl, q1, lr1, by1, kk1⟩, vf1⟩
  have n1 := vf1.n
  have p3 := p2.old n1 kk1
  have x0' := (kk1 h.n (by omega)).trans x0
  have y0' := (kk1 (h.n + 1) (by omega)).trans y0
  have ow1 : w1.one = true := lr1.one
  simp -implicitDefEqProofs (disch := (first | omega | (simp -implicitDefEqProofs only [szs, ne_eq] <;> omega) | fail)) only [go_sem, Nat.reduceAdd, Nat.reduceSub, Nat.reduceLT, Nat.reduceMod, Nat.reduceDiv, ↓reduceIte, reduceCtorEq, x0', x1, x4, y0', y1, y3, y4]
  refine GCall.of (((rread_any p3.rx p3.rd.at p3.fit (fun s hs => p2.au.d.seen hs) a b).any.kept).foot (fun _ _ => trivial) (fun b hb => hb.elim)) ?_
  rintro v g1 ⟨⟨⟨w2, l2, e2', rfl, q2, lr2, by2⟩, rfl⟩, _⟩
  obtain ⟨rfl, rfl⟩ := q1.uniq q2
  have z0'' := (kk1 (h.n + 2) (by omega)).trans z0
  have ow2 : w2.one = true := lr2.one
  obtain ⟨rs1, hrs1, c1'⟩ := conv_lr lr1 by1
  have c1 := c1' g1 (fun _ _ _ => rfl)
  obtain ⟨rs2, hrs2, c2'⟩ := conv_lr lr2 by2
  have c2 := c2' g1 (fun _ _ _ => rfl)
  simp -implicitDefEqProofs (disch := (first | omega | (simp -implicitDefEqProofs only [szs, ne_eq] <;> omega) | fail)) only [go_sem, Nat.reduceAdd, Nat.reduceSub, Nat.reduceLT, Nat.reduceMod, Nat.reduceDiv, ↓reduceIte, reduceCtorEq, x0', x1, x2, x3, x4, ↓cv_opD, c1, c2, sb_eql]
  refine GCallD.of (R' := fun _ => True) (W' := fun _ => False) (num_ok _) ?_
  rintro v g2 ⟨rfl, rfl⟩
  simp -implicitDefEqProofs (disch := (first | omega | (simp -implicitDefEqProofs only [szs, ne_eq] <;> omega) | fail)) only [go_sem, Nat.reduceAdd, Nat.reduceSub, Nat.reduceLT, Nat.reduceMod, Nat.reduceDiv, ↓reduceIte, reduceCtorEq, z0'', z1, z2, hee, undefV]
  refine ⟨?_, ?_, ?_⟩
  · (try simp only [List.not_mem_nil, or_false, false_or, and_false, false_implies, implies_true, not_false_eq_true, List.mem_cons, and_true, true_and]; try and_intros; all_goals (try trivial); all_goals (intro b hb; first | omega | (intro hc; first | omega | (have := hlt _ hb.2; omega) | (rcases hb with hb | hb <;> first | omega | (have := hlt _ hb.2; omega)))))
  · and_intros
    all_goals (intros; first | omega | exact (by assumption : False).elim | trivial)
  refine ⟨u, SX, SD, rx, rd, qb, hb, fb, pb, hk, rfl, p3.keep (by simp) fun b hb hl => w_set_ne (by omega) ?_ _, (fun s => by have := few s; omega), rfl, rfl, rfl⟩
  rcases hb with hb | hb | hb
  · have := (p.sx b hb).2.1; omega
  · have := (p.sd b hb).2.1; omega
  · have := hlt b hb; omega
end Go.Proofs.Ythdkhbhicimpdaa
