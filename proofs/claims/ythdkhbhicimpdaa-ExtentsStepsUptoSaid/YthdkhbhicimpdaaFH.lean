/- ExtentsSteps: the law. -/
import Derived.Test.YthdkhbhicimpdaaFG
import Derived.Test.YthdkhbhicimpdaaEC
set_option linter.unusedVariables false
set_option maxRecDepth 100000
namespace Go.Proofs.Ythdkhbhicimpdaa
open Go Go.Vm
attribute [-go_sem] sz_113
structure StepsU (h : Heap) (v : V) (m : Nat) : Prop where
  len : m ≤ 9223372036854775807
  at' : (m = 0 ∧ (v = .slice none 0 0 true ∨ ∃ a, v = .esl a)) ∨ ∃ b o cap c ce, v = .slice (some (b, o)) m cap true ∧ h.get b = some (.cells c ce) ∧ o + m * 6 ≤ c.size ∧ ∀ i, i < m → ∃ kd n1 n2 n3 d l kv mk ks kw, c.get (o + i * 6) = .int .i64 kd ∧ c.get (o + i * 6 + 1) = .int .i64 n1 ∧ c.get (o + i * 6 + 2) = .int .i64 n2 ∧ c.get (o + i * 6 + 3) = .int .i64 n3 ∧ c.get (o + i * 6 + 4) = d ∧ c.get (o + i * 6 + 5) = kv ∧ (BytesV h (fun b => b < h.n) d l ∧ l.length ≤ 100000000) ∧ (KeepV h (fun b => b < h.n) kv mk ks kw ∧ mk ≤ 10000000) ∧ (i64B n1 ∧ i64B n2 ∧ i64B n3)
theorem BytesV.mono {h : Heap} {R R' : Set'} {v : V} {l : List V} (hv : BytesV h R v l) (hk : ∀ b, R b → R' b) : BytesV h R' v l :=
  ⟨hv.1, hv.2.1, hv.2.2.imp id fun ⟨b, o, cap, ex, c, ce, e, hR, r⟩ => ⟨b, o, cap, ex, c, ce, e, hk b hR, r⟩⟩
theorem KeepV.mono {h : Heap} {R R' : Set'} {v : V} {m : Nat} {ks kw : Nat → Int} (hv : KeepV h R v m ks kw) (hk : ∀ b, R b → R' b) : KeepV h R' v m ks kw :=
  ⟨hv.1, hv.2.imp id fun ⟨b, o, cap, ex, c, ce, e, hR, r⟩ => ⟨b, o, cap, ex, c, ce, e, hk b hR, r⟩⟩
theorem StepsU.v {h : Heap} {v : V} {m : Nat} (hv : StepsU h v m) : StepsV h v m := by
  refine ⟨hv.len, hv.at'.imp id ?_⟩
  rintro ⟨b, o, cap, c, ce, e, hb, hs, hc⟩
  refine ⟨b, o, cap, c, ce, e, hb, hs, fun i hi => ?_⟩
  obtain ⟨kd, n1, n2, n3, d, l, kv, mk, ks, kw, e0, e1, e2, e3, e4, e5, e6, e7, e8⟩ := hc i hi
  exact ⟨kd, n1, n2, n3, d, kv, e0, e1, e2, e3, e4, e5, ⟨⟨l, e6.1.mono fun _ _ => trivial⟩, ⟨mk, ks, kw, e7.1.mono fun _ _ => trivial⟩, e8⟩⟩
theorem PX.box {P : Set'} {h h2 : Heap} {u : UU} {X : XS} {D : DS} {SX SD : Set'} {rx rd qb hb fb pb : Nat} {hk : Nat → Nat} (z : PX P h u X D SX SD rx rd qb hb fb pb hk) (hn : h2.n = h.n + 1) (kk : ∀ b, b < h.n → h2.get b = h.get b) : PX (fun b => P b ∧ b ≠ h.n) h2 u X D SX SD rx rd qb hb fb pb hk :=
  ⟨z.au.old kk, z.rx.old kk, z.rd.old kk, fun b hb => by obtain ⟨a, b1, c⟩ := z.sx b hb; exact ⟨⟨a, by omega⟩, by omega, c⟩, fun b hb => by obtain ⟨a, b1, c⟩ := z.sd b hb; exact ⟨⟨a, by omega⟩, by omega, c⟩, fun b hb => ⟨z.fu b hb, by have := z.au.lt b hb; omega⟩, z.fit, fun b hb => ⟨z.up b (by omega), by omega⟩⟩
structure LI (H g : Heap) (x7 i : Nat) (X0 : XS) : Prop where
  st : ∃ (u : UU) (SX SD : Set') (rx rd qb hb fb pb : Nat) (hk : Nat → Nat) (cc : Blk), PX (fun b => H.n ≤ b ∧ b ≠ x7) g u u.X u.D SX SD rx rd qb hb fb pb hk ∧ g.get x7 = some (.cells cc 29) ∧ cc.size = 3 ∧ cc.ro = false ∧ cc.get 0 = .ptr (some (u.bx, 0)) ∧ cc.get 1 = .ptr (some (u.bd, 0)) ∧ cc.get 2 = .ptr (some (rx, 0)) ∧ (∀ s, (u.D.pe s).length ≤ i) ∧ u.X.n = X0.n ∧ u.X.first = X0.first ∧ u.X.count = X0.count
  hx : H.n ≤ x7
  old : ∀ b, b < H.n → g.get b = H.get b
set_option maxHeartbeats 4000000 in
theorem steps_law {H : Heap} {n : Int} {v w : V} {m ms : Nat} {q : Nat → Int} (hq : QI H v m q) (hv : StepsU H w ms) :
    SF ⟨Try.prog, true⟩ 7 [.int .i64 n, v, w] H (fun _ => True) (WN H) fun r _ => r = .bool true := by
  have hlen := hv.v.lenV
  have hlv := hq.lenV
  refine SF.go hm Try.func7 ir7_eq ?_
  simp -implicitDefEqProofs (disch := (first | omega | (simp -implicitDefEqProofs only [szs, ne_eq] <;> omega) | fail)) only [go_sem, Nat.reduceAdd, Nat.reduceSub, Nat.reduceLT, Nat.reduceMod, Nat.reduceDiv, ↓reduceIte, reduceCtorEq, ir7]
  refine GCall.of (much_ok (mq := m) (m := ms) hlv hq.len hv.v fun b => trivial).any ?_
  rintro r h' ⟨⟨b1, rfl, hb1⟩, rfl⟩
  cases b1 with
  | true =>
    simp -implicitDefEqProofs (disch := (first | omega | (simp -implicitDefEqProofs only [szs, ne_eq] <;> omega) | fail)) only [go_sem, Nat.reduceAdd, Nat.reduceSub, Nat.reduceLT, Nat.reduceMod, Nat.reduceDiv, ↓reduceIte, reduceCtorEq]
    refine GCall.of (known_ok _ _ _).any ?_
    rintro r h' ⟨rfl, rfl⟩
    simp -implicitDefEqProofs (disch := (first | omega | (simp -implicitDefEqProofs only [szs, ne_eq] <;> omega) | fail)) only [go_sem, Nat.reduceAdd, Nat.reduceSub, Nat.reduceLT, Nat.reduceMod, Nat.reduceDiv, ↓reduceIte, reduceCtorEq]
  | false =>
  obtain ⟨_, hm20⟩ := hb1 rfl
  simp -implicitDefEqProofs (disch := (first | omega | (simp -implicitDefEqProofs only [szs, ne_eq] <;> omega) | fail)) only [go_sem, Nat.reduceAdd, Nat.reduceSub, Nat.reduceLT, Nat.reduceMod, Nat.reduceDiv, ↓reduceIte, reduceCtorEq]
  refine GCall.of (begin_px hq hm20 fun b => trivial).any ?_
  rintro r g ⟨ng, kg, x, d, rr, rfl, hB⟩
  have hW : h'.n ≤ g.n ∨ WN h' g.n := .inl ng
  rcases hB with ⟨rfl, rfl, hd, _⟩ | hB
  · rcases hd with rfl | ⟨b, rfl⟩
    · simp -implicitDefEqProofs (disch := (first | omega | (simp -implicitDefEqProofs only [szs, ne_eq] <;> omega) | fail)) only [go_sem, Nat.reduceAdd, Nat.reduceSub, Nat.reduceLT, Nat.reduceMod, Nat.reduceDiv, ↓reduceIte, reduceCtorEq, undefV, Option.isNone_none, hW]
      refine GCall.of (known_ok _ _ _).any ?_
      rintro r h' ⟨rfl, rfl⟩
      simp -implicitDefEqProofs (disch := (first | omega | (simp -implicitDefEqProofs only [szs, ne_eq] <;> omega) | fail)) only [go_sem, Nat.reduceAdd, Nat.reduceSub, Nat.reduceLT, Nat.reduceMod, Nat.reduceDiv, ↓reduceIte, reduceCtorEq]
    · simp -implicitDefEqProofs (disch := (first | omega | (simp -implicitDefEqProofs only [szs, ne_eq] <;> omega) | fail)) only [go_sem, Nat.reduceAdd, Nat.reduceSub, Nat.reduceLT, Nat.reduceMod, Nat.reduceDiv, ↓reduceIte, reduceCtorEq, undefV, Option.isNone_none, hW]
      refine GCall.of (known_ok _ _ _).any ?_
      rintro r h' ⟨rfl, rfl⟩
      simp -implicitDefEqProofs (disch := (first | omega | (simp -implicitDefEqProofs only [szs, ne_eq] <;> omega) | fail)) only [go_sem, Nat.reduceAdd, Nat.reduceSub, Nat.reduceLT, Nat.reduceMod, Nat.reduceDiv, ↓reduceIte, reduceCtorEq]
  · obtain ⟨u, SX, SD, rx, rd, qb, hb, fb, pb, hk, rfl, rfl, rfl, p, hm', hn', hcq, hpe⟩ := hB
    obtain ⟨g1, eg1⟩ : ∃ g1, (g.push (.cells (Blk.of [.ptr none, .ptr none, .ptr none]) 29)).set g.n (.cells ((((Blk.of [.ptr none, .ptr none, .ptr none]).set 0 (.ptr (some (u.bx, 0)))).set 1 (.ptr (some (u.bd, 0)))).set 2 (.ptr (some (rx, 0)))) 29) = g1 := ⟨_, rfl⟩
    have n1 : g1.n = g.n + 1 := by rw [← eg1]; simp
    have k1 : ∀ b, b < g.n → g1.get b = g.get b := fun b hb => by rw [← eg1, w_set_ne (by simp) (by omega), w_push_ne (by omega)]
    have c1 : g1.get g.n = some (.cells ((((Blk.of [.ptr none, .ptr none, .ptr none]).set 0 (.ptr (some (u.bx, 0)))).set 1 (.ptr (some (u.bd, 0)))).set 2 (.ptr (some (rx, 0)))) 29) := by rw [← eg1, w_set_eq (by simp) rfl]
    simp -implicitDefEqProofs (disch := (first | omega | (simp -implicitDefEqProofs only [szs, ne_eq] <;> omega) | fail)) only [go_sem, Nat.reduceAdd, Nat.reduceSub, Nat.reduceLT, Nat.reduceMod, Nat.reduceDiv, ↓reduceIte, reduceCtorEq, undefV, hW, eg1, c1]
    have z0 : LI h' g1 g.n 0 u.X := ⟨⟨u, SX, SD, rx, rd, qb, hb, fb, pb, hk, _, p.box n1 k1, c1, rfl, rfl, rfl, rfl, rfl, (fun s => by rw [hpe s]; simp), rfl, rfl, rfl⟩, ng, fun b hb => by rw [k1 b (by omega)]; exact kg b hb⟩
    refine GLoop.inv hm (fun k f g2 => f.mks = [] ∧ f.tm.n = 65 ∧ f.tm.get 2 = some w ∧ f.tm.get 7 = some (.ptr (some (g.n, 0))) ∧ ∃ i : Nat, i + k = 60 ∧ f.tm.get 9 = some (.int .i64 i) ∧ LI h' g2 g.n i u.X) 60 ?_ ?_
    · exact ⟨rfl, rfl, by simp -implicitDefEqProofs (disch := (first | omega | (simp -implicitDefEqProofs only [szs, ne_eq] <;> omega) | fail)) only [go_sem, Nat.reduceSub, Nat.reduceMod, Nat.reduceDiv, ↓reduceIte, reduceCtorEq], by simp -implicitDefEqProofs (disch := (first | omega | (simp -implicitDefEqProofs only [szs, ne_eq] <;> omega) | fail)) only [go_sem, Nat.reduceMod, Nat.reduceDiv, ↓reduceIte, reduceCtorEq], 0, by omega, by simp -implicitDefEqProofs (disch := (first | omega | (simp -implicitDefEqProofs only [szs, ne_eq] <;> omega) | fail)) only [go_sem, Nat.reduceSub, Nat.reduceMod, Nat.reduceDiv, ↓reduceIte, reduceCtorEq]; rfl, z0⟩
    clear z0
    rintro k ⟨⟨n', tr⟩, mks⟩ g2 ⟨hmk, hn', t2, t7, i, hi, t9, z⟩
    simp only [Tm.get_mk] at hmk hn' t2 t7 t9
    subst hmk hn'
    obtain ⟨⟨u2, SX2, SD2, rx2, rd2, qb2, hb2, fb2, pb2, hk2, cc, p2, c2, cs, cr, g0, g1', g2', few2, e1, e2, e3⟩, hx7, hold⟩ := z
    have l7 := Heap.lt_of_get c2
    by_cases hin : i < ms ∧ i < 60
    · obtain ⟨him, hi60⟩ := hin
      rcases hv.at' with ⟨h0, _⟩ | ⟨b, o, cap, c, ce, rfl, hb', hsz, hc⟩
      · omega
      obtain ⟨kd, a1, a2, a3, d, l, kv, mk, ks, kw, y0, y1, y2, y3, y4, y5, ⟨hdl, hll⟩, ⟨hkv, hmk⟩, hi3⟩ := hc i him
      have hb2' := (hold b (Heap.lt_of_get hb')).trans hb'
      have hdg : BytesV g2 (fun b => ¬ (h'.n ≤ b ∧ b ≠ g.n) ∧ b < g2.n) d l := (BytesV.old hdl hold).mono fun b hb => ⟨by omega, by omega⟩
      have hkg : KeepV g2 (fun _ => True) kv mk ks kw := (KeepV.old hkv hold).mono fun _ _ => trivial
      simp -implicitDefEqProofs (disch := (first | omega | (simp -implicitDefEqProofs only [szs, ne_eq] <;> omega) | fail)) only [go_sem, Nat.reduceAdd, Nat.reduceLT, Nat.reduceEqDiff, ↓reduceIte, ir7_l0, t2, t7, t9, ↓hlen, hb2', y0, y1, y2, y3, y4, y5, c2, cs, g0, g1', g2']
      refine GCallD.dem (R' := fun _ => True) (W' := fun b => h'.n ≤ b ∧ b ≠ g.n) ((do_any (W := fun b => h'.n ≤ b ∧ b ≠ g.n) p2 few2 (by omega) (fun _ h => h) hi3 d kv hdg hll hkg hmk).kept) rfl trivial ?_ ?_
      · simp only [List.cons_append, List.nil_append, footP]
        and_intros
        all_goals (try trivial)
        all_goals (intros; first | trivial | exact .inl (by assumption : _ ∧ _).1 | simp_all)
      rintro r g3 ⟨⟨u3, SX3, SD3, rx3, rd3, qb3, hb3, fb3, pb3, hk3, rfl, p3, few3, d1, d2, d3⟩, vf3⟩
      have n3 := vf3.n
      have c3 := (vf3.get g.n l7 (fun hf => hf.2 rfl)).trans c2
      have hold3 : ∀ b, b < h'.n → g3.get b = h'.get b := fun b hb => by rw [vf3.get b (by omega) (fun hf => by have := hf.1; omega)]; exact hold b hb
      obtain ⟨g4, e4⟩ : ∃ g4, g3.set g.n (O.cells (((cc.set 0 (V.ptr (some (u3.bx, 0)))).set 1 (V.ptr (some (u3.bd, 0)))).set 2 (V.ptr (some (rx3, 0)))) 29) = g4 := ⟨_, rfl⟩
      have n4 : g4.n = g3.n := by rw [← e4]; simp
      have c4 : g4.get g.n = some (.cells (((cc.set 0 (V.ptr (some (u3.bx, 0)))).set 1 (V.ptr (some (u3.bd, 0)))).set 2 (V.ptr (some (rx3, 0)))) 29) := by rw [← e4, w_set_eq (by omega) rfl]
      have k4 : ∀ b, b ≠ g.n → g4.get b = g3.get b := fun b hb => by rw [← e4, w_set_ne (by omega) hb]
      have p4 := p3.keep (h2 := g4) (by omega) fun b hb hl => k4 b (by
        rcases hb with hb | hb | hb
        · exact (p3.sx b hb).1.2
        · exact (p3.sd b hb).1.2
        · exact (p3.fu b hb).2)
      simp -implicitDefEqProofs (disch := (first | omega | (simp -implicitDefEqProofs only [szs, ne_eq] <;> omega) | fail)) only [go_sem, Nat.reduceAdd, Nat.reduceLT, Nat.reduceEqDiff, ↓reduceIte, Int.reduceEq, t7, t9, c3, cs, cr, e4, c4, undefV]
      refine ⟨?_, ⟨fun b _ hb => .inl hb.1, fun _ => .inl hx7⟩, ?_⟩
      · (try simp only [List.not_mem_nil, or_false, false_or, and_false, implies_true, not_false_eq_true, List.mem_cons, and_true]; try and_intros; all_goals (try trivial); all_goals (intro b hb; first | omega | (intro hc; first | omega | (rcases hb with hb | hb <;> first | omega))))
      refine GCall.of (((stands_ok (R := fun _ => True) (W := fun _ => False) p4.au p4.rx p4.rd.at (fun b hb => (p4.sx b hb).2.1) (fun _ => trivial) _).any.kept).foot (fun _ _ => trivial) (fun b hb => hb.elim)) ?_
      rintro r g5 ⟨⟨rfl, n5, k5⟩, vf5⟩
      have c5 := (k5 g.n (by omega)).trans c4
      simp -implicitDefEqProofs (disch := (first | omega | (simp -implicitDefEqProofs only [szs, ne_eq] <;> omega) | fail)) only [go_sem, Nat.reduceAdd, Nat.reduceLT, Nat.reduceEqDiff, ↓reduceIte, t2, t7, t9]
      exact ⟨k - 1, by omega, i + 1, by omega, congrArg _ (by omega), ⟨⟨u3, SX3, SD3, rx3, rd3, qb3, hb3, fb3, pb3, hk3, _, p4.old n5 k5, c5, by rw [Blk.size_set, Blk.size_set, Blk.size_set]; exact cs, by rw [Blk.ro_set, Blk.ro_set, Blk.ro_set]; exact cr, by simp -implicitDefEqProofs (disch := (first | omega | (simp -implicitDefEqProofs only [szs, ne_eq] <;> omega) | fail)) only [go_sem], by simp -implicitDefEqProofs (disch := (first | omega | (simp -implicitDefEqProofs only [szs, ne_eq] <;> omega) | fail)) only [go_sem], by simp -implicitDefEqProofs (disch := (first | omega | (simp -implicitDefEqProofs only [szs, ne_eq] <;> omega) | fail)) only [go_sem], few3, d1.trans e1, d2.trans e2, d3.trans e3⟩, hx7, fun b hb => by rw [k5 b (by omega), k4 b (by omega)]; exact hold3 b hb⟩⟩
    · by_cases him : i < ms
      · simp -implicitDefEqProofs (disch := (first | omega | (simp -implicitDefEqProofs only [szs, ne_eq] <;> omega) | fail)) only [go_sem, Nat.reduceAdd, Nat.reduceLT, Nat.reduceEqDiff, ↓reduceIte, ir7_l0, t2, t7, t9, ↓hlen, c2, cs, g0, g1', g2']
        refine GCall.of (stands_ok p2.au p2.rx p2.rd.at (fun b hb => (p2.sx b hb).2.1) (fun _ => trivial) _).any ?_
        rintro r g5 ⟨rfl, n5, k5⟩
        simp -implicitDefEqProofs (disch := (first | omega | (simp -implicitDefEqProofs only [szs, ne_eq] <;> omega) | fail)) only [go_sem, Nat.reduceAdd, Nat.reduceLT, ↓reduceIte]
        refine GCall.of (known_ok _ _ _).any ?_
        rintro r g6 ⟨rfl, rfl⟩
        simp -implicitDefEqProofs (disch := (first | omega | (simp -implicitDefEqProofs only [szs, ne_eq] <;> omega) | fail)) only [go_sem, Nat.reduceAdd, Nat.reduceLT, Nat.reduceEqDiff, ↓reduceIte]
      · simp -implicitDefEqProofs (disch := (first | omega | (simp -implicitDefEqProofs only [szs, ne_eq] <;> omega) | fail)) only [go_sem, Nat.reduceAdd, Nat.reduceLT, Nat.reduceEqDiff, ↓reduceIte, ir7_l0, t2, t7, t9, ↓hlen, c2, cs, g0, g1', g2', undefV]
        refine GCall.of (stands_ok p2.au p2.rx p2.rd.at (fun b hb => (p2.sx b hb).2.1) (fun _ => trivial) _).any ?_
        rintro r g5 ⟨rfl, n5, k5⟩
        simp -implicitDefEqProofs (disch := (first | omega | (simp -implicitDefEqProofs only [szs, ne_eq] <;> omega) | fail)) only [go_sem, Nat.reduceAdd, Nat.reduceLT, ↓reduceIte]
        refine GCall.of (known_ok _ _ _).any ?_
        rintro r g6 ⟨rfl, rfl⟩
        simp -implicitDefEqProofs (disch := (first | omega | (simp -implicitDefEqProofs only [szs, ne_eq] <;> omega) | fail)) only [go_sem, Nat.reduceAdd, Nat.reduceLT, Nat.reduceEqDiff, ↓reduceIte]
end Go.Proofs.Ythdkhbhicimpdaa
