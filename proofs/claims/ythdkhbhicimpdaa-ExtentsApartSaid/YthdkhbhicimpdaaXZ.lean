/- Views of steps and quotas, from typed memory. -/
import Derived.Test.YthdkhbhicimpdaaXY
namespace Go.Proofs.Ythdkhbhicimpdaa
open Go Go.Vm
set_option maxRecDepth 100000
set_option linter.unusedVariables false
set_option linter.unusedSimpArgs false
def vtKeep : VT := .struct [.int .i64, .int .i64]
def vtStep : VT := .struct [.int .i64, .int .i64, .int .i64, .int .i64, .slice (.int .u8), .slice vtKeep]
theorem bytesV_of {h : Heap} {v : V} (hv : VSl h 1 (VIs h (.int .u8)) v) : ∃ l, BytesV h (fun _ => True) v l := by
  rcases hv with rfl | ⟨a, rfl⟩ | ⟨b, o, len, cap, c, ce, rfl, hlc, h0, hcm, hb, hsz, hc⟩
  · exact ⟨[], by simp, (fun x hx => by cases hx), .inl ⟨rfl, .inl rfl⟩⟩
  · exact ⟨[], by simp, (fun x hx => by cases hx), .inl ⟨rfl, .inr ⟨a, rfl⟩⟩⟩
  · refine ⟨c.gets o len, by rw [Blk.length_gets]; omega, fun x hx => ?_, .inr ⟨b, o, cap, true, c, ce, by rw [Blk.length_gets], trivial, hb, by rw [Blk.length_gets]; omega, by rw [Blk.length_gets]⟩⟩
    obtain ⟨j, hj, e⟩ := List.mem_iff_getElem.1 hx
    rw [Blk.length_gets] at hj
    have e2 := Blk.gets_get c len o j hj
    rw [List.getElem?_eq_getElem (by rw [Blk.length_gets]; exact hj), e] at e2
    obtain ⟨n, hn, h1, h2⟩ := hc j (by omega)
    rw [Nat.mul_one] at hn
    simp only [Blk.gets] at hn
    exact ⟨n, (Option.some.inj e2).trans (List.cons.inj hn).1, h1, h2⟩
theorem keepV_of {h : Heap} {v : V} (hv : VSl h 2 (VIs h vtKeep) v) : ∃ m ks kw, KeepV h (fun _ => True) v m ks kw := by
  rcases hv with rfl | ⟨a, rfl⟩ | ⟨b, o, len, cap, c, ce, rfl, hlc, h0, hcm, hb, hsz, hc⟩
  · exact ⟨0, fun _ => 0, fun _ => 0, by omega, .inl ⟨rfl, .inl rfl⟩⟩
  · exact ⟨0, fun _ => 0, fun _ => 0, by omega, .inl ⟨rfl, .inr ⟨a, rfl⟩⟩⟩
  · refine ⟨len, fun i => match c.get (o + i * 2) with | .int _ n => n | _ => 0, fun i => match c.get (o + i * 2 + 1) with | .int _ n => n | _ => 0, by omega, .inr ⟨b, o, cap, true, c, ce, rfl, trivial, hb, by omega, fun i hi => ?_⟩⟩
    have hs := hc i (by omega)
    simp only [vtKeep, VIs, VIss, VT.size, Blk.gets, List.take, List.drop, List.cons.injEq, and_true] at hs
    obtain ⟨⟨k, e0, _⟩, ⟨n1, e1, _⟩⟩ := hs
    simp only [e0, e1, and_self]
theorem stepsV_of {h : Heap} {v : V} (hv : VSl h 6 (VIs h vtStep) v) : ∃ m, StepsV h v m := by
  rcases hv with rfl | ⟨a, rfl⟩ | ⟨b, o, len, cap, c, ce, rfl, hlc, h0, hcm, hb, hsz, hc⟩
  · exact ⟨0, by omega, .inl ⟨rfl, .inl rfl⟩⟩
  · exact ⟨0, by omega, .inl ⟨rfl, .inr ⟨a, rfl⟩⟩⟩
  · refine ⟨len, by omega, .inr ⟨b, o, cap, c, ce, rfl, hb, by omega, fun i hi => ?_⟩⟩
    have hs := hc i (by omega)
    simp only [vtStep, VIs, VIss, VT.size, Blk.gets, List.take, List.drop, List.cons.injEq, and_true] at hs
    obtain ⟨⟨k, e0, _⟩, ⟨n1, e1, b1, b2⟩, ⟨n2, e2, b3, b4⟩, ⟨n3, e3, b5, b6⟩, ⟨d, e4, hd⟩, ⟨kv, e5, hk⟩⟩ := hs
    exact ⟨k, n1, n2, n3, d, kv, e0, e1, e2, e3, e4, e5, ⟨bytesV_of hd, keepV_of hk, ⟨b1, b2⟩, ⟨b3, b4⟩, ⟨b5, b6⟩⟩⟩
end Go.Proofs.Ythdkhbhicimpdaa
set_option maxRecDepth 100000
set_option linter.unusedVariables false
set_option linter.unusedSimpArgs false
namespace Go.Proofs.Ythdkhbhicimpdaa
open Go Go.Vm
attribute [-go_sem] sz_113
def WH (H : Heap) : Set' := fun b => H.n ≤ b
def ir4_t : LC := LC.snd (LC.snd (LC.snd ir4))
theorem ir4_split : ir4 = .seq (LC.fst ir4) (.seq (LC.fst (LC.snd ir4)) (.seq (LC.fst (LC.snd (LC.snd ir4))) ir4_t)) := rfl
/-- The law's state. -/
structure AI (H : Heap) (u w : UU) (n : Nat) (g : Heap) : Prop where
  le : H.n ≤ g.n
  old : ∀ b, b < H.n → g.get b = H.get b
  au : AtU g u
  aw : AtU g w
  sim : Sim u w
  ap : Apart u w
  fu : ∀ b, u.foot b ∨ w.foot b → H.n ≤ b
  few : ∀ s, (u.D.pe s).length ≤ n ∧ (w.D.pe s).length ≤ n
theorem AI.one {H : Heap} {u w u' : UU} {n : Nat} {g g' : Heap} (z : AI H u w n g) (v : VF g g' u.foot) (hu : AtU g' u') (os : OStep u u') (hf : ∀ b, u'.foot b → u.foot b ∨ g.n ≤ b) : AI H u' w (n + 1) g' := by
  have hlw := z.aw.lt
  refine ⟨Nat.le_trans z.le v.n, fun b hb => ?_, hu, VF.other z.aw z.ap v, ⟨os.sh, z.sim.sw, os.has.trans z.sim.has, fun s h1 h2 => ?_⟩, fun b h1 h2 => ?_, fun b hb => ?_, fun s => ?_⟩
  · rw [v.get b (by have := z.le; omega) fun h => by have := z.fu b (.inl h); omega]; exact z.old b hb
  · obtain ⟨e1, e2⟩ := os.fl s h1 h2
    obtain ⟨f1, f2⟩ := z.sim.fl s h1 h2
    exact ⟨e1.trans f1, e2.trans f2⟩
  · rcases hf b h1 with h | h
    · exact z.ap b h h2
    · have := hlw b h2; omega
  · rcases hb with hb | hb
    · rcases hf b hb with h | h
      · exact z.fu b (.inl h)
      · exact Nat.le_trans z.le h
    · exact z.fu b (.inr hb)
  · have := os.few s
    have := z.few s
    omega
theorem AI.swap {H : Heap} {u w : UU} {n : Nat} {g : Heap} (z : AI H u w n g) : AI H w u n g :=
  ⟨z.le, z.old, z.aw, z.au, ⟨z.sim.sw, z.sim.su, z.sim.has.symm, fun s h1 h2 => ⟨(z.sim.fl s h1 h2).1.symm, (z.sim.fl s h1 h2).2.symm⟩⟩, fun b h1 h2 => z.ap b h2 h1, fun b h => z.fu b h.symm, fun s => ⟨(z.few s).2, (z.few s).1⟩⟩
theorem AI.two {H : Heap} {u w u' w' : UU} {n : Nat} {g g' : Heap} (z : AI H u w n g) (v : VF g g' fun b => u.foot b ∨ w.foot b) (d : Two g.n u w u' w' g') : AI H u' w' (n + 1) g' := by
  refine ⟨Nat.le_trans z.le v.n, fun b hb => ?_, d.au, d.aw, d.sim, d.ap, fun b hb => ?_, fun s => ?_⟩
  · rw [v.get b (by have := z.le; omega) fun h => by have := z.fu b h; omega]; exact z.old b hb
  · rcases hb with hb | hb
    · rcases d.fu b hb with h | h
      · exact z.fu b (.inl h)
      · exact Nat.le_trans z.le h
    · rcases d.fw b hb with h | h
      · exact z.fu b (.inr h)
      · exact Nat.le_trans z.le h
  · have := d.few s
    have := z.few s
    omega
set_option maxHeartbeats 4000000 in
theorem apart_loop {H g : Heap} {u w : UU} {v0 v1 v2 : V} {m0 m1 m2 : Nat} (z : AI H u w 0 g) (hv0 : StepsV H v0 m0) (hv1 : StepsV H v1 m1) (hv2 : StepsV H v2 m2)
    {tr : Tr V} {t : List It} {Q : Ex → Fr → Heap → Prop} (hk : ∀ tr' g', resume ⟨Try.prog, true⟩ (fun _ => True) (fun b => H.n ≤ b ∨ WH H b) none Q t (.exit 0) ⟨⟨88, tr'⟩, []⟩ g')
    (t0 : tr.get 0 = some v0) (t1 : tr.get 1 = some v1) (t2 : tr.get 2 = some v2) (t11 : tr.get 11 = some (.ptr (some (u.bx, 0)))) (t13 : tr.get 13 = some (.ptr (some (w.bx, 0)))) (t15 : tr.get 15 = some (.int .i64 0)) :
    GLoop ⟨Try.prog, true⟩ (fun _ => True) (fun b => H.n ≤ b ∨ WH H b) none Q ir4_l0 t ⟨⟨88, tr⟩, []⟩ g := by
  have hlen := hv0.lenV
  have hml := hv0.len
  refine GLoop.inv hm (fun k f g' => f.mks = [] ∧ f.tm.n = 88 ∧ f.tm.get 0 = some v0 ∧ f.tm.get 1 = some v1 ∧ f.tm.get 2 = some v2 ∧ f.tm.get 11 = some (.ptr (some (u.bx, 0))) ∧ f.tm.get 13 = some (.ptr (some (w.bx, 0))) ∧ ∃ i : Nat, i + k = 40 ∧ f.tm.get 15 = some (.int .i64 i) ∧ ∃ u' w', u'.bx = u.bx ∧ w'.bx = w.bx ∧ AI H u' w' (i * 3) g') 40 ?_ ?_
  · exact ⟨rfl, rfl, t0, t1, t2, t11, t13, 0, by omega, t15, u, w, rfl, rfl, z⟩
  clear t0 t1 t2 t11 t13 t15 z
  clear tr
  rintro k ⟨⟨n', tr⟩, mks⟩ g1 ⟨hmk, hn', t0, t1, t2, t11, t13, i, hi, t15, u1, w1, hub, hwb, z⟩
  simp only [Tm.get_mk] at hmk hn' t0 t1 t2 t11 t13 t15
  subst hmk hn'
  rw [← hub] at t11
  rw [← hwb] at t13
  by_cases hi40 : i < 40
  · simp -implicitDefEqProofs (disch := (first | omega | (simp -implicitDefEqProofs only [Heap.n_push, Heap.n_set, Blk.size_set, Blk.size_puts, Blk.size_putA, w_of_size, w_rep_size, List.length_cons, List.length_nil, ne_eq] <;> omega) | fail)) only [go_sem, Nat.reduceAdd, Nat.reduceSub, Nat.reduceMul, Nat.reduceLT, Nat.reduceMod, Nat.reduceDiv, Nat.reduceEqDiff, Nat.reduceBEq, Nat.reduceLeDiff, ↓reduceIte, reduceCtorEq, Int.reduceAdd, Int.reduceSub, Int.reduceLT, Int.reduceLE, Int.reduceBEq, Int.reduceEq, Int.reduceToNat, ir4_l0, t0, t1, t2, t11, t13, t15]
    refine GCall.of (((other_ok (R := fun _ => True) z.au z.sim.su (fun s => by have := z.few s; omega) (fun _ => trivial) (hv1.old z.old) i (by omega)).any.kept).foot (fun _ h => h) (fun b hb => .inl (z.fu b (.inl hb)))) ?_
    rintro r g2 ⟨⟨u2, hu2, os, hf2⟩, vf2⟩
    have z2 := z.one vf2 hu2 os hf2
    have e2 := os.bx
    simp -implicitDefEqProofs (disch := (first | omega | (simp -implicitDefEqProofs only [Heap.n_push, Heap.n_set, Blk.size_set, Blk.size_puts, Blk.size_putA, w_of_size, w_rep_size, List.length_cons, List.length_nil, ne_eq] <;> omega) | fail)) only [go_sem, Nat.reduceAdd, Nat.reduceSub, Nat.reduceMul, Nat.reduceLT, Nat.reduceMod, Nat.reduceDiv, Nat.reduceEqDiff, Nat.reduceBEq, Nat.reduceLeDiff, ↓reduceIte, reduceCtorEq, Int.reduceAdd, Int.reduceSub, Int.reduceLT, Int.reduceLE, Int.reduceBEq, Int.reduceEq, Int.reduceToNat, t0, t1, t2, t11, t13, t15]
    refine GCall.of (((other_ok (R := fun _ => True) z2.aw z2.sim.sw (fun s => by have := z2.few s; omega) (fun _ => trivial) (hv2.old z2.old) i (by omega)).any.kept).foot (fun _ h => h) (fun b hb => .inl (z2.fu b (.inr hb)))) ?_
    rintro r g3 ⟨⟨w2, hw2, os3, hf3⟩, vf3⟩
    have z3 := (z2.swap.one vf3 hw2 os3 hf3).swap
    have e3 := os3.bx
    by_cases him : i < m0
    · rcases hv0.at' with ⟨h0, _⟩ | ⟨b, o, cap, c, ce, rfl, hb, hsz, hc⟩
      · omega
      obtain ⟨kd, n1, n2, n3, d, kv, c0, c1, c2, c3, c4, c5, hst⟩ := hc i him
      have hb3 := (z3.old _ (Heap.lt_of_get hb)).trans hb
      obtain ⟨⟨l, hd⟩, ⟨mk, ks, kw, hkv⟩, _⟩ := id hst
      have hone1 := hd.one
      have hone2 := hkv.one
      simp -implicitDefEqProofs (disch := (first | omega | (simp -implicitDefEqProofs only [Heap.n_push, Heap.n_set, Blk.size_set, Blk.size_puts, Blk.size_putA, w_of_size, w_rep_size, List.length_cons, List.length_nil, ne_eq] <;> omega) | fail)) only [go_sem, Nat.reduceAdd, Nat.reduceSub, Nat.reduceMul, Nat.reduceLT, Nat.reduceMod, Nat.reduceDiv, Nat.reduceEqDiff, Nat.reduceBEq, Nat.reduceLeDiff, ↓reduceIte, reduceCtorEq, Int.reduceAdd, Int.reduceSub, Int.reduceLT, Int.reduceLE, Int.reduceBEq, Int.reduceEq, Int.reduceToNat, t0, t1, t2, t11, t13, t15, ↓hlen, hb3, c0, c1, c2, c3, c4, c5, ↓hone1, ↓hone2, undefV]
      rw [← e2, ← e3]
      refine GCall.of ((alike_ok (H := H) z3.au z3.aw z3.sim z3.ap (fun s => by have := z3.few s; omega) z3.le z3.old z3.fu hst).kept.foot (fun _ h => h) (fun b hb => .inl (z3.fu b hb))) ?_
      rintro r g4 ⟨⟨rfl, u4, w4, d4⟩, vf4⟩
      have z4 := z3.two vf4 d4
      simp -implicitDefEqProofs (disch := (first | omega | (simp -implicitDefEqProofs only [Heap.n_push, Heap.n_set, Blk.size_set, Blk.size_puts, Blk.size_putA, w_of_size, w_rep_size, List.length_cons, List.length_nil, ne_eq] <;> omega) | fail)) only [go_sem, Nat.reduceAdd, Nat.reduceSub, Nat.reduceMul, Nat.reduceLT, Nat.reduceMod, Nat.reduceDiv, Nat.reduceEqDiff, Nat.reduceBEq, Nat.reduceLeDiff, ↓reduceIte, reduceCtorEq, Int.reduceAdd, Int.reduceSub, Int.reduceLT, Int.reduceLE, Int.reduceBEq, Int.reduceEq, Int.reduceToNat, t0, t1, t2, t11, t13, t15, undefV]
      exact ⟨k - 1, by omega, by rw [hub], by rw [hwb], i + 1, by omega, congrArg _ (by omega), u4, w4, by rw [d4.bx.1, e2, hub], by rw [d4.bx.2, e3, hwb], by rw [show (i + 1) * 3 = i * 3 + 1 + 1 + 1 by omega]; exact z4⟩
    · simp -implicitDefEqProofs (disch := (first | omega | (simp -implicitDefEqProofs only [Heap.n_push, Heap.n_set, Blk.size_set, Blk.size_puts, Blk.size_putA, w_of_size, w_rep_size, List.length_cons, List.length_nil, ne_eq] <;> omega) | fail)) only [go_sem, Nat.reduceAdd, Nat.reduceSub, Nat.reduceMul, Nat.reduceLT, Nat.reduceMod, Nat.reduceDiv, Nat.reduceEqDiff, Nat.reduceBEq, Nat.reduceLeDiff, ↓reduceIte, reduceCtorEq, Int.reduceAdd, Int.reduceSub, Int.reduceLT, Int.reduceLE, Int.reduceBEq, Int.reduceEq, Int.reduceToNat, t0, t1, t2, t11, t13, t15, ↓hlen, undefV]
      have z4 : AI H u2 w2 ((i + 1) * 3) g3 := ⟨z3.le, z3.old, z3.au, z3.aw, z3.sim, z3.ap, z3.fu, fun s => by have := z3.few s; omega⟩
      exact ⟨k - 1, by omega, by rw [hub], by rw [hwb], i + 1, by omega, congrArg _ (by omega), u2, w2, by rw [e2, hub], by rw [e3, hwb], z4⟩
  · simp -implicitDefEqProofs (disch := (first | omega | (simp -implicitDefEqProofs only [Heap.n_push, Heap.n_set, Blk.size_set, Blk.size_puts, Blk.size_putA, w_of_size, w_rep_size, List.length_cons, List.length_nil, ne_eq] <;> omega) | fail)) only [go_sem, Nat.reduceAdd, Nat.reduceSub, Nat.reduceMul, Nat.reduceLT, Nat.reduceMod, Nat.reduceDiv, Nat.reduceEqDiff, Nat.reduceBEq, Nat.reduceLeDiff, ↓reduceIte, reduceCtorEq, Int.reduceAdd, Int.reduceSub, Int.reduceLT, Int.reduceLE, Int.reduceBEq, Int.reduceEq, Int.reduceToNat, ir4_l0, t0, t1, t2, t11, t13, t15]
    exact hk _ g1
theorem sum8 : ∀ a, sumN (fun _ => 8) a = 8 * a
  | 0 => rfl
  | a + 1 => by rw [sumN, sum8 a]; omega
theorem shape_new (bx bd : Nat) (tb : Nat → Nat) (L : DL) : Shape ⟨bx, bd, tb, L, XS.new 3 fun _ => 8, DS.new 24⟩ :=
  ⟨rfl, fun a _ => sum8 a, fun _ _ => rfl, rfl⟩
theorem foot_new {bx bd : Nat} {tb : Nat → Nat} {L : DL} {b : Nat} (hb : UU.foot ⟨bx, bd, tb, L, XS.new 3 fun _ => 8, DS.new 24⟩ b) : (b = bd ∨ b = L.fb ∨ b = L.mb) ∨ b = bx ∨ ∃ a, a < 3 ∧ b = tb a := by
  rcases hb with (h | h | h | ⟨x, hx, _⟩) | h | ⟨a, ha, h⟩
  · exact .inl (.inl h)
  · exact .inl (.inr (.inl h))
  · exact .inl (.inr (.inr h))
  · exact absurd rfl hx
  · exact .inr (.inl h)
  · exact .inr (.inr ⟨a, ha, h⟩)
theorem qv_new {h : Heap} : QV (h.push (.cells (Blk.of [.int .i64 8, .int .i64 8, .int .i64 8]) 3)) (.slice (some (h.n, 0)) 3 3 true) 3 fun _ => 8 := by
  refine ⟨h.n, 0, 3, true, _, 3, rfl, by rw [w_push_eq rfl], Nat.le_refl _, fun i hi => ?_⟩
  match i, hi with
  | 0, _ => rfl
  | 1, _ => rfl
  | 2, _ => rfl
set_option maxHeartbeats 4000000 in
theorem apart_law {H : Heap} {v0 v1 v2 : V} {m0 m1 m2 : Nat} (hv0 : StepsV H v0 m0) (hv1 : StepsV H v1 m1) (hv2 : StepsV H v2 m2) :
    SF ⟨Try.prog, true⟩ 4 [v0, v1, v2] H (fun _ => True) (WH H) fun r _ => r = .bool true := by
  have hq : ∀ g, Vm.lenV Try.prog 22 (.slice none 0 0 true) g = some (0, []) := fun g => by simp [Vm.lenV, Try.underlying22]
  refine SF.go hm Try.func4 ir4_eq ?_
  rw [ir4_split]
  simp -implicitDefEqProofs (disch := (first | omega | (simp -implicitDefEqProofs only [Heap.n_push, Heap.n_set, Blk.size_set, Blk.size_puts, Blk.size_putA, w_of_size, w_rep_size, List.length_cons, List.length_nil, ne_eq] <;> omega) | fail)) only [go_sem, Nat.reduceAdd, Nat.reduceSub, Nat.reduceMul, Nat.reduceLT, Nat.reduceMod, Nat.reduceDiv, Nat.reduceEqDiff, Nat.reduceBEq, Nat.reduceLeDiff, ↓reduceIte, reduceCtorEq, Int.reduceAdd, Int.reduceSub, Int.reduceLT, Int.reduceLE, Int.reduceBEq, Int.reduceEq, Int.reduceToNat, ir4, LC.fst, LC.snd]
  refine GCall.of (known_ok _ _ _).any ?_
  rintro r h' ⟨rfl, rfl⟩
  simp -implicitDefEqProofs (disch := (first | omega | (simp -implicitDefEqProofs only [Heap.n_push, Heap.n_set, Blk.size_set, Blk.size_puts, Blk.size_putA, w_of_size, w_rep_size, List.length_cons, List.length_nil, ne_eq] <;> omega) | fail)) only [go_sem, Nat.reduceAdd, Nat.reduceSub, Nat.reduceMul, Nat.reduceLT, Nat.reduceMod, Nat.reduceDiv, Nat.reduceEqDiff, Nat.reduceBEq, Nat.reduceLeDiff, ↓reduceIte, reduceCtorEq, Int.reduceAdd, Int.reduceSub, Int.reduceLT, Int.reduceLE, Int.reduceBEq, Int.reduceEq, Int.reduceToNat, undefV]
  refine GCall.of (much_ok hq (by omega) hv0 fun _ => trivial).any ?_
  rintro r h' ⟨⟨b1, rfl, _⟩, rfl⟩
  cases b1 with
  | true => simp -implicitDefEqProofs (disch := (first | omega | (simp -implicitDefEqProofs only [Heap.n_push, Heap.n_set, Blk.size_set, Blk.size_puts, Blk.size_putA, w_of_size, w_rep_size, List.length_cons, List.length_nil, ne_eq] <;> omega) | fail)) only [go_sem, Nat.reduceAdd, Nat.reduceSub, Nat.reduceMul, Nat.reduceLT, Nat.reduceMod, Nat.reduceDiv, Nat.reduceEqDiff, Nat.reduceBEq, Nat.reduceLeDiff, ↓reduceIte, reduceCtorEq, Int.reduceAdd, Int.reduceSub, Int.reduceLT, Int.reduceLE, Int.reduceBEq, Int.reduceEq, Int.reduceToNat, undefV]
  | false =>
  simp -implicitDefEqProofs (disch := (first | omega | (simp -implicitDefEqProofs only [Heap.n_push, Heap.n_set, Blk.size_set, Blk.size_puts, Blk.size_putA, w_of_size, w_rep_size, List.length_cons, List.length_nil, ne_eq] <;> omega) | fail)) only [go_sem, Nat.reduceAdd, Nat.reduceSub, Nat.reduceMul, Nat.reduceLT, Nat.reduceMod, Nat.reduceDiv, Nat.reduceEqDiff, Nat.reduceBEq, Nat.reduceLeDiff, ↓reduceIte, reduceCtorEq, Int.reduceAdd, Int.reduceSub, Int.reduceLT, Int.reduceLE, Int.reduceBEq, Int.reduceEq, Int.reduceToNat, undefV]
  refine GCall.of (much_ok hq (by omega) hv1 fun _ => trivial).any ?_
  rintro r h' ⟨⟨b2, rfl, _⟩, rfl⟩
  cases b2 with
  | true => simp -implicitDefEqProofs (disch := (first | omega | (simp -implicitDefEqProofs only [Heap.n_push, Heap.n_set, Blk.size_set, Blk.size_puts, Blk.size_putA, w_of_size, w_rep_size, List.length_cons, List.length_nil, ne_eq] <;> omega) | fail)) only [go_sem, Nat.reduceAdd, Nat.reduceSub, Nat.reduceMul, Nat.reduceLT, Nat.reduceMod, Nat.reduceDiv, Nat.reduceEqDiff, Nat.reduceBEq, Nat.reduceLeDiff, ↓reduceIte, reduceCtorEq, Int.reduceAdd, Int.reduceSub, Int.reduceLT, Int.reduceLE, Int.reduceBEq, Int.reduceEq, Int.reduceToNat, undefV]
  | false =>
  simp -implicitDefEqProofs (disch := (first | omega | (simp -implicitDefEqProofs only [Heap.n_push, Heap.n_set, Blk.size_set, Blk.size_puts, Blk.size_putA, w_of_size, w_rep_size, List.length_cons, List.length_nil, ne_eq] <;> omega) | fail)) only [go_sem, Nat.reduceAdd, Nat.reduceSub, Nat.reduceMul, Nat.reduceLT, Nat.reduceMod, Nat.reduceDiv, Nat.reduceEqDiff, Nat.reduceBEq, Nat.reduceLeDiff, ↓reduceIte, reduceCtorEq, Int.reduceAdd, Int.reduceSub, Int.reduceLT, Int.reduceLE, Int.reduceBEq, Int.reduceEq, Int.reduceToNat, undefV]
  refine GCall.of (much_ok hq (by omega) hv2 fun _ => trivial).any ?_
  rintro r h' ⟨⟨b3, rfl, _⟩, rfl⟩
  cases b3 with
  | true => simp -implicitDefEqProofs (disch := (first | omega | (simp -implicitDefEqProofs only [Heap.n_push, Heap.n_set, Blk.size_set, Blk.size_puts, Blk.size_putA, w_of_size, w_rep_size, List.length_cons, List.length_nil, ne_eq] <;> omega) | fail)) only [go_sem, Nat.reduceAdd, Nat.reduceSub, Nat.reduceMul, Nat.reduceLT, Nat.reduceMod, Nat.reduceDiv, Nat.reduceEqDiff, Nat.reduceBEq, Nat.reduceLeDiff, ↓reduceIte, reduceCtorEq, Int.reduceAdd, Int.reduceSub, Int.reduceLT, Int.reduceLE, Int.reduceBEq, Int.reduceEq, Int.reduceToNat, undefV]
  | false =>
  simp -implicitDefEqProofs (disch := (first | omega | (simp -implicitDefEqProofs only [Heap.n_push, Heap.n_set, Blk.size_set, Blk.size_puts, Blk.size_putA, w_of_size, w_rep_size, List.length_cons, List.length_nil, ne_eq] <;> omega) | fail)) only [go_sem, Nat.reduceAdd, Nat.reduceSub, Nat.reduceMul, Nat.reduceLT, Nat.reduceMod, Nat.reduceDiv, Nat.reduceEqDiff, Nat.reduceBEq, Nat.reduceLeDiff, ↓reduceIte, reduceCtorEq, Int.reduceAdd, Int.reduceSub, Int.reduceLT, Int.reduceLE, Int.reduceBEq, Int.reduceEq, Int.reduceToNat, ir4_t, ir4, LC.fst, LC.snd, undefV]
  refine GCall.of (((new_ok (R := fun _ => True) (W := fun _ => False) (n := 24) (by omega)).kept).any.foot (fun _ h => h) (fun _ h => h.elim)) ?_
  rintro r h1 ⟨⟨L1, rfl, l1, l2, hd1⟩, vf1⟩
  have m1' := vf1.n
  simp -implicitDefEqProofs (disch := (first | omega | (simp -implicitDefEqProofs only [Heap.n_push, Heap.n_set, Blk.size_set, Blk.size_puts, Blk.size_putA, w_of_size, w_rep_size, List.length_cons, List.length_nil, ne_eq] <;> omega) | fail)) only [go_sem, Nat.reduceAdd, Nat.reduceSub, Nat.reduceMul, Nat.reduceLT, Nat.reduceMod, Nat.reduceDiv, Nat.reduceEqDiff, Nat.reduceBEq, Nat.reduceLeDiff, ↓reduceIte, reduceCtorEq, Int.reduceAdd, Int.reduceSub, Int.reduceLT, Int.reduceLE, Int.reduceBEq, Int.reduceEq, Int.reduceToNat, undefV]
  refine GCall.of (((new_ok (R := fun _ => True) (W := fun _ => False) (n := 24) (by omega)).kept).any.foot (fun _ h => h) (fun _ h => h.elim)) ?_
  rintro r h2 ⟨⟨L2, rfl, l3, l4, hd2⟩, vf2⟩
  have m2' := vf2.n
  have o2 : ∀ b, b < h1.n → h2.get b = h1.get b := fun b hb => vf2.get b hb id
  have o1 : ∀ b, b < h'.n → h1.get b = h'.get b := fun b hb => vf1.get b hb id
  have lt1 := hd1.lt
  have lt2 := hd2.lt
  simp -implicitDefEqProofs (disch := (first | omega | (simp -implicitDefEqProofs only [Heap.n_push, Heap.n_set, Blk.size_set, Blk.size_puts, Blk.size_putA, w_of_size, w_rep_size, List.length_cons, List.length_nil, ne_eq] <;> omega) | fail)) only [go_sem, Nat.reduceAdd, Nat.reduceSub, Nat.reduceMul, Nat.reduceLT, Nat.reduceMod, Nat.reduceDiv, Nat.reduceEqDiff, Nat.reduceBEq, Nat.reduceLeDiff, ↓reduceIte, reduceCtorEq, Int.reduceAdd, Int.reduceSub, Int.reduceLT, Int.reduceLE, Int.reduceBEq, Int.reduceEq, Int.reduceToNat, undefV]
  refine GCall.of (((xnew_ok (R := fun _ => True) (W := fun _ => False) ((hd1.old o2).push _) (fun _ => trivial) qv_new (by omega) (by show sumN _ 3 ≤ 24; rw [sum8]; omega)).kept).any.foot (fun _ h => h) (fun _ h => h.elim)) ?_
  rintro r h3 ⟨⟨rfl, hx3, o3⟩, vf3⟩
  simp only [Heap.n_push] at hx3 o3 ⊢
  have m3' := vf3.n
  rw [Heap.n_push] at m3'
  have o3' : ∀ b, b < h2.n → h3.get b = h2.get b := fun b hb => by rw [o3 b (by omega)]; simp -implicitDefEqProofs (disch := (first | omega | (simp -implicitDefEqProofs only [Heap.n_push, Heap.n_set, Blk.size_set, Blk.size_puts, Blk.size_putA, w_of_size, w_rep_size, List.length_cons, List.length_nil, ne_eq] <;> omega) | fail)) only [go_sem, Nat.reduceAdd, Nat.reduceSub, Nat.reduceMul, Nat.reduceLT, Nat.reduceMod, Nat.reduceDiv, Nat.reduceEqDiff, Nat.reduceBEq, Nat.reduceLeDiff, ↓reduceIte, reduceCtorEq, Int.reduceAdd, Int.reduceSub, Int.reduceLT, Int.reduceLE, Int.reduceBEq, Int.reduceEq, Int.reduceToNat]
  simp -implicitDefEqProofs (disch := (first | omega | (simp -implicitDefEqProofs only [Heap.n_push, Heap.n_set, Blk.size_set, Blk.size_puts, Blk.size_putA, w_of_size, w_rep_size, List.length_cons, List.length_nil, ne_eq] <;> omega) | fail)) only [go_sem, Nat.reduceAdd, Nat.reduceSub, Nat.reduceMul, Nat.reduceLT, Nat.reduceMod, Nat.reduceDiv, Nat.reduceEqDiff, Nat.reduceBEq, Nat.reduceLeDiff, ↓reduceIte, reduceCtorEq, Int.reduceAdd, Int.reduceSub, Int.reduceLT, Int.reduceLE, Int.reduceBEq, Int.reduceEq, Int.reduceToNat, undefV]
  refine GCall.of (((xnew_ok (R := fun _ => True) (W := fun _ => False) ((hd2.old o3').push _) (fun _ => trivial) qv_new (by omega) (by show sumN _ 3 ≤ 24; rw [sum8]; omega)).kept).any.foot (fun _ h => h) (fun _ h => h.elim)) ?_
  rintro r h4 ⟨⟨rfl, hx4, o4⟩, vf4⟩
  simp only [Heap.n_push] at hx4 o4 ⊢
  have m4' := vf4.n
  rw [Heap.n_push] at m4'
  have o4' : ∀ b, b < h3.n → h4.get b = h3.get b := fun b hb => by rw [o4 b (by omega)]; simp -implicitDefEqProofs (disch := (first | omega | (simp -implicitDefEqProofs only [Heap.n_push, Heap.n_set, Blk.size_set, Blk.size_puts, Blk.size_putA, w_of_size, w_rep_size, List.length_cons, List.length_nil, ne_eq] <;> omega) | fail)) only [go_sem, Nat.reduceAdd, Nat.reduceSub, Nat.reduceMul, Nat.reduceLT, Nat.reduceMod, Nat.reduceDiv, Nat.reduceEqDiff, Nat.reduceBEq, Nat.reduceLeDiff, ↓reduceIte, reduceCtorEq, Int.reduceAdd, Int.reduceSub, Int.reduceLT, Int.reduceLE, Int.reduceBEq, Int.reduceEq, Int.reduceToNat]
  have lx3 := hx3.lt
  have hd1' : DiskAt h4 (h'.n + 2) L1 (DS.new 24) := ((hd1.old o2).old o3').old o4'
  have hd2' : DiskAt h4 (h1.n + 2) L2 (DS.new 24) := (hd2.old o3').old o4'
  have hx3' := hx3.old o4'
  have z : AI h' ⟨h2.n + 1, h'.n + 2, fun a => h2.n + 1 + 1 + a, L1, XS.new 3 fun _ => 8, DS.new 24⟩ ⟨h3.n + 1, h1.n + 2, fun a => h3.n + 1 + 1 + a, L2, XS.new 3 fun _ => 8, DS.new 24⟩ 0 h4 := by
    have b1 := lt1 (h'.n + 2) (.inl rfl)
    have b2 := lt1 L1.fb (.inr (.inl rfl))
    have b3 := lt1 L1.mb (.inr (.inr (.inl rfl)))
    have b4 := lt2 (h1.n + 2) (.inl rfl)
    have b5 := lt2 L2.fb (.inr (.inl rfl))
    have b6 := lt2 L2.mb (.inr (.inr (.inl rfl)))
    have b7 : ∀ a, a < 3 → h2.n + 1 + 1 + a < h3.n := fun a ha => lx3 _ (.inr ⟨a, ha, rfl⟩)
    have b8 := b7 2 (by omega)
    refine ⟨by omega, fun b hb => by rw [o4' b (by omega), o3' b (by omega), o2 b (by omega), o1 b hb], ⟨hx3', hd1', fun a ha => ?_⟩, ⟨hx4, hd2', fun a ha => ?_⟩, ⟨shape_new _ _ _ _, shape_new _ _ _ _, rfl, fun _ _ _ => ⟨rfl, rfl⟩⟩, fun b h1 h2 => ?_, fun b hb => ?_, fun s => ⟨Nat.le_refl _, Nat.le_refl _⟩⟩
    · show sumN (fun _ => 8) a + 8 ≤ 24
      have : a < 3 := ha
      rw [sum8]; omega
    · show sumN (fun _ => 8) a + 8 ≤ 24
      have : a < 3 := ha
      rw [sum8]; omega
    · rcases foot_new h1 with (e | e | e) | e | ⟨a, ha, e⟩ <;> rcases foot_new h2 with (e' | e' | e') | e' | ⟨a', ha', e'⟩ <;> omega
    · rcases hb with hb | hb <;> rcases foot_new hb with (e | e | e) | e | ⟨a, ha, e⟩ <;> omega
  simp -implicitDefEqProofs (disch := (first | omega | (simp -implicitDefEqProofs only [Heap.n_push, Heap.n_set, Blk.size_set, Blk.size_puts, Blk.size_putA, w_of_size, w_rep_size, List.length_cons, List.length_nil, ne_eq] <;> omega) | fail)) only [go_sem, Nat.reduceAdd, Nat.reduceSub, Nat.reduceMul, Nat.reduceLT, Nat.reduceMod, Nat.reduceDiv, Nat.reduceEqDiff, Nat.reduceBEq, Nat.reduceLeDiff, ↓reduceIte, reduceCtorEq, Int.reduceAdd, Int.reduceSub, Int.reduceLT, Int.reduceLE, Int.reduceBEq, Int.reduceEq, Int.reduceToNat, undefV]
  refine GCall.of (num_ok _).any ?_
  rintro v g8 ⟨rfl, rfl⟩
  simp -implicitDefEqProofs (disch := (first | omega | (simp -implicitDefEqProofs only [Heap.n_push, Heap.n_set, Blk.size_set, Blk.size_puts, Blk.size_putA, w_of_size, w_rep_size, List.length_cons, List.length_nil, ne_eq] <;> omega) | fail)) only [go_sem, Nat.reduceAdd, Nat.reduceSub, Nat.reduceMul, Nat.reduceLT, Nat.reduceMod, Nat.reduceDiv, Nat.reduceEqDiff, Nat.reduceBEq, Nat.reduceLeDiff, ↓reduceIte, reduceCtorEq, Int.reduceAdd, Int.reduceSub, Int.reduceLT, Int.reduceLE, Int.reduceBEq, Int.reduceEq, Int.reduceToNat, undefV]
  refine GCall.of (num_ok _).any ?_
  rintro v g8 ⟨rfl, rfl⟩
  simp -implicitDefEqProofs (disch := (first | omega | (simp -implicitDefEqProofs only [Heap.n_push, Heap.n_set, Blk.size_set, Blk.size_puts, Blk.size_putA, w_of_size, w_rep_size, List.length_cons, List.length_nil, ne_eq] <;> omega) | fail)) only [go_sem, Nat.reduceAdd, Nat.reduceSub, Nat.reduceMul, Nat.reduceLT, Nat.reduceMod, Nat.reduceDiv, Nat.reduceEqDiff, Nat.reduceBEq, Nat.reduceLeDiff, ↓reduceIte, reduceCtorEq, Int.reduceAdd, Int.reduceSub, Int.reduceLT, Int.reduceLE, Int.reduceBEq, Int.reduceEq, Int.reduceToNat, undefV]
  refine apart_loop z hv0 hv1 hv2 (fun tr' g' => ?_) (by simp -implicitDefEqProofs (disch := (first | omega | (simp -implicitDefEqProofs only [Heap.n_push, Heap.n_set, Blk.size_set, Blk.size_puts, Blk.size_putA, w_of_size, w_rep_size, List.length_cons, List.length_nil, ne_eq] <;> omega) | fail)) only [go_sem, Nat.reduceAdd, Nat.reduceSub, Nat.reduceMul, Nat.reduceLT, Nat.reduceMod, Nat.reduceDiv, Nat.reduceEqDiff, Nat.reduceBEq, Nat.reduceLeDiff, ↓reduceIte, reduceCtorEq, Int.reduceAdd, Int.reduceSub, Int.reduceLT, Int.reduceLE, Int.reduceBEq, Int.reduceEq, Int.reduceToNat]) (by simp -implicitDefEqProofs (disch := (first | omega | (simp -implicitDefEqProofs only [Heap.n_push, Heap.n_set, Blk.size_set, Blk.size_puts, Blk.size_putA, w_of_size, w_rep_size, List.length_cons, List.length_nil, ne_eq] <;> omega) | fail)) only [go_sem, Nat.reduceAdd, Nat.reduceSub, Nat.reduceMul, Nat.reduceLT, Nat.reduceMod, Nat.reduceDiv, Nat.reduceEqDiff, Nat.reduceBEq, Nat.reduceLeDiff, ↓reduceIte, reduceCtorEq, Int.reduceAdd, Int.reduceSub, Int.reduceLT, Int.reduceLE, Int.reduceBEq, Int.reduceEq, Int.reduceToNat]) (by simp -implicitDefEqProofs (disch := (first | omega | (simp -implicitDefEqProofs only [Heap.n_push, Heap.n_set, Blk.size_set, Blk.size_puts, Blk.size_putA, w_of_size, w_rep_size, List.length_cons, List.length_nil, ne_eq] <;> omega) | fail)) only [go_sem, Nat.reduceAdd, Nat.reduceSub, Nat.reduceMul, Nat.reduceLT, Nat.reduceMod, Nat.reduceDiv, Nat.reduceEqDiff, Nat.reduceBEq, Nat.reduceLeDiff, ↓reduceIte, reduceCtorEq, Int.reduceAdd, Int.reduceSub, Int.reduceLT, Int.reduceLE, Int.reduceBEq, Int.reduceEq, Int.reduceToNat]) (by simp -implicitDefEqProofs (disch := (first | omega | (simp -implicitDefEqProofs only [Heap.n_push, Heap.n_set, Blk.size_set, Blk.size_puts, Blk.size_putA, w_of_size, w_rep_size, List.length_cons, List.length_nil, ne_eq] <;> omega) | fail)) only [go_sem, Nat.reduceAdd, Nat.reduceSub, Nat.reduceMul, Nat.reduceLT, Nat.reduceMod, Nat.reduceDiv, Nat.reduceEqDiff, Nat.reduceBEq, Nat.reduceLeDiff, ↓reduceIte, reduceCtorEq, Int.reduceAdd, Int.reduceSub, Int.reduceLT, Int.reduceLE, Int.reduceBEq, Int.reduceEq, Int.reduceToNat]) (by simp -implicitDefEqProofs (disch := (first | omega | (simp -implicitDefEqProofs only [Heap.n_push, Heap.n_set, Blk.size_set, Blk.size_puts, Blk.size_putA, w_of_size, w_rep_size, List.length_cons, List.length_nil, ne_eq] <;> omega) | fail)) only [go_sem, Nat.reduceAdd, Nat.reduceSub, Nat.reduceMul, Nat.reduceLT, Nat.reduceMod, Nat.reduceDiv, Nat.reduceEqDiff, Nat.reduceBEq, Nat.reduceLeDiff, ↓reduceIte, reduceCtorEq, Int.reduceAdd, Int.reduceSub, Int.reduceLT, Int.reduceLE, Int.reduceBEq, Int.reduceEq, Int.reduceToNat]) (by simp -implicitDefEqProofs (disch := (first | omega | (simp -implicitDefEqProofs only [Heap.n_push, Heap.n_set, Blk.size_set, Blk.size_puts, Blk.size_putA, w_of_size, w_rep_size, List.length_cons, List.length_nil, ne_eq] <;> omega) | fail)) only [go_sem, Nat.reduceAdd, Nat.reduceSub, Nat.reduceMul, Nat.reduceLT, Nat.reduceMod, Nat.reduceDiv, Nat.reduceEqDiff, Nat.reduceBEq, Nat.reduceLeDiff, ↓reduceIte, reduceCtorEq, Int.reduceAdd, Int.reduceSub, Int.reduceLT, Int.reduceLE, Int.reduceBEq, Int.reduceEq, Int.reduceToNat])
  simp -implicitDefEqProofs (disch := (first | omega | (simp -implicitDefEqProofs only [Heap.n_push, Heap.n_set, Blk.size_set, Blk.size_puts, Blk.size_putA, w_of_size, w_rep_size, List.length_cons, List.length_nil, ne_eq] <;> omega) | fail)) only [go_sem, Nat.reduceAdd, Nat.reduceSub, Nat.reduceMul, Nat.reduceLT, Nat.reduceMod, Nat.reduceDiv, Nat.reduceEqDiff, Nat.reduceBEq, Nat.reduceLeDiff, ↓reduceIte, reduceCtorEq, Int.reduceAdd, Int.reduceSub, Int.reduceLT, Int.reduceLE, Int.reduceBEq, Int.reduceEq, Int.reduceToNat]
end Go.Proofs.Ythdkhbhicimpdaa
