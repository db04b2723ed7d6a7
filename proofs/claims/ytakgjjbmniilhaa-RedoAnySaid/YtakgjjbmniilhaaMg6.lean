/- The log: a round of load, whole. -/
import Derived.Test.YtakgjjbmniilhaaMg5
set_option linter.unusedVariables false
set_option maxRecDepth 100000
set_option linter.unusedVariables false
namespace Go.Proofs.Ytakgjjbmniilhaa
open Go Go.Vm
attribute [-go_sem] qQ
variable {h g : Heap} {R W M : Set'} {bd lp fr ct : Nat} {D : DS}
theorem LdM.keep {bw n0 : Nat} {v10 v11 : V} {H : Hd} {s : LS} (hl : LdM h lp bd fr ct bw n0 v10 v11 H s) (hk : ∀ k c e, h.get k = some (.cells c e) → g.get k = some (.cells c e)) : LdM g lp bd fr ct bw n0 v10 v11 H s := by
 obtain ⟨c, cw, cr, cn, rv, v, vs, l1, l2, l3, k0, k1, k2, k3, k8, k9, k10, k11, k12, w1, w2, w3, a0, a1, a2, a3, r1, r2, r3, r4, rd, n1, n2, n3, n4, vd, vl, ve⟩ := hl
 refine ⟨c, cw, cr, cn, rv, v, vs, hk _ _ _ l1, l2, l3, k0, k1, k2, k3, k8, k9, k10, k11, k12, hk _ _ _ w1, w2, w3, a0, a1, a2, a3, hk _ _ _ r1, r2, r3, r4, rd.keep fun b c => hk b c _, hk _ _ _ n1, n2, n3, n4, vd.keep fun b c => hk b c _, vl, fun i l hi => ?_⟩
 refine ((ve i l hi).same fun b hb _ => ?_).mono fun b _ ⟨h1, h2, c, h3⟩ => ⟨h1, h2, c, hk _ _ _ h3⟩
 obtain ⟨_, _, c, h3⟩ := hb
 rw [h3, hk _ _ _ h3]
noncomputable def lvL (tr : Tr V) (mk : Nat) : Loopv := ⟨.ready, none, ⟨211, tr⟩, [103, 104], (rc35 0).1, (rc35 0).2, mk⟩
set_option maxHeartbeats 8000000 in
theorem ld_round {y bw xb n0 mk : Nat} {cx : Blk} {r : Rc} {s : LS} {H : Hd} {tr : Tr V} {v10 v11 dv : V} {S : Set'}
  (hlo : lp < bw ∧ xb < bw ∧ xb ≠ lp ∧ bw + 2 < y ∧ y + 1 = n0 ∧ n0 ≤ g.n)
  (hy : g.get y = some (.loop (lvL tr mk)))
  (t1 : tr.get 1 = some (.ptr (some (xb, 0)))) (t8 : tr.get 8 = some (.ptr (some (bw, 0)))) (t9 : tr.get 9 = some (.ptr (some (bw + 1, 0)))) (t10 : tr.get 10 = some (.ptr (some (bw + 2, 0))))
  (x1 : g.get xb = some (.cells cx 32)) (x2 : cx.size = 1) (x3 : cx.get 0 = .ptr (some (lp, 0)))
  (hd : LR g S dv r.dat) (hS : ∀ b, S b → b ≠ y) (hdb : Byt r.dat) (hl : LdM g lp bd fr ct bw n0 v10 v11 H s)
  (hof : r.pl < r.of ∧ r.of ≤ 64) (hdl : r.dat.length ≤ 108) (hrl : s.rc.length ≤ 1000000) (hrb : Byt s.rc) (hvl : s.rs.length ≤ 10000) (hn1 : s.nx + 1 < 9223372036854775808) (hn2 : s.cn ≤ 10000 ∧ s.at' ≤ 10000) :
  SY ⟨Try.prog, true⟩ y [.agg r.v, dv] g (fun _ => True) (fun k => n0 ≤ k ∨ (k = y ∨ k = lp ∨ k = bw ∨ k = bw + 1 ∨ k = bw + 2)) fun x g' => LdF g (g'.set y (.loop (lvL tr mk))) lp bw n0 ∧
   (x = .bool true ∧ ¬ badL H.ep s r ∧ LdM g' lp bd fr ct bw n0 v10 v11 H (yB s r) ∧ g'.get y = some (.loop (lvL tr mk)) ∨ x = .bool false ∧ badL H.ep s r ∧ LdM g' lp bd fr ct bw n0 v10 v11 H s ∧ g'.get y = some (.loop { lvL tr mk with state := .done, pending := some (.exit 2) })) := by
 obtain ⟨hlb, hxb, hxl, hby, hyn, hng⟩ := hlo
 simp only [lvL] at hy ⊢
 have hone := hd.one
 have hll := Heap.lt_of_get hy
 refine SY.go Go.Proofs.Ytakgjjbmniilhaa.hm hy trivial (.inr (.inl rfl)) rfl ir35_a0_eq ir35_b0_eq ?_
 rw [ir35_b0_c_eq]
 simp -implicitDefEqProofs (disch := first | omega | (simp -implicitDefEqProofs only [szs, ne_eq] <;> omega) | fail) only [go_sem, seval, ↓reduceIte, ir35_a0, Rc.v]
 refine ⟨.inl (by omega), _, hy, rfl, ?_⟩
 obtain ⟨cm, ecm⟩ : ∃ cm, cm = ((((Blk.of [V.int IntKind.u64 0, V.int IntKind.u64 0, V.int IntKind.u8 0, V.int IntKind.u8 0]).set 0 (V.int IntKind.u64 ↑r.num)).set 1 (V.int IntKind.u64 ↑r.ep)).set 2 (V.int IntKind.u8 ↑r.pl)).set 3 (V.int IntKind.u8 ↑r.of) := ⟨_, rfl⟩
 have m2 : cm.size = 4 := by rw [ecm]; simp only [Blk.size_set]; rfl
 have b0 : cm.get 0 = .int .u64 (r.num : Int) := by rw [ecm]; simp -implicitDefEqProofs (disch := first | omega | (simp -implicitDefEqProofs only [szs, ne_eq] <;> omega) | fail) only [go_sem, seval]
 have b1 : cm.get 1 = .int .u64 (r.ep : Int) := by rw [ecm]; simp -implicitDefEqProofs (disch := first | omega | (simp -implicitDefEqProofs only [szs, ne_eq] <;> omega) | fail) only [go_sem, seval]
 have b2 : cm.get 2 = .int .u8 (r.pl : Int) := by rw [ecm]; simp -implicitDefEqProofs (disch := first | omega | (simp -implicitDefEqProofs only [szs, ne_eq] <;> omega) | fail) only [go_sem, seval]
 have b3 : cm.get 3 = .int .u8 (r.of : Int) := by rw [ecm]; simp -implicitDefEqProofs (disch := first | omega | (simp -implicitDefEqProofs only [szs, ne_eq] <;> omega) | fail) only [go_sem, seval]
 rw [← ecm]
 clear ecm
 obtain ⟨G, eG⟩ : ∃ G, G = ((g.push (O.cells (Blk.of [V.int IntKind.u64 0, V.int IntKind.u64 0, V.int IntKind.u8 0, V.int IntKind.u8 0]) 90)).set g.n (O.cells cm 90)).set y (O.loop ⟨.busy, none, ⟨211, tr⟩, [103, 104], (rc35 0).1, (rc35 0).2, mk⟩) := ⟨_, rfl⟩
 rw [← eG]
 have nG : G.n = g.n + 1 := by rw [eG]; simp
 have kG : ∀ b, b < g.n → b ≠ y → G.get b = g.get b := fun b hb h1 => by rw [eG, qB (by simp; omega) h1, qB (by simp) (by omega), qC (by omega)]
 have mG : G.get g.n = some (.cells cm 90) := by rw [eG, qB (by simp; omega) (by omega)]; exact qF (by simp) rfl _
 have lG : G.get y = some (.loop ⟨.busy, none, ⟨211, tr⟩, [103, 104], (rc35 0).1, (rc35 0).2, mk⟩) := by rw [eG]; exact qF (by simp; omega) rfl _
 clear eG
 have nel : ∀ {k c e}, g.get k = some (.cells c e) → k ≠ y := fun hk e => by rw [e, hy] at hk; cases hk
 have hlG : LdM G lp bd fr ct bw n0 v10 v11 H s := hl.keep fun k c e hk => (kG k (Heap.lt_of_get hk) (nel hk)).trans hk
 have hdG : LR G S dv r.dat := hd.same fun b hb hlt => kG b hlt (hS b hb)
 have X1 := (kG xb (by omega) (by omega)).trans x1
 have hlG' := hlG
 obtain ⟨c, cw, cr, cn, rv, v, vs, hl'⟩ := hlG
 have l3 : c.get 3 = .int .u64 (H.ep : Int) := jG hl'.k3 (j := 0) (by omega)
 have fin : ∀ (o : LoopState) (p : Option Code) g2, g2.n ≥ g.n → g2.get y = some (.loop ⟨.busy, none, ⟨211, tr⟩, [103, 104], (rc35 0).1, (rc35 0).2, mk⟩) → LdF G g2 lp bw n0 → LdF g ((g2.set y (.loop ⟨o, p, ⟨211, tr⟩, [103, 104], (rc35 0).1, (rc35 0).2, mk⟩)).set y (.loop ⟨.ready, none, ⟨211, tr⟩, [103, 104], (rc35 0).1, (rc35 0).2, mk⟩)) lp bw n0 := fun o p g2 hn h1 h2 => by
  refine ⟨by simp only [Heap.n_set]; omega, fun k q1 q2 q3 q4 q5 q6 => ?_⟩
  by_cases hky : k = y
  ·rw [hky, hy]; exact qF (by simp only [Heap.n_set]; exact Heap.lt_of_get h1) rfl _
  ·rw [qB (by simp only [Heap.n_set]; exact Heap.lt_of_get h1) hky, qB (Heap.lt_of_get h1) hky, h2.2 k (by omega) q2 q3 q4 q5 (q6.imp id fun h c => by rw [kG k q1 hky]; exact h c), kG k q1 hky]
 have keepL : ∀ {s' : LS} (o : O) g2, (∃ l, g2.get y = some (.loop l)) → LdM g2 lp bd fr ct bw n0 v10 v11 H s' → LdM (g2.set y o) lp bd fr ct bw n0 v10 v11 H s' := fun o g2 ⟨l, hl⟩ h => h.keep fun k c e hk => by
  rw [qB (Heap.lt_of_get hl) fun e => by rw [e, hl] at hk; cases hk]; exact hk
 simp -implicitDefEqProofs (disch := first | omega | (simp -implicitDefEqProofs only [szs, ne_eq] <;> omega) | fail) only [go_sem, seval, ir35_b0_c]
 refine t1_ok (fun _ => trivial) (by simp -implicitDefEqProofs (disch := first | omega | (simp -implicitDefEqProofs only [szs, ne_eq] <;> omega) | fail) only [go_sem, seval, ↓reduceIte, t1]) (by simp -implicitDefEqProofs (disch := first | omega | (simp -implicitDefEqProofs only [szs, ne_eq] <;> omega) | fail) only [go_sem, seval, ↓reduceIte, t8]) (by simp -implicitDefEqProofs (disch := first | omega | (simp -implicitDefEqProofs only [szs, ne_eq] <;> omega) | fail) only [go_sem, seval, ↓reduceIte]) X1 x2 x3 hl'.l1 hl'.l2 l3 mG m2 b0 b1 b2 b3 hl'.w1 hl'.w2 hl'.a0 hl'.a1 hl'.a2 hl'.a3 (fun hb tr' => ?_) fun hb tr' ht => ?_
 ·simp -implicitDefEqProofs (disch := first | omega | (simp -implicitDefEqProofs only [szs, ne_eq] <;> omega) | fail) only [go_sem, seval, ↓reduceIte]
  refine ⟨_, lG, fin _ _ G (by omega) lG ⟨Nat.le_refl _, fun _ _ _ _ _ _ _ => rfl⟩, .inr ⟨rfl, hb, keepL _ G ⟨_, lG⟩ hlG', rfl⟩⟩
 ·simp -implicitDefEqProofs (disch := first | omega | (simp -implicitDefEqProofs only [szs, ne_eq] <;> omega) | fail) only [go_sem, seval]
  refine f1_ok (S := S) (dv := dv) (r := r) (fun _ => trivial) (fun k hk => .inl hk) (.inr (.inr (.inl rfl))) ⟨.inr (.inr (.inr (.inl rfl))), .inr (.inr (.inr (.inr (.inl rfl)))), .inr (.inr (.inr (.inr (.inr rfl))))⟩ ⟨hlb, hxb, hxl, by omega, hng, by omega⟩ ((ht 1 (by simp)).trans (by simp -implicitDefEqProofs (disch := first | omega | (simp -implicitDefEqProofs only [szs, ne_eq] <;> omega) | fail) only [go_sem, seval, ↓reduceIte, t1])) ((ht 8 (by simp)).trans (by simp -implicitDefEqProofs (disch := first | omega | (simp -implicitDefEqProofs only [szs, ne_eq] <;> omega) | fail) only [go_sem, seval, ↓reduceIte, t8])) ((ht 9 (by simp)).trans (by simp -implicitDefEqProofs (disch := first | omega | (simp -implicitDefEqProofs only [szs, ne_eq] <;> omega) | fail) only [go_sem, seval, ↓reduceIte, t9])) ((ht 10 (by simp)).trans (by simp -implicitDefEqProofs (disch := first | omega | (simp -implicitDefEqProofs only [szs, ne_eq] <;> omega) | fail) only [go_sem, seval, ↓reduceIte, t10])) ((ht 11 (by simp)).trans (by simp -implicitDefEqProofs (disch := first | omega | (simp -implicitDefEqProofs only [szs, ne_eq] <;> omega) | fail) only [go_sem, seval, ↓reduceIte])) ((ht 12 (by simp)).trans (by simp -implicitDefEqProofs (disch := first | omega | (simp -implicitDefEqProofs only [szs, ne_eq] <;> omega) | fail) only [go_sem, seval, ↓reduceIte])) X1 x2 x3 mG m2 b0 b1 b2 b3 hdG hdb hl' hof hdl hrl hrb (by rw [hl'.vl]; exact hvl) hn1 hn2 fun tr2 g2 q1 q2 => ?_
  have lG2 := (q2.2 y (by omega) (by omega) (by omega) (by omega) (by omega) (.inl (by omega))).trans lG
  have := q2.1
  simp -implicitDefEqProofs (disch := first | omega | (simp -implicitDefEqProofs only [szs, ne_eq] <;> omega) | fail) only [go_sem, seval]
  exact ⟨_, lG2, fin _ _ g2 (by omega) lG2 q2, .inl ⟨rfl, hb, keepL _ g2 ⟨_, lG2⟩ q1, rfl⟩⟩
end Go.Proofs.Ytakgjjbmniilhaa
set_option maxRecDepth 100000
set_option linter.unusedVariables false
namespace Go.Proofs.Ytakgjjbmniilhaa
open Go Go.Vm
attribute [-go_sem] qQ
variable {h g : Heap} {R W M : Set'} {bd lp fr ct : Nat} {D : DS}
theorem recA_dat {b : List V} {r : Rc} (hb : Byt b) (h : jT b = some r) : r.dat.length ≤ 108 ∧ Byt r.dat := by
 obtain ⟨rfl, ⟨h2, _⟩, _⟩ := recA_some h
 refine ⟨?_, (hb.drop 19).take _⟩
 show ((b.drop 19).take (bAt b 18)).length ≤ 108
 rw [List.length_take]; omega
structure LdI (hA g : Heap) (lp bd fr ct bw : Nat) (v10 v11 : V) (H : Hd) (D : DS) (F : List (List V) × Nat × Nat) (p : Nat) (s : LS) : Prop where
 n : hA.n ≤ g.n
 k : ∀ k, k < hA.n → k ≠ lp → k ≠ bw → k ≠ bw + 1 → k ≠ bw + 2 → g.get k = hA.get k
 m : LdM g lp bd fr ct bw hA.n v10 v11 H s
 r : (jU (zH D fr ct H.ha) H.ep ((ct - 2) / 2 - p) p s).fin = F
 at' : s.at' + s.cn = p
 nx : s.nx ≤ H.fi + p
 rs : s.rs.length ≤ p
 rc : s.rc.length ≤ 108 * p
 by' : Byt s.rc
theorem LdI.step {hA g' : Heap} {bw p : Nat} {v10 v11 : V} {H : Hd} {F : List (List V) × Nat × Nat} {s : LS} {r : Rc} (hi : LdI hA g lp bd fr ct bw v10 v11 H D F p s) (hp : p < (ct - 2) / 2) (hr : jT (zH D fr ct H.ha p) = some r) (hb : ¬ badL H.ep s r) (hd : r.dat.length ≤ 108 ∧ Byt r.dat)
  (hn : g.n ≤ g'.n) (hk : ∀ k, k < hA.n → k ≠ lp → k ≠ bw → k ≠ bw + 1 → k ≠ bw + 2 → g'.get k = g.get k) (hm : LdM g' lp bd fr ct bw hA.n v10 v11 H (yB s r)) : LdI hA g' lp bd fr ct bw v10 v11 H D F (p + 1) (yB s r) := by
 obtain ⟨i1, i2, i3, i4, i5, i6, i7, i8, i9⟩ := hi
 refine ⟨by omega, fun k h1 h2 h3 h4 h5 => (hk k h1 h2 h3 h4 h5).trans (i2 k h1 h2 h3 h4 h5), hm, ?_, ?_, ?_, ?_, ?_, ?_⟩
 ·rw [show (ct - 2) / 2 - p = ((ct - 2) / 2 - (p + 1)) + 1 by omega, jU, hr] at i4
  simp only [if_neg hb] at i4
  exact i4
 all_goals
  by_cases he : r.pl + 1 = r.of
  ·rw [good_end he]; first | (simp only; omega) | (simp only [List.length_append, List.length_cons, List.length_nil]; omega) | exact Byt.nil
  ·rw [good_mid he]; simp only [midL]; first | omega | (rw [List.length_append]; omega) | exact i9.app hd.2
set_option maxHeartbeats 8000000 in
theorem ld_range {Q : Ex → Fr → Heap → Prop} {t : List It} {mks : List Nat} {bw xb b1 b2 a : Nat} {cx : Blk} {H : Hd} {tr : Tr V} {v10 v11 : V} (hR : ∀ b, R b) (hW : ∀ k, bw ≤ k → W k) (hWl : W lp)
  (hlo : lp < bw ∧ xb < bw ∧ xb ≠ lp ∧ bw + 2 < b1 ∧ bw + 2 < b2 ∧ bw + 2 < g.n)
  (hx : DkX g M bd D) (hM : ∀ k, M k → k < bw ∧ k ≠ lp)
  (t1 : tr.get 1 = some (.ptr (some (xb, 0)))) (t8 : tr.get 8 = some (.ptr (some (bw, 0)))) (t9 : tr.get 9 = some (.ptr (some (bw + 1, 0)))) (t10 : tr.get 10 = some (.ptr (some (bw + 2, 0))))
  (t102 : tr.get 102 = some (.func 91 [] [.ptr (some (b1, 0)), .ptr (some (b2, 0))]))
  (x1 : g.get xb = some (.cells cx 32)) (x2 : cx.size = 1) (x3 : cx.get 0 = .ptr (some (lp, 0)))
  (y1 : g.get b1 = some (.cells (Blk.of [.ptr (some (lp, 0))]) 32)) (y2 : g.get b2 = some (.cells (Blk.of [.int .i64 (a : Int)]) 3))
  (hc : 16 ≤ ct ∧ fr + ct ≤ D.n) (hD : D.n ≤ 4096) (hha : H.ha < 2) (hfi : H.fi ≤ 4611686018427387904) (ha : a ≤ (ct - 2) / 2)
  (hl : LdM g lp bd fr ct bw (g.n + 2) v10 v11 H (kN H.fi H.si [] a))
  (hk : ∀ g' s, LdM g' lp bd fr ct bw (g.n + 2) v10 v11 H s → s.fin = (jU (zH D fr ct H.ha) H.ep ((ct - 2) / 2 - a) a (kN H.fi H.si [] a)).fin → g.n ≤ g'.n → g'.get g.n = some (.deferred true) → (∀ k, k < bw → k ≠ lp → g'.get k = g.get k) → GO (⟨Try.prog, true⟩ : MP) R W none Q t ⟨⟨211, tr⟩, g.n :: mks⟩ g') :
  yH ⟨Try.prog, true⟩ R W none Q (.tmp 102) #[103, 104] (rc35 0).1 (rc35 0).2 (.blk 2 :: t) ⟨⟨211, tr⟩, mks⟩ g := by
 obtain ⟨hlb, hxb, hxl, hb1, hb2, hbn⟩ := hlo
 have hsec : ∀ s, s < D.n → (D.seen s).length = 128 ∧ Byt (D.seen s) := fun s hs => hx.sec hs
 refine yH.outer (k := 91) (xs := []) (ys := [.ptr (some (b1, 0)), .ptr (some (b2, 0))]) (by simp -implicitDefEqProofs (disch := omega) only [go_sem, seval, t102]) ca_91 ?_
 obtain ⟨hA, eA⟩ : ∃ hA, hA = (g.push (.deferred true)).push (.loop (lvL tr g.n)) := ⟨_, rfl⟩
 rw [show (([] ++ [V.yield (g.n + 1)]) ++ [.ptr (some (b1, 0)), .ptr (some (b2, 0))] : List V) = [V.yield (g.n + 1), .ptr (some (b1, 0)), .ptr (some (b2, 0))] from rfl, show (#[103, 104] : Array Tmp).toList = [103, 104] from rfl, show (⟨.ready, none, ⟨211, tr⟩, [103, 104], (rc35 0).1, (rc35 0).2, g.n⟩ : Loopv) = lvL tr g.n from rfl, ← eA]
 have nA : hA.n = g.n + 2 := by rw [eA]; simp
 have kA : ∀ b, b < g.n → hA.get b = g.get b := fun b hb => by rw [eA, qC (by simp; omega), qC (by omega)]
 have mA : hA.get g.n = some (.deferred true) := by rw [eA, qC (by simp)]; exact qH rfl _
 have lA : hA.get (g.n + 1) = some (.loop (lvL tr g.n)) := by rw [eA]; exact qH (by simp) _
 clear eA
 obtain ⟨F, eF⟩ : ∃ F, F = (jU (zH D fr ct H.ha) H.ep ((ct - 2) / 2 - a) a (kN H.fi H.si [] a)).fin := ⟨_, rfl⟩
 rw [← eF] at hk
 rw [← nA] at hk hl
 have hlA : LdM hA lp bd fr ct bw hA.n v10 v11 H (kN H.fi H.si [] a) := hl.keep fun k c e h1 => (kA k (Heap.lt_of_get h1)).trans h1
 have L0 : LdI hA hA lp bd fr ct bw v10 v11 H D F a (kN H.fi H.si [] a) := ⟨Nat.le_refl _, fun _ _ _ _ _ _ => rfl, hlA, eF.symm, rfl, by show H.fi ≤ _; omega, Nat.zero_le _, Nat.zero_le _, Byt.nil⟩
 have Wc : ∀ k, (k = g.n + 1 ∨ k = lp ∨ k = bw ∨ k = bw + 1 ∨ k = bw + 2) → k < hA.n := fun k hk => by rcases hk with rfl | rfl | rfl | rfl | rfl <;> omega
 have WW : ∀ k, (hA.n ≤ k ∨ (k = g.n + 1 ∨ k = lp ∨ k = bw ∨ k = bw + 1 ∨ k = bw + 2)) → W k := fun k hk => by
  rcases hk with hk | rfl | rfl | rfl | rfl | rfl
  ·exact hW k (by omega)
  ·exact hW _ (by omega)
  ·exact hWl
  ·exact hW _ (by omega)
  ·exact hW _ (by omega)
  ·exact hW _ (by omega)
 refine SF.mono (SF.foot (seq91 (h := hA) (y := g.n + 1) (M := M) (bd := bd) (D := D) (lp := lp) (fr := fr) (ct := ct) (H := H) (b1 := b1) (b2 := b2) (a := a) (W := fun k => k = g.n + 1 ∨ k = lp ∨ k = bw ∨ k = bw + 1 ∨ k = bw + 2) (fun p g' => ∃ s, LdI hA g' lp bd fr ct bw v10 v11 H D F p s) (fun g' => ∃ s, hA.n ≤ g'.n ∧ (∀ k, k < hA.n → k ≠ g.n + 1 → k ≠ lp → k ≠ bw → k ≠ bw + 1 → k ≠ bw + 2 → g'.get k = hA.get k) ∧ LdM g' lp bd fr ct bw hA.n v10 v11 H s ∧ s.fin = F ∧ g'.get (g.n + 1) = some (.loop { lvL tr g.n with state := .done, pending := some (.exit 2) })) hc hD hha hsec ((kA b1 (Heap.lt_of_get y1)).trans y1) ((kA b2 (Heap.lt_of_get y2)).trans y2) ha ⟨_, L0⟩ ?_ ?_ Wc ?_) (fun b _ => hR b) fun k hk => WW k (.inr hk)) ?_
 ·rintro p g' ⟨s, hi⟩
  obtain ⟨c, cw, cr, cn, rv, v, vs, hl'⟩ := hi.m
  refine ⟨hx.same (by have := hi.n; omega) fun k hk => ?_, ⟨c, hl'.l1, hl'.l2, hl'.l3, hl'.k0, hl'.k1, hl'.k2, hl'.k3⟩, hi.k b1 (by have := Heap.lt_of_get y1; omega) (by omega) (by omega) (by omega) (by omega), hi.n⟩
  have := hM k hk
  rw [hi.k k (by omega) this.2 (by omega) (by omega) (by omega), kA k (by omega)]
 ·rintro p g1 g2 ⟨s, hi⟩ hn hk
  exact ⟨s, by have := hi.n; omega, fun k h1 h2 h3 h4 h5 => (hk k (by have := hi.n; omega)).trans (hi.k k h1 h2 h3 h4 h5), hi.m.keep fun k c e h1 => (hk k (Heap.lt_of_get h1)).trans h1, hi.r, hi.at', hi.nx, hi.rs, hi.rc, hi.by'⟩
 ·rintro p n0 g1 v r hp hr ⟨s, hi⟩ ho hn0
  have hgn := hi.n
  obtain ⟨o1, o2, o3⟩ := recA_of hr
  have hsn : fr + 2 + H.ha * ((ct - 2) / 2) + p < D.n := by
   have : H.ha * ((ct - 2) / 2) + p < 2 * ((ct - 2) / 2) := by
    have : H.ha = 0 ∨ H.ha = 1 := by omega
    rcases this with e | e <;> rw [e] <;> omega
   omega
  have hdat := recA_dat (hsec _ hsn).2 hr
  have hi5 := hi.at'
  have hi6 := hi.nx
  have hi7 := hi.rs
  have hi8 := hi.rc
  have hl1 : g1.get (g.n + 1) = some (.loop (lvL tr g.n)) := (hi.k _ (by omega) (by omega) (by omega) (by omega) (by omega)).trans lA
  refine SY.mono (SY.foot (ld_round (g := g1) (y := g.n + 1) (n0 := hA.n) (mk := g.n) (S := fun b => n0 ≤ b) (s := s) (r := r) (H := H) (v10 := v10) (v11 := v11) (bd := bd) (fr := fr) (ct := ct) ⟨hlb, hxb, hxl, by omega, by omega, by omega⟩ hl1 t1 t8 t9 t10 ((hi.k xb (by omega) hxl (by omega) (by omega) (by omega)).trans ((kA xb (by omega)).trans x1)) x2 x3 ho.lr (fun b hb => by omega) hdat.2 hi.m ⟨o3, o2⟩ hdat.1 (by omega) hi.by' (by omega) (by omega) ⟨by omega, by omega⟩) (fun _ _ => trivial) (fun b hb => hb)) ?_
  rintro x g2 ⟨⟨f1, f2⟩, hq⟩
  have hly : g1.n ≤ g2.n := by rw [Heap.n_set] at f1; exact f1
  have hyl : g.n + 1 < g2.n := by omega
  have f3 : ∀ k, k ≠ g.n + 1 → k < g1.n → k ≠ lp → k ≠ bw → k ≠ bw + 1 → k ≠ bw + 2 → (k < hA.n ∨ ∀ c, g1.get k ≠ some (.cells c 5) ∧ g1.get k ≠ some (.cells c 22)) → g2.get k = g1.get k := fun k q0 q1 q2 q3 q4 q5 q6 => by
   have := f2 k q1 q2 q3 q4 q5 q6
   rw [qB hyl q0] at this; exact this
  refine ⟨?_, fun b c hb hc86 => f3 b (by omega) (Heap.lt_of_get hc86) (by omega) (by omega) (by omega) (by omega) (.inr fun c' => ⟨fun e => (by rw [hc86] at e; cases e), fun e => (by rw [hc86] at e; cases e)⟩)⟩
  rcases hq with ⟨rfl, hb, hm, hly2⟩ | ⟨rfl, hb, hm, hly2⟩
  ·refine .inl ⟨rfl, _, hi.step hp hr hb hdat hly (fun k q1 q2 q3 q4 q5 => ?_) hm⟩
   by_cases e : k = g.n + 1
   ·rw [e, hly2, hl1]
   ·exact f3 k e (by omega) q2 q3 q4 q5 (.inl q1)
  ·refine .inr ⟨rfl, s, by omega, fun k q1 q0 q2 q3 q4 q5 => (f3 k q0 (by omega) q2 q3 q4 q5 (.inl q1)).trans (hi.k k q1 q2 q3 q4 q5), hm, ?_, hly2⟩
   have := hi.r
   rw [show (ct - 2) / 2 - p = ((ct - 2) / 2 - (p + 1)) + 1 by omega, jU, hr] at this
   simp only [if_pos hb] at this
   exact this
 ·rintro v g2 (⟨p, hp1, hp2, ⟨s, hi⟩, hp3⟩ | ⟨s, j1, j2, j3, j4, j5⟩)
  ·have hgn := hi.n
   have hl1 : g2.get (g.n + 1) = some (.loop (lvL tr g.n)) := (hi.k _ (by omega) (by omega) (by omega) (by omega) (by omega)).trans lA
   have hlt := Heap.lt_of_get hl1
   refine ⟨_, hl1, by simp [lvL], hW _ (by omega), ?_⟩
   have hfin : s.fin = F := by
    rw [← hi.r]
    rcases hp3 with h3 | h3
    ·rw [h3, Nat.sub_self]; rfl
    ·by_cases h4 : p < (ct - 2) / 2
     ·rw [show (ct - 2) / 2 - p = ((ct - 2) / 2 - (p + 1)) + 1 by omega, jU, h3]
     ·rw [show (ct - 2) / 2 - p = 0 by omega]; rfl
   have kz : ∀ (o : O) k, k ≠ g.n + 1 → (g2.set (g.n + 1) o).get k = g2.get k := fun o k hk => qB hlt hk _
   simp only [lvL]
   simp -implicitDefEqProofs (disch := omega) only [go_sem, seval]
   refine hk _ s (hi.m.keep fun k c e h1 => ?_) hfin (by rw [Heap.n_set]; omega) ?_ fun k h1 h2 => ?_
   ·rw [kz _ k (fun e => by rw [e, hl1] at h1; cases h1)]; exact h1
   ·rw [kz _ _ (by omega), hi.k _ (by omega) (by omega) (by omega) (by omega) (by omega), mA]
   ·rw [kz _ _ (by omega), hi.k _ (by omega) h2 (by omega) (by omega) (by omega), kA k (by omega)]
  ·have hlt := Heap.lt_of_get j5
   refine ⟨_, j5, by simp [lvL], hW _ (by omega), ?_⟩
   have kz : ∀ (o : O) k, k ≠ g.n + 1 → (g2.set (g.n + 1) o).get k = g2.get k := fun o k hk => qB hlt hk _
   simp only [lvL]
   simp -implicitDefEqProofs (disch := omega) only [go_sem, seval, ↓reduceIte]
   refine hk _ s (j3.keep fun k c e h1 => ?_) j4 (by rw [Heap.n_set]; omega) ?_ fun k h1 h2 => ?_
   ·rw [kz _ k (fun e => by rw [e, j5] at h1; cases h1)]; exact h1
   ·rw [kz _ _ (by omega), j2 _ (by omega) (by omega) (by omega) (by omega) (by omega) (by omega), mA]
   ·rw [kz _ _ (by omega), j2 _ (by omega) (by omega) h2 (by omega) (by omega) (by omega), kA k (by omega)]
end Go.Proofs.Ytakgjjbmniilhaa
set_option maxRecDepth 100000
set_option linter.unusedVariables false
namespace Go.Proofs.Ytakgjjbmniilhaa
open Go Go.Vm
attribute [-go_sem] qQ
variable {h g : Heap} {R W M : Set'} {bd lp fr ct : Nat} {D : DS}
def jS (sec : Nat → List V) (k : Nat) : List V := ((List.range k).map fun i => (sec i).drop 8).flatten
theorem snapC_succ (sec : Nat → List V) (k : Nat) : jS sec (k + 1) = jS sec k ++ (sec k).drop 8 := by
 unfold jS; rw [List.range_succ, List.map_append, List.flatten_append]; simp
theorem snapC_len {sec : Nat → List V} : ∀ {k : Nat}, (∀ i, i < k → (sec i).length = 128) → (jS sec k).length = 120 * k
 | 0, _ => rfl
 | k + 1, h => by
  rw [snapC_succ, List.length_append, snapC_len fun i hi => h i (by omega), List.length_drop, h k (by omega)]; omega
theorem snapC_byt {sec : Nat → List V} : ∀ {k : Nat}, (∀ i, i < k → Byt (sec i)) → Byt (jS sec k)
 | 0, _ => Byt.nil
 | k + 1, h => by
  rw [snapC_succ]; exact (snapC_byt fun i hi => h i (by omega)).app ((h k (by omega)).drop 8)
theorem sl_128 (b : Nat) : kC Try.prog 22 (.slice (some (b, 0)) 128 128 true) (some 8) none none = some (.slice (some (b, 8)) 120 120 true) := by
 simp only [kC, Try.underlying22, sz_5, kJ]
 rfl
set_option maxHeartbeats 8000000 in
theorem ld_loop {Q : Ex → Fr → Heap → Prop} {t : List It} {g2 : Heap} {xb bb K : Nat} {H : Hd} {tr : Tr V} {cx ca : Blk} (hR : ∀ b, R b) (hW : ∀ k, g2.n ≤ k → W k)
  (hx : DkX g2 M bd D) (hl : LogH g2 lp bd fr ct H)
  (t1 : tr.get 1 = some (.ptr (some (xb, 0)))) (t2 : tr.get 2 = some (.ptr (some (bb, 0)))) (t4 : tr.get 4 = some (.slice none 0 0 true)) (t24 : tr.get 24 = some (.int .i64 (K : Int))) (t25 : tr.get 25 = some (.int .i64 0))
  (x1 : g2.get xb = some (.cells cx 32)) (x2 : cx.size = 1) (x3 : cx.get 0 = .ptr (some (lp, 0)))
  (a1 : g2.get bb = some (.cells ca 86)) (a2 : ca.size = 2) (a3 : ca.get 0 = .int .i64 ((fr + 2 : Nat) : Int)) (a4 : ca.get 1 = .int .i64 ((fr + 2 + (ct - 2) / 2 : Nat) : Int))
  (hc : 16 ≤ ct ∧ fr + ct ≤ D.n) (hD : D.n ≤ 4096) (hha : H.ha < 2) (hK : K ≤ (ct - 2) / 2)
  (hk : ∀ tr g v, tr.get 1 = some (.ptr (some (xb, 0))) → tr.get 4 = some v → Own g2.n g v (jS (zH D fr ct H.ha) K) 5 → g2.n ≤ g.n → (∀ k, k < g2.n → g.get k = g2.get k) → resume (⟨Try.prog, true⟩ : MP) R W none Q t (.exit 0) ⟨⟨211, tr⟩, []⟩ g) :
  kE (⟨Try.prog, true⟩ : MP) R W none Q xE t ⟨⟨211, tr⟩, []⟩ g2 := by
 refine kE.inv hm (fun k f g => f.mks = [] ∧ f.tm.n = 211 ∧ f.tm.get 1 = some (.ptr (some (xb, 0))) ∧ f.tm.get 2 = some (.ptr (some (bb, 0))) ∧ f.tm.get 24 = some (.int .i64 (K : Int)) ∧ ∃ (i : Nat) (v : V), i + k = K ∧ f.tm.get 25 = some (.int .i64 (i : Int)) ∧ f.tm.get 4 = some v ∧ Own g2.n g v (jS (zH D fr ct H.ha) i) 5 ∧ g2.n ≤ g.n ∧ ∀ k, k < g2.n → g.get k = g2.get k) K ?_ ?_
 ·exact ⟨rfl, rfl, t1, t2, t24, 0, _, by omega, t25, t4, Own.nil _ _ _, Nat.le_refl _, fun _ _ => rfl⟩
 clear t1 t2 t4 t24 t25
 clear tr
 rintro k ⟨⟨n', tr⟩, mks⟩ g ⟨hmk, hn', t1, t2, t24, i, v, hik, t25, t4, ho, hng, kg⟩
 simp only [Tm.kL] at hmk hn' t1 t2 t4 t24 t25
 subst hmk hn'
 have hsec : ∀ j, j < (ct - 2) / 2 → (zH D fr ct H.ha j).length = 128 ∧ Byt (zH D fr ct H.ha j) := fun j hj => hx.sec (by
  have : H.ha * ((ct - 2) / 2) + j < 2 * ((ct - 2) / 2) := by
   have : H.ha = 0 ∨ H.ha = 1 := by omega
   rcases this with e | e <;> rw [e] <;> omega
  omega)
 by_cases hi : i < K
 rotate_left
 ·have hci : ¬ (i : Int) < (K : Int) := by omega
  obtain rfl : i = K := by omega
  simp -implicitDefEqProofs (disch := omega) only [go_sem, seval, ↓reduceIte, xE, t24, t25, hci]
  exact hk _ _ v (by simp -implicitDefEqProofs (disch := omega) only [go_sem, seval, ↓reduceIte, t1]) (by simp -implicitDefEqProofs (disch := omega) only [go_sem, seval, ↓reduceIte, t4]) ho hng kg
 have hci : (i : Int) < (K : Int) := by omega
 obtain ⟨cl, l1, l2, l3, l4, l5, l6, l7⟩ := hl
 have l8 : cl.get 5 = .int .u64 (H.ha : Int) := jG l7 (j := 2) (by omega)
 have hA : (H.ha : Int) < ((2 : Nat) : Int) := by omega
 have hA0 : (0 : Int) ≤ (H.ha : Int) := by omega
 have ag : ca.get H.ha = .int .i64 ((fr + 2 + H.ha * ((ct - 2) / 2) : Nat) : Int) := by
  have : H.ha = 0 ∨ H.ha = 1 := by omega
  rcases this with e | e <;> rw [e]
  ·rw [a3, Nat.zero_mul, Nat.add_zero]
  ·rw [a4, Nat.one_mul]
 have e1 : ((fr + 2 + H.ha * ((ct - 2) / 2) : Nat) : Int) + (i : Int) = ((fr + 2 + H.ha * ((ct - 2) / 2) + i : Nat) : Int) := by omega
 have hsn : fr + 2 + H.ha * ((ct - 2) / 2) + i < D.n := by
  have : H.ha * ((ct - 2) / 2) + i < 2 * ((ct - 2) / 2) := by
   have : H.ha = 0 ∨ H.ha = 1 := by omega
   rcases this with e | e <;> rw [e] <;> omega
  omega
 have hbl : H.ha < ca.size := by omega
 have hmulu : fr + 2 + H.ha * ((ct - 2) / 2) + i < 4096 := by omega
 have X1 := (kg xb (Heap.lt_of_get x1)).trans x1
 have L1 := (kg lp (Heap.lt_of_get l1)).trans l1
 have A1 := (kg bb (Heap.lt_of_get a1)).trans a1
 have hxg : DkX g M bd D := hx.old hng kg
 have ra := hR xb
 have rb := hR lp
 have rc := hR bb
 simp -implicitDefEqProofs (disch := omega) only [go_sem, Nat.reduceAdd, Nat.reduceEqDiff, ↓reduceIte, xE, t1, t2, t24, t25, hci, X1, x2, x3, L1, l2, l4, l8, hA, hA0, A1, a2, ag, e1]
 refine qN.of (R' := fun _ => True) (W' := fun _ => False) ((read_dk (R := fun _ => True) (W := fun _ => False) hxg (fun _ => trivial) hsn).any.foot (fun _ h => h) (fun _ h => h)) ?_
 rintro r g1 ⟨b, rfl, hb, n1, k1⟩
 have hq : D.seen (fr + 2 + H.ha * ((ct - 2) / 2) + i) = zH D fr ct H.ha i := rfl
 rw [hq] at hb
 have hs := hsec i (by omega)
 have hd : LR g1 (fun k => g.n ≤ k) (.slice (some (b, 8)) 120 120 true) ((zH D fr ct H.ha i).drop 8) := by
  rcases hb with ⟨h1, _⟩ | ⟨b', o, cap, ex, c, ce, hbe, _, h1, h2, h3⟩
  ·have := hs.1; rw [h1] at this; cases this
  ·rw [hs.1] at hbe h2 h3
   cases hbe
   have := sub_lr (o := 8) (k := 120) (cap := 120) (ex := true) h1 (by omega) h3 (by omega)
   rw [List.take_of_length_le (by rw [List.length_drop]; omega)] at this
   exact this.mono fun x _ hx => by subst hx; assumption
 have ho1 : Own g2.n g1 v (jS (zH D fr ct H.ha) i) 5 := ho.old k1
 obtain ⟨q1, rs, q2⟩ := first_lr' hd
 have hl1 : (jS (zH D fr ct H.ha) i).length = 120 * i := snapC_len fun j hj => (hsec j (by omega)).1
 obtain ⟨v2, G, rr, ww, hap, ho2, nG, lG, wG, kG, tG⟩ := jK (bytes := 1) ho1 (by omega) q1 q2 (hs.2.drop 8).allOne (by rw [List.length_drop]; omega) (by rw [List.length_drop]; omega)
 have hvo := ho2.lr.one
 have hvo1 := ho1.lr.one
 have q3 : allB R rr := qO fun b _ => hR b
 have q4 : allB W ww := qO fun b hb => hW b (wG b hb)
 simp -implicitDefEqProofs (disch := omega) only [go_sem, seval, ↓reduceIte, t1, t2, t4, t24, t25, sl_128, qU jO, hap, q3, q4]
 refine ⟨⟨fun _ => hR _, fun _ => hR _, fun _ => hR _, fun _ => hR _, fun _ => hR _, fun b _ _ => hR b, fun b _ h => h.elim⟩, k - 1, by omega, i + 1, v2, by omega, by simp, rfl, by rw [snapC_succ]; exact ho2, by omega, fun k hk => ?_⟩
 rw [lG k hk, k1 k (by omega), kg k hk]
theorem sl_all {n0 sz : Nat} {v : V} {l : List V} (ho : Own n0 h v l 5) (hs : sz ≤ l.length) : ∃ v', kC Try.prog 22 v none (some (sz : Int)) (some (sz : Int)) = some v' ∧ LR h (fun b => n0 ≤ b ∧ ∃ c, h.get b = some (.cells c 5)) v' (l.take sz) := by
 have hbv : ∀ n : Nat, sz ≤ n → kJ n n none (some (sz : Int)) (some (sz : Int)) = some (0, sz, sz) := fun n hn => by
  simp only [kJ, Int.toNat_natCast]
  rw [if_pos (by omega)]
  simp only []
  rw [if_pos (by omega)]
 have hlt : (l.take sz).length = sz := by rw [List.length_take]; omega
 rcases ho with ⟨rfl, rfl | ⟨b, c, rfl, h1, hb, hr⟩⟩ | ⟨b, x, c, h0, rfl, h1, hb, hs', hr, hg⟩
 ·obtain rfl : sz = 0 := by simpa using hs
  exact ⟨_, by simp only [kC, Try.underlying22, sz_5]; rfl, .inl ⟨rfl, .inl rfl⟩⟩
 ·obtain rfl : sz = 0 := by simpa using hs
  refine ⟨.slice (some (b, 0)) 0 0 true, by simp only [kC, Try.underlying22, sz_5]; rfl, .inr ⟨b, 0, 0, true, c, 5, rfl, ⟨h1, c, hb⟩, hb, by simp, rfl⟩⟩
 ·refine ⟨.slice (some (b, 0)) sz sz true, ?_, .inr ⟨b, 0, sz, true, c, 5, by rw [hlt], ⟨h1, c, hb⟩, hb, by omega, by rw [hlt, gets_sub hg (by omega), List.drop_zero]⟩⟩
  simp only [kC, Try.underlying22, sz_5]
  rw [hbv _ hs]
  cases x <;> (simp only [Nat.zero_mul, Nat.sub_zero]; cases Nat.beq sz 0 <;> rfl)
end Go.Proofs.Ytakgjjbmniilhaa
