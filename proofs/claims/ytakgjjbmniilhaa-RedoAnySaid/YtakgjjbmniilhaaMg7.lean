/- The log: load. -/
import Derived.Test.YtakgjjbmniilhaaMg6
set_option linter.unusedVariables false
set_option maxRecDepth 100000
set_option linter.unusedVariables false
namespace Go.Proofs.Ytakgjjbmniilhaa
open Go Go.Vm
attribute [-go_sem] qQ
variable {h g : Heap} {R W M : Set'} {bd lp fr ct : Nat} {D : DS}
def LogW (h : Heap) (lp bd fr ct : Nat) (H : Hd) (v10 : V) : Prop := ∃ c, h.get lp = some (.cells c 47) ∧ c.size = 13 ∧ c.ro = false ∧ c.get 0 = .ptr (some (bd, 0)) ∧ c.get 1 = .int .i64 (fr : Int) ∧ c.get 2 = .int .i64 (ct : Int) ∧ c.gets 3 5 = H.v ∧ c.get 10 = v10
def N5 (h : Heap) (N : Set') : Set' := fun b => N b ∧ ∃ c, h.get b = some (.cells c 5)
structure LogR (g : Heap) (lp bd fr ct : Nat) (N : Set') (v10 : V) (H : Hd) (nx at' : Nat) (sn : List V) (rs : List (List V)) (c : Blk) (v11 rv : V) (vs : List V) : Prop where
 l1 : g.get lp = some (.cells c 47)
 l2 : c.size = 13
 l3 : c.ro = false
 k0 : c.get 0 = .ptr (some (bd, 0))
 k1 : c.get 1 = .int .i64 (fr : Int)
 k2 : c.get 2 = .int .i64 (ct : Int)
 k3 : c.gets 3 5 = H.v
 k8 : c.get 8 = .int .u64 (nx : Int)
 k9 : c.get 9 = .int .i64 (at' : Int)
 k10 : c.get 10 = v10
 k11 : c.get 11 = v11
 k12 : c.get 12 = rv
 sd : LR g (N5 g N) v11 sn
 vd : Own 0 g rv vs 22
 vn : rv = .slice none 0 0 true ∨ N (sblk rv)
 vl : vs.length = rs.length
 ve : ∀ i l, rs[i]? = some l → LR g (N5 g N) (vs.getD i qE) l
def LogAt (g : Heap) (lp bd fr ct : Nat) (N : Set') (v10 : V) (H : Hd) (nx at' : Nat) (sn : List V) (rs : List (List V)) : Prop := ∃ c v11 rv vs, LogR g lp bd fr ct N v10 H nx at' sn rs c v11 rv vs
def snapA (D : DS) (fr ct : Nat) (H : Hd) : List V := (jS (zH D fr ct H.ha) (qL H.sz)).take H.sz
noncomputable def zX (D : DS) (fr ct : Nat) (H : Hd) : List (List V) × Nat × Nat := (jU (zH D fr ct H.ha) H.ep ((ct - 2) / 2 - qL H.sz) (qL H.sz) (kN H.fi H.si [] (qL H.sz))).fin
noncomputable def ir35_d3 : LC := (pk (fun l0 r => atP (ir0 Try.f35 [l0] [r 0]) [1, 1, 1, 1, 1, 1]) _) xE rc35
noncomputable def ir35_d2 : LC := (pk (fun l0 r p0 => jX (atP (ir0 Try.f35 [l0] [r 0]) [1, 1, 1, 1, 1]) [1] p0) _) xE rc35 ir35_d3
noncomputable def ir35_d1 : LC := (pk (fun l0 r p0 => jX (atP (ir0 Try.f35 [l0] [r 0]) [1, 1, 1, 1]) [1] p0) _) xE rc35 ir35_d2
noncomputable def ir35_c : LC := (pk (fun l0 r p0 => jX (ir0 Try.f35 [l0] [r 0]) [1, 1, 1, 1] p0) _) xE rc35 ir35_d1
theorem ir35_c_eq : ir35 = ir35_c := rfl
set_option maxHeartbeats 8000000 in
theorem d1_ok {Q : Ex → Fr → Heap → Prop} {t : List It} {g : Heap} {xb sz : Nat} {tr : Tr V} {cx c : Blk} {v v' : V} (hR : ∀ b, R b) (hW : W lp)
  (t1 : tr.get 1 = some (.ptr (some (xb, 0)))) (t4 : tr.get 4 = some v)
  (x1 : g.get xb = some (.cells cx 32)) (x2 : cx.size = 1) (x3 : cx.get 0 = .ptr (some (lp, 0)))
  (l1 : g.get lp = some (.cells c 47)) (l2 : c.size = 13) (l3 : c.ro = false) (c6 : c.get 6 = .int .u64 (sz : Int))
  (hs : kC Try.prog 22 v none (some (sz : Int)) (some (sz : Int)) = some v') (hv : v.one = true) (hv' : v'.one = true) (hvc : v'.qZ = [v'])
  (hk : ∀ tr', tr'.get 1 = some (.ptr (some (xb, 0))) → GO (⟨Try.prog, true⟩ : MP) R W none Q (.code ir35_d2 :: t) ⟨⟨211, tr'⟩, []⟩ (g.set lp (.cells (c.set 11 v') 47))) :
  GO (⟨Try.prog, true⟩ : MP) R W none Q (.code ir35_d1 :: t) ⟨⟨211, tr⟩, []⟩ g := by
 have ra := hR xb
 have rb := hR lp
 simp -implicitDefEqProofs (disch := omega) only [go_sem, seval, ↓reduceIte, ir35_d1, qE, t1, t4, x1, x2, x3, l1, l2, l3, c6, ra, rb, hs, ↓hv', ↓hvc, hW]
 refine hk _ ?_
 simp -implicitDefEqProofs (disch := omega) only [go_sem, seval, ↓reduceIte, t1]
set_option maxHeartbeats 8000000 in
theorem d2_ok {Q : Ex → Fr → Heap → Prop} {t : List It} {g : Heap} {xb sz fi : Nat} {tr : Tr V} {cx c : Blk} (hR : ∀ b, R b) (hW : W lp) (hsz : sz ≤ 1000000000)
  (t1 : tr.get 1 = some (.ptr (some (xb, 0))))
  (x1 : g.get xb = some (.cells cx 32)) (x2 : cx.size = 1) (x3 : cx.get 0 = .ptr (some (lp, 0))) (hxl : xb ≠ lp)
  (l1 : g.get lp = some (.cells c 47)) (l2 : c.size = 13) (l3 : c.ro = false) (c6 : c.get 6 = .int .u64 (sz : Int)) (c7 : c.get 7 = .int .u64 (fi : Int))
  (hk : ∀ tr' g', tr'.get 1 = some (.ptr (some (xb, 0))) → g'.n = g.n → (∀ k, k ≠ lp → g'.get k = g.get k) → g'.get lp = some (.cells (((c.set 9 (.int .i64 (qL sz : Nat))).set 8 (.int .u64 (fi : Int))).set 12 (.slice none 0 0 true)) 47) → GO (⟨Try.prog, true⟩ : MP) R W none Q (.code ir35_d3 :: t) ⟨⟨211, tr'⟩, []⟩ g') :
  GO (⟨Try.prog, true⟩ : MP) R W none Q (.code ir35_d2 :: t) ⟨⟨211, tr⟩, []⟩ g := by
 have ra := hR xb
 have rb := hR lp
 have hll := Heap.lt_of_get l1
 have hcv : IntKind.i64.wrap (sz : Int) = (sz : Int) := by rw [IntWalk.i64_in] <;> omega
 simp -implicitDefEqProofs (disch := first | omega | (simp -implicitDefEqProofs only [szs, ne_eq] <;> omega) | fail) only [go_sem, seval, ↓reduceIte, ir35_d2, t1, x1, x2, x3, l1, l2, c6, cvd42_3, c42_3, hcv]
 refine qN.of ((sectors_ok (R := noW) (W := noW) (n := sz) (by omega)).foot (fun _ h => h) (fun _ h => h)) ?_
 rintro r g1 ⟨rfl, rfl⟩
 simp -implicitDefEqProofs (disch := first | omega | (simp -implicitDefEqProofs only [szs, ne_eq] <;> omega) | fail) only [go_sem, seval, ↓reduceIte, qE, t1, x1, x2, x3, l1, l2, l3, c7, ra, rb, hW]
 refine ⟨?_, ⟨fun b _ h => h.elim, fun b _ h => h.elim⟩, hk _ _ ?_ ?_ ?_ ?_⟩
 ·and_intros
  all_goals (intro b hb hc; simp only [noW, List.not_mem_nil, and_false, false_or, or_false, List.mem_singleton] at hb hc <;> omega)
 ·simp -implicitDefEqProofs (disch := first | omega | (simp -implicitDefEqProofs only [szs, ne_eq] <;> omega) | fail) only [go_sem, seval, ↓reduceIte, t1]
 ·simp only [Heap.n_set]
 ·intro k hk
  rw [qB (by simp only [Heap.n_set]; exact hll) hk, qB (by simp only [Heap.n_set]; exact hll) hk, qB hll hk]
 ·exact qF (by simp only [Heap.n_set]; exact hll) rfl _
theorem Own.nb {n0 : Nat} {h : Heap} {v : V} {l : List V} {e : TypeId} (ho : Own n0 h v l e) : v = .slice none 0 0 true ∨ n0 ≤ sblk v := by
 rcases ho with ⟨rfl, rfl | ⟨b, c, rfl, h1, hb, hr⟩⟩ | ⟨b, x, c, h0, rfl, h1, hb, hs⟩
 ·exact .inl rfl
 ·exact .inr h1
 ·exact .inr h1
theorem gets3 {c c' : Blk} (h : ∀ j, 3 ≤ j → j < 8 → c'.get j = c.get j) : c'.gets 3 5 = c.gets 3 5 := by
 refine List.ext_getElem? fun j => ?_
 by_cases hj : j < 5
 ·rw [Blk.qM _ _ _ _ hj, Blk.qM _ _ _ _ hj, h _ (by omega) (by omega)]
 ·rw [List.getElem?_eq_none (by rw [Blk.qJ]; omega), List.getElem?_eq_none (by rw [Blk.qJ]; omega)]
set_option maxHeartbeats 8000000 in
theorem d3_ok {Q : Ex → Fr → Heap → Prop} {t : List It} {g : Heap} {xb a : Nat} {H : Hd} {tr : Tr V} {cx c : Blk} {v10 v11 : V} (hR : ∀ b, R b) (hW : ∀ k, g.n ≤ k → W k) (hWl : W lp) (hxl : xb ≠ lp)
  (t1 : tr.get 1 = some (.ptr (some (xb, 0))))
  (x1 : g.get xb = some (.cells cx 32)) (x2 : cx.size = 1) (x3 : cx.get 0 = .ptr (some (lp, 0)))
  (l1 : g.get lp = some (.cells c 47)) (l2 : c.size = 13) (l3 : c.ro = false) (k0 : c.get 0 = .ptr (some (bd, 0))) (k1 : c.get 1 = .int .i64 (fr : Int)) (k2 : c.get 2 = .int .i64 (ct : Int)) (k3 : c.gets 3 5 = H.v) (k8 : c.get 8 = .int .u64 (H.fi : Int)) (k9 : c.get 9 = .int .i64 (a : Int)) (k10 : c.get 10 = v10) (k11 : c.get 11 = v11) (k12 : c.get 12 = .slice none 0 0 true)
  (hx : DkX g M bd D) (hM : ¬ M lp) (hc : 16 ≤ ct ∧ fr + ct ≤ D.n) (hD : D.n ≤ 4096) (hha : H.ha < 2) (hfi : H.fi ≤ 4611686018427387904) (ha : a ≤ (ct - 2) / 2)
  (hk : ∀ tr' g' s m, LdM g' lp bd fr ct g.n (g.n + 7) v10 v11 H s → s.fin = (jU (zH D fr ct H.ha) H.ep ((ct - 2) / 2 - a) a (kN H.fi H.si [] a)).fin → g.n ≤ g'.n → g.n ≤ m → g'.get m = some (.deferred true) → (∀ k, k < g.n → k ≠ lp → g'.get k = g.get k) → GO (⟨Try.prog, true⟩ : MP) R W none Q t ⟨⟨211, tr'⟩, [m]⟩ g') :
  GO (⟨Try.prog, true⟩ : MP) R W none Q (.code ir35_d3 :: t) ⟨⟨211, tr⟩, []⟩ g := by
 have ra := hR xb
 have rb := hR lp
 have c4 : c.get 4 = .int .u64 (H.si : Int) := jG k3 (j := 1) (by omega)
 have c7 : c.get 7 = .int .u64 (H.fi : Int) := jG k3 (j := 4) (by omega)
 have hll := Heap.lt_of_get l1
 have hxx := Heap.lt_of_get x1
 simp -implicitDefEqProofs (disch := first | omega | (simp -implicitDefEqProofs only [szs, ne_eq] <;> omega) | fail) only [go_sem, seval, ↓reduceIte, ir35_d3, qE, t1, x1, x2, x3, l1, l2, c4, c7, k9, ra, rb]
 refine ⟨by (try simp only [List.not_mem_nil, or_false, false_or, and_false, false_implies, implies_true, not_false_eq_true, List.mem_cons, and_true]; try and_intros; all_goals (try trivial); all_goals (intro b hb; first | omega | (intro hc; first | omega | (rcases hb with hb | hb <;> first | omega)))), fun _ => hW _ (Nat.le_refl _), hW _ (by omega), ?_⟩
 refine qN.of ((ok70 (R := noW) (W := noW) (at' := (a : Int))).foot (fun _ h => h) (fun _ h => h)) ?_
 rintro r g1 ⟨rfl, e1⟩
 simp -implicitDefEqProofs (disch := first | omega | (simp -implicitDefEqProofs only [szs, ne_eq] <;> omega) | fail) only [go_sem, seval, ↓reduceIte]
 obtain ⟨cw, ecw⟩ : ∃ cw, cw = ((((Blk.of [V.int IntKind.u64 0, V.int IntKind.u64 0, V.int IntKind.u8 0, V.int IntKind.u8 0]).set 0 (V.int IntKind.u64 ↑H.fi)).set 1 (V.int IntKind.u64 ↑H.si)).set 2 (V.int IntKind.u8 0)).set 3 (V.int IntKind.u8 0) := ⟨_, rfl⟩
 rw [← ecw] at e1
 have hs : ∀ x : Nat, x < g.n + 5 → x < g.n + 5 := fun _ h => h
 have nG : g1.n = g.n + 5 := by rw [e1]; simp only [Heap.qG, Heap.n_set]
 have B0 : g1.get g.n = some (.cells cw 90) := by
  rw [e1, qC (by simp only [Heap.qG, Heap.n_set]; omega), qC (by simp only [Heap.qG, Heap.n_set]; omega), qB (by simp only [Heap.qG, Heap.n_set]; omega) (by omega), qC (by simp only [Heap.qG, Heap.n_set]; omega), qC (by simp only [Heap.qG, Heap.n_set]; omega)]
  exact qF (by simp only [Heap.qG]; omega) rfl _
 have B1 : g1.get (g.n + 1) = some (.cells (Blk.of [V.slice none 0 0 true]) 22) := by
  rw [e1, qC (by simp only [Heap.qG, Heap.n_set]; omega), qC (by simp only [Heap.qG, Heap.n_set]; omega), qB (by simp only [Heap.qG, Heap.n_set]; omega) (by omega), qC (by simp only [Heap.qG, Heap.n_set]; omega)]
  exact qH (by simp only [Heap.qG, Heap.n_set]) _
 have B2 : g1.get (g.n + 2) = some (.cells ((Blk.of [V.int IntKind.i64 0]).set 0 (V.int IntKind.i64 0)) 3) := by
  rw [e1, qC (by simp only [Heap.qG, Heap.n_set]; omega), qC (by simp only [Heap.qG, Heap.n_set]; omega)]
  exact qF (by simp only [Heap.qG, Heap.n_set]; omega) rfl _
 have B3 : g1.get (g.n + 3) = some (.cells (Blk.of [V.ptr (some (lp, 0))]) 32) := by
  rw [e1, qC (by simp only [Heap.qG, Heap.n_set]; omega)]
  exact qH (by simp only [Heap.qG, Heap.n_set]) _
 have B4 : g1.get (g.n + 4) = some (.cells (Blk.of [V.int IntKind.i64 (a : Int)]) 3) := by
  rw [e1]
  exact qH (by simp only [Heap.qG, Heap.n_set]) _
 have kG : ∀ k, k < g.n → g1.get k = g.get k := fun k hk => by
  rw [e1, qC (by simp only [Heap.qG, Heap.n_set]; omega), qC (by simp only [Heap.qG, Heap.n_set]; omega), qB (by simp only [Heap.qG, Heap.n_set]; omega) (by omega), qC (by simp only [Heap.qG, Heap.n_set]; omega), qC (by simp only [Heap.qG, Heap.n_set]; omega), qB (by simp only [Heap.qG]; omega) (by omega), qC (by omega)]
 clear e1
 have hl : LdM g1 lp bd fr ct g.n (g1.n + 2) v10 v11 H (kN H.fi H.si [] a) := by
  refine ⟨c, cw, _, _, _, _, [], (kG lp hll).trans l1, l2, l3, k0, k1, k2, k3, k8, k9, k10, k11, k12, B0, by rw [ecw]; simp only [Blk.size_set]; rfl, by rw [ecw]; simp only [Blk.qY]; rfl, ?_, ?_, ?_, ?_, B1, rfl, rfl, rfl, Own.nil _ _ _, B2, by simp only [Blk.size_set]; rfl, by simp only [Blk.qY]; rfl, ?_, Own.nil _ _ _, rfl, fun i l hi => by simp [kN] at hi⟩
  ·rw [ecw]; simp -implicitDefEqProofs (disch := first | omega | (simp -implicitDefEqProofs only [szs, ne_eq] <;> omega) | fail) only [go_sem, seval, kN]
  ·rw [ecw]; simp -implicitDefEqProofs (disch := first | omega | (simp -implicitDefEqProofs only [szs, ne_eq] <;> omega) | fail) only [go_sem, seval, kN]
  ·rw [ecw]; simp -implicitDefEqProofs (disch := first | omega | (simp -implicitDefEqProofs only [szs, ne_eq] <;> omega) | fail) only [go_sem, kN]; rfl
  ·rw [ecw]; simp -implicitDefEqProofs (disch := first | omega | (simp -implicitDefEqProofs only [szs, ne_eq] <;> omega) | fail) only [go_sem, kN]; rfl
  ·simp -implicitDefEqProofs (disch := first | omega | (simp -implicitDefEqProofs only [szs, ne_eq] <;> omega) | fail) only [go_sem, kN]; rfl
 refine ⟨⟨fun _ => ra, fun _ => ra, fun _ => rb, fun b _ h => h.elim, fun b _ h => h.elim⟩, ld_range (xb := xb) (b1 := g.n + 3) (b2 := g.n + 4) hR hW hWl ⟨hll, hxx, hxl, by omega, by omega, by omega⟩ (hx.old (by omega) kG) (fun k hk => ⟨hx.lt k hk, fun e => hM (e ▸ hk)⟩) (by simp -implicitDefEqProofs (disch := first | omega | (simp -implicitDefEqProofs only [szs, ne_eq] <;> omega) | fail) only [go_sem, seval, ↓reduceIte, t1]) (by simp -implicitDefEqProofs (disch := first | omega | (simp -implicitDefEqProofs only [szs, ne_eq] <;> omega) | fail) only [go_sem, seval, ↓reduceIte]) (by simp -implicitDefEqProofs (disch := first | omega | (simp -implicitDefEqProofs only [szs, ne_eq] <;> omega) | fail) only [go_sem, seval, ↓reduceIte]) (by simp -implicitDefEqProofs (disch := first | omega | (simp -implicitDefEqProofs only [szs, ne_eq] <;> omega) | fail) only [go_sem, seval, ↓reduceIte]) (by simp -implicitDefEqProofs (disch := first | omega | (simp -implicitDefEqProofs only [szs, ne_eq] <;> omega) | fail) only [go_sem, seval, ↓reduceIte]) ((kG xb hxx).trans x1) x2 x3 B3 B4 hc hD hha hfi ha hl fun g' s q1 q2 q3 q4 q5 => ?_⟩
 rw [show g1.n + 2 = g.n + 7 by omega] at q1
 exact hk _ g' s g1.n q1 q2 (by omega) (by omega) q4 (fun k hk1 hk2 => (q5 k hk1 hk2).trans (kG k hk1))
set_option maxHeartbeats 16000000 in
theorem load_ok {H : Hd} {v10 : V} (hx : DkX h M bd D) (hl : LogW h lp bd fr ct H v10) (hM : ¬ M lp) (hc : 16 ≤ ct ∧ fr + ct ≤ D.n) (hD : D.n ≤ 4096) (hha : H.ha < 2) (hsz : H.sz ≤ (ct - 2) / 2 * 120) (hfi : H.fi ≤ 4611686018427387904) (hlt : H.Lt) (hR : ∀ b, R b) (hW : W lp) :
  SF ⟨Try.prog, true⟩ 35 [.ptr (some (lp, 0))] h R W fun _ g => h.n ≤ g.n ∧ (∀ k, k < h.n → k ≠ lp → g.get k = h.get k) ∧ LogAt g lp bd fr ct (fun k => h.n ≤ k) v10 H (zX D fr ct H).2.2 (zX D fr ct H).2.1 (snapA D fr ct H) (zX D fr ct H).1 := by
 obtain ⟨c, l1, l2, l3, k0, k1, k2, k3, k10⟩ := hl
 have hll := Heap.lt_of_get l1
 have kA : ∀ (o : O) k, k < h.n → (h.push o).get k = h.get k := fun o k hk => qC (by omega) _
 have hK : qL H.sz ≤ (ct - 2) / 2 := by unfold qL; omega
 have hK2 : H.sz ≤ 120 * qL H.sz := by unfold qL; omega
 refine SF.go hm Try.func35 ir35_eq ?_
 rw [ir35_c_eq]
 simp -implicitDefEqProofs (disch := first | omega | (simp -implicitDefEqProofs only [szs, ne_eq] <;> omega) | fail) only [go_sem, seval, ↓reduceIte, reduceCtorEq, ir35_c]
 refine qK.of (SF.any (M := ⟨Try.prog, true⟩) (halves_ok (bd := bd) (fr := fr) (ct := ct) (lp := lp) ⟨c, (kA _ lp hll).trans l1, l2, k0, k1, k2⟩ ⟨by omega, by omega⟩ (by omega) fun b => .inr (hR b))) ?_
 rintro r g1 ⟨rfl, n1, kk1⟩
 rw [Heap.qG] at n1 kk1
 have L1 := ((kk1 lp (by omega)).trans (kA _ lp hll)).trans l1
 have X1 : g1.get h.n = some (.cells (Blk.of [.ptr (some (lp, 0))]) 32) := (kk1 _ (by omega)).trans (qH rfl _)
 have ra := hR lp
 have rb := hR h.n
 have c6 : c.get 6 = .int .u64 (H.sz : Int) := jG k3 (j := 3) (by omega)
 have hcv : IntKind.i64.wrap (H.sz : Int) = (H.sz : Int) := by rw [IntWalk.i64_in] <;> omega
 have hWn : h.n ≤ g1.n := by omega
 simp -implicitDefEqProofs (disch := first | omega | (simp -implicitDefEqProofs only [szs, ne_eq] <;> omega) | fail) only [go_sem, seval, ↓reduceIte, reduceCtorEq, qE, X1, L1, l2, c6, ra, rb, cv42_3, c42_3, hcv, hWn]
 refine qK.of (SF.any (M := ⟨Try.prog, true⟩) (sectors_ok (n := H.sz) (by omega))) ?_
 rintro r g2 ⟨rfl, rfl⟩
 simp -implicitDefEqProofs (disch := first | omega | (simp -implicitDefEqProofs only [szs, ne_eq] <;> omega) | fail) only [go_sem, seval, ↓reduceIte, reduceCtorEq]
 obtain ⟨g2, e2⟩ : ∃ g2, g2 = (g1.push (O.cells (Blk.of [V.int IntKind.i64 0, V.int IntKind.i64 0]) 86)).set g1.n (O.cells (((Blk.of [V.int IntKind.i64 0, V.int IntKind.i64 0]).set 0 (V.int IntKind.i64 ((fr + 2 : Nat) : Int))).set 1 (V.int IntKind.i64 ((fr + 2 + (ct - 2) / 2 : Nat) : Int))) 86) := ⟨_, rfl⟩
 rw [← e2]
 have nG : g2.n = g1.n + 1 := by rw [e2]; simp only [Heap.qG, Heap.n_set]
 have A0 : g2.get g1.n = some (.cells (((Blk.of [V.int IntKind.i64 0, V.int IntKind.i64 0]).set 0 (V.int IntKind.i64 ((fr + 2 : Nat) : Int))).set 1 (V.int IntKind.i64 ((fr + 2 + (ct - 2) / 2 : Nat) : Int))) 86) := by rw [e2]; exact qF (by simp only [Heap.qG]; omega) rfl _
 have k2' : ∀ k, k < g1.n → g2.get k = g1.get k := fun k hk => by rw [e2, qB (by simp only [Heap.qG]; omega) (by omega), qC (by omega)]
 clear e2
 have kh : ∀ k, k < h.n → g2.get k = h.get k := fun k hk => by rw [k2' k (by omega), kk1 k (by omega), kA _ k hk]
 have hx2 : DkX g2 M bd D := hx.old (by omega) kh
 have X2 := (k2' _ (by omega)).trans X1
 have L2 := (k2' _ (by omega)).trans L1
 have hsec : ∀ j, j < (ct - 2) / 2 → (zH D fr ct H.ha j).length = 128 := fun j hj => (hx.sec (by
  have : H.ha * ((ct - 2) / 2) + j < 2 * ((ct - 2) / 2) := by
   have : H.ha = 0 ∨ H.ha = 1 := by omega
   rcases this with e | e <;> rw [e] <;> omega
  omega)).1
 have hR' : ∀ b, h.n ≤ b ∨ R b := fun b => .inr (hR b)
 refine ld_loop (xb := h.n) (bb := g1.n) (lp := lp) (fr := fr) (ct := ct) (H := H) hR' (fun k hk => .inl (by omega)) hx2 ⟨c, L2, l2, l3, k0, k1, k2, k3⟩ (by simp -implicitDefEqProofs (disch := first | omega | (simp -implicitDefEqProofs only [szs, ne_eq] <;> omega) | fail) only [go_sem, seval, ↓reduceIte, reduceCtorEq]) (by simp -implicitDefEqProofs (disch := first | omega | (simp -implicitDefEqProofs only [szs, ne_eq] <;> omega) | fail) only [go_sem, seval, ↓reduceIte, reduceCtorEq]) (by simp -implicitDefEqProofs (disch := first | omega | (simp -implicitDefEqProofs only [szs, ne_eq] <;> omega) | fail) only [go_sem, seval, ↓reduceIte, reduceCtorEq]) (by simp -implicitDefEqProofs (disch := first | omega | (simp -implicitDefEqProofs only [szs, ne_eq] <;> omega) | fail) only [go_sem, seval, ↓reduceIte, reduceCtorEq]) (by simp -implicitDefEqProofs (disch := first | omega | (simp -implicitDefEqProofs only [szs, ne_eq] <;> omega) | fail) only [go_sem, seval, ↓reduceIte, reduceCtorEq]) X2 rfl rfl A0 rfl (by simp -implicitDefEqProofs (disch := first | omega | (simp -implicitDefEqProofs only [szs, ne_eq] <;> omega) | fail) only [go_sem, seval]) (by simp -implicitDefEqProofs (disch := first | omega | (simp -implicitDefEqProofs only [szs, ne_eq] <;> omega) | fail) only [go_sem, seval]) hc hD hha hK fun tr3 g3 v t1 t4 ho n3 k3' => ?_
 simp -implicitDefEqProofs (disch := first | omega | (simp -implicitDefEqProofs only [szs, ne_eq] <;> omega) | fail) only [go_sem, seval, ↓reduceIte]
 have X3 := (k3' _ (by omega)).trans X2
 have L3 := (k3' _ (by omega)).trans L2
 obtain ⟨v', hs1, hs2⟩ := sl_all (sz := H.sz) ho (by rw [snapC_len fun i hi => hsec i (by omega)]; exact hK2)
 have hv'l := hs2.one
 have hv'c := hs2.cells
 have lt3 := Heap.lt_of_get L3
 refine d1_ok (xb := h.n) hR' (.inr hW) t1 t4 X3 rfl rfl L3 l2 l3 c6 hs1 ho.lr.one hv'l hv'c fun tr4 t1 => ?_
 refine d2_ok (xb := h.n) (sz := H.sz) (fi := H.fi) hR' (.inr hW) (by omega) t1 (by rw [qB lt3 (by omega)]; exact X3) rfl rfl (by omega) (qF lt3 rfl _) (by simp only [Blk.size_set]; exact l2) (by simp only [Blk.qY]; exact l3) (by simp -implicitDefEqProofs (disch := first | omega | (simp -implicitDefEqProofs only [szs, ne_eq] <;> omega) | fail) only [go_sem, seval, c6]) (by rw [Blk.get_set, if_neg (by omega)]; exact jG k3 (j := 4) (by omega)) fun tr5 g5 t1 n5 k5 L5 => ?_
 rw [Heap.n_set] at n5
 have k5' : ∀ k, k ≠ lp → g5.get k = g3.get k := fun k hk => by rw [k5 k hk, qB lt3 hk]
 have hv3 : LR g5 (N5 g5 fun k => h.n ≤ k) v' (snapA D fr ct H) := by
  refine (hs2.same (h' := g5) fun b hb _ => k5' b (by omega)).mono fun b _ hb => ⟨by omega, ?_⟩
  obtain ⟨h1, c', h2⟩ := hb
  exact ⟨c', (k5' b (by omega)).trans h2⟩
 refine d3_ok (xb := h.n) (a := qL H.sz) (H := H) (v10 := v10) (v11 := v') hR' (fun k hk => .inl (by omega)) (.inr hW) (by omega) t1 ((k5' _ (by omega)).trans X3) rfl rfl L5 (by simp only [Blk.size_set]; exact l2) (by simp only [Blk.qY]; exact l3) (by simp -implicitDefEqProofs (disch := first | omega | (simp -implicitDefEqProofs only [szs, ne_eq] <;> omega) | fail) only [go_sem, seval, k0]) (by simp -implicitDefEqProofs (disch := first | omega | (simp -implicitDefEqProofs only [szs, ne_eq] <;> omega) | fail) only [go_sem, seval, k1]) (by simp -implicitDefEqProofs (disch := first | omega | (simp -implicitDefEqProofs only [szs, ne_eq] <;> omega) | fail) only [go_sem, seval, k2]) (by rw [zI (by omega), zI (by omega), zI (by omega), zI (by omega)]; exact k3) (by simp -implicitDefEqProofs (disch := first | omega | (simp -implicitDefEqProofs only [szs, ne_eq] <;> omega) | fail) only [go_sem, seval]) (by simp -implicitDefEqProofs (disch := first | omega | (simp -implicitDefEqProofs only [szs, ne_eq] <;> omega) | fail) only [go_sem, seval]) (by simp -implicitDefEqProofs (disch := first | omega | (simp -implicitDefEqProofs only [szs, ne_eq] <;> omega) | fail) only [go_sem, seval, k10]) (by simp -implicitDefEqProofs (disch := first | omega | (simp -implicitDefEqProofs only [szs, ne_eq] <;> omega) | fail) only [go_sem, seval]) (by simp -implicitDefEqProofs (disch := first | omega | (simp -implicitDefEqProofs only [szs, ne_eq] <;> omega) | fail) only [go_sem, seval]) (hx2.same (by omega) fun k hk => ?_) hM hc hD hha hfi hK fun tr6 g6 s m q1 q2 q3 q4 q5 q6 => ?_
 ·rw [k5' k (fun e => hM (e ▸ hk)), k3' k (by have := hx2.lt k hk; omega)]
 simp -implicitDefEqProofs (disch := first | omega | (simp -implicitDefEqProofs only [szs, ne_eq] <;> omega) | fail) only [go_sem, seval, q5]
 have hml := Heap.lt_of_get q5
 have hkc : ∀ k c e, g6.get k = some (.cells c e) → (g6.set m (O.deferred false)).get k = some (.cells c e) := fun k c e hk => by
  rw [qB hml fun e => by rw [e, q5] at hk; cases hk]; exact hk
 have n25 : h.n ≤ g5.n := by omega
 refine ⟨.inl (by omega), by omega, fun k hk1 hk2 => ?_, ?_⟩
 ·rw [qB hml (by omega), q6 k (by omega) hk2, k5' k hk2, k3' k (by omega), kh k hk1]
 obtain ⟨c6', cw, cr, cn, rv, v6, vs, hl⟩ := q1
 have e3 : zX D fr ct H = (s.rs, s.at', s.nx) := q2.symm
 rw [e3]
 refine ⟨c6', v', rv, vs, hkc _ _ _ hl.l1, hl.l2, hl.l3, hl.k0, hl.k1, hl.k2, hl.k3, hl.k8, hl.k9, hl.k10, hl.k11, hl.k12, ?_, own_keep' (hl.vd.mono (Nat.zero_le _)) fun b c' hb _ => hkc _ _ _ hb, ?_, hl.vl, fun i l hi => ?_⟩
 ·have hz : ∀ b, N5 g5 (fun k => h.n ≤ k) b → (g6.set m (O.deferred false)).get b = g5.get b := fun b hb => by
   obtain ⟨h1, c', h2⟩ := hb
   have h3 := (q6 b (Heap.lt_of_get h2) (by omega)).trans h2
   rw [hkc _ _ _ h3, h2]
  exact (hv3.same fun b hb _ => hz b hb).mono fun b _ hb => ⟨hb.1, by obtain ⟨c', h2⟩ := hb.2; exact ⟨c', (hz b hb).trans h2⟩⟩
 ·exact (Own.nb hl.vd).imp id fun h1 => by omega
 ·have hz : ∀ b, (g5.n + 7 ≤ b ∧ b ≠ sblk v6 ∧ ∃ c, g6.get b = some (.cells c 5)) → (g6.set m (O.deferred false)).get b = g6.get b := fun b hb => by
   obtain ⟨_, _, c', h2⟩ := hb
   rw [hkc _ _ _ h2, h2]
  exact ((hl.ve i l hi).same fun b hb _ => hz b hb).mono fun b _ hb => ⟨by omega, by obtain ⟨c', h2⟩ := hb.2.2; exact ⟨c', (hz b hb).trans h2⟩⟩
end Go.Proofs.Ytakgjjbmniilhaa
set_option maxRecDepth 100000
set_option linter.unusedVariables false
namespace Go.Proofs.Ytakgjjbmniilhaa
open Go Go.Vm
attribute [-go_sem] qQ
variable {h g : Heap} {R W M : Set'} {bd lp fr ct : Nat} {D : DS}
def DkS (g g' : Heap) (M S : Set') (bd : Nat) (D : DS) : Prop := g.n ≤ g'.n ∧ (∀ k, k < g.n → ¬ M k → ¬ S k → g'.get k = g.get k) ∧ ∃ M', DkX g' M' bd D ∧ ∀ k, M' k → M k ∨ g.n ≤ k
def layD (D : DS) (fr ct : Nat) (H : Hd) : DS := (D.write (fr + H.ep % 2) (putH H)).flush fr ct
set_option maxHeartbeats 8000000 in
theorem lay_ok {H : Hd} {c : Blk} (hx : DkX h M bd D) (hM : ¬ M lp) (l1 : h.get lp = some (.cells c 47)) (l2 : c.size = 13) (l3 : c.ro = false) (k0 : c.get 0 = .ptr (some (bd, 0))) (k1 : c.get 1 = .int .i64 (fr : Int)) (k2 : c.get 2 = .int .i64 (ct : Int)) (hc : 16 ≤ ct ∧ fr + ct ≤ D.n) (hD : D.n ≤ 4096) (hlt : H.Lt) (few : (D.pe (fr + H.ep % 2)).length < 1000000000) (hR : ∀ b, R b) (hW : ∀ k, M k → W k) (hWl : W lp) :
  SF Try.prog 36 [.ptr (some (lp, 0)), .agg H.v] h R W fun _ g => DkS h g M (fun k => k = lp) bd (layD D fr ct H) ∧ ∃ c', g.get lp = some (.cells c' 47) ∧ c'.size = 13 ∧ c'.ro = false ∧ c'.gets 3 5 = H.v ∧ ∀ j, j < 3 ∨ 8 ≤ j → c'.get j = c.get j := by
 have hll := Heap.lt_of_get l1
 have ra := hR lp
 have hone : allOne H.v = true := rfl
 have e2 : (H.ep : Int).tmod 2 = ((H.ep % 2 : Nat) : Int) := rfl
 have e3 : IntKind.u64.wrap ((H.ep % 2 : Nat) : Int) = ((H.ep % 2 : Nat) : Int) := wrap64 (by omega)
 have e4 : IntKind.i64.wrap ((H.ep % 2 : Nat) : Int) = ((H.ep % 2 : Nat) : Int) := by rw [IntWalk.i64_in] <;> omega
 have e5 : (fr : Int) + ((H.ep % 2 : Nat) : Int) = ((fr + H.ep % 2 : Nat) : Int) := by omega
 refine SF.go hm Try.func36 ir36_eq ?_
 simp -implicitDefEqProofs (disch := first | omega | (simp -implicitDefEqProofs only [szs, ne_eq] <;> omega) | fail) only [go_sem, seval, ↓reduceIte, reduceCtorEq, ir36, Hd.v, qE, l1, l2, k0, k1, ra, cvd42_3, c42_3, e2, e4, e5]
 have hh : Heap.get (h.push (.cells (Blk.of H.v) 44)) h.n = some (.cells (Blk.of H.v) 44) := qH rfl _
 refine qN.of (SF.foot (put_ok (R := qR) (W := noW) hlt (fun _ => trivial)).kept (fun _ h => h) (fun _ h => h)) ?_
 rintro r1 g1 ⟨⟨o1, k1'⟩, vf1⟩
 have n1 := vf1.n
 simp only [Heap.qG] at n1 k1' o1
 have one1 := o1.lr.one
 have kk1 : ∀ k, k < h.n → g1.get k = h.get k := fun k hk => by rw [k1' k (by omega), qC (by omega)]
 have L1 := (kk1 lp hll).trans l1
 have X1 := (k1' h.n (by omega)).trans hh
 have hx1 : DkX g1 M bd D := hx.old (by omega) kk1
 simp -implicitDefEqProofs (disch := first | omega | (simp -implicitDefEqProofs only [szs, ne_eq] <;> omega) | fail) only [go_sem, seval, ↓reduceIte, reduceCtorEq]
 have hep : fr + H.ep % 2 < D.n := by omega
 refine qN.of (R' := qR) (W' := M) ((write_dk (R := qR) (W := M) hx1 (fun _ => trivial) (fun _ h => h) hep o1.lr (putH_len H) (byt_putH H) few).foot (fun _ h => h) (fun _ h => h)) ?_
 rintro r2 g2 ⟨rfl, ⟨n2, k2'⟩, M2, hx2, hM2⟩
 have L2 := (k2' lp (by omega) hM).trans L1
 have X2 := (k2' h.n (by omega) fun h1 => by have := hx.lt _ h1; omega).trans X1
 simp -implicitDefEqProofs (disch := first | omega | (simp -implicitDefEqProofs only [szs, ne_eq] <;> omega) | fail) only [go_sem, seval, ↓reduceIte, reduceCtorEq, L2, l2, k0, k1, k2, ra]
 refine ⟨by (and_intros; all_goals (intro b hb hc; simp only [noW, qR, List.not_mem_nil, and_false, false_or, or_false] at hb hc <;> omega)), ⟨fun b _ _ => .inr (hR b), fun b _ h => h.elim, fun b _ _ => .inr (hR b), fun b _ h => .inr (hW b h)⟩, ?_⟩
 refine qN.of (R' := qR) (W' := fun k => M k ∨ h.n ≤ k) ((flush_dk (R := qR) (W := fun k => M k ∨ h.n ≤ k) hx2 (fun _ => trivial) (fun k h => (hM2 k h).imp id fun h => by omega) (a := fr) (m := ct) hc.2).foot (fun _ h => h) (fun _ h => h)) ?_
 rintro r3 g3 ⟨rfl, ⟨n3, k3'⟩, M3, hx3, hM3⟩
 have nM2 : ¬ M2 lp := fun h1 => (hM2 lp h1).elim hM fun h2 => by omega
 have nM2x : ¬ M2 h.n := fun h1 => (hM2 _ h1).elim (fun h2 => by have := hx.lt _ h2; omega) fun h2 => by omega
 have L3 := (k3' lp (by omega) nM2).trans L2
 have X3 := (k3' h.n (by omega) nM2x).trans X2
 simp -implicitDefEqProofs (disch := first | omega | (simp -implicitDefEqProofs only [szs, ne_eq] <;> omega) | fail) only [go_sem, seval, ↓reduceIte, reduceCtorEq, Hd.v, qE, L3, X3, l2, l3, hWl]
 have hl3 := Heap.lt_of_get L3
 refine ⟨⟨fun _ => .inr ra, fun _ => .inr ra, fun _ => .inr ra, fun b _ _ => .inr (hR b), fun b _ h => h.elim (fun h => .inr (hW b h)) .inl⟩, ⟨by rw [Heap.n_set]; omega, fun k hk1 hk2 hk3 => ?_, M3, hx3.same (by rw [Heap.n_set]; exact Nat.le_refl _) fun k hk => qB hl3 (fun e => ?_) _, fun k hk => ?_⟩, _, rfl, by simp only [Blk.size_set]; exact l2, by simp only [Blk.qY]; exact l3, ?_, fun j hj => ?_⟩
 ·have q2 : ¬ M2 k := fun h1 => (hM2 k h1).elim hk2 fun h2 => by omega
  rw [qB hl3 hk3, k3' k (by omega) q2, k2' k (by omega) hk2, kk1 k hk1]
 ·rcases hM3 k hk with h1 | h1
  ·exact nM2 (e ▸ h1)
  ·omega
 ·rcases hM3 k hk with h1 | h1
  ·exact (hM2 k h1).imp id fun h => by omega
  ·exact .inr (by omega)
 ·simp -implicitDefEqProofs (disch := first | omega | (simp -implicitDefEqProofs only [szs, ne_eq] <;> omega) | fail) only [go_sem, seval]
 ·simp only [Blk.get_set]
  rw [if_neg (by omega), if_neg (by omega), if_neg (by omega), if_neg (by omega), if_neg (by omega)]
def okO (D : DS) (f k : Int) : Prop := 16 ≤ k ∧ k ≤ 4096 ∧ 0 ≤ f ∧ f ≤ (D.n : Int) - k
instance (D : DS) (f k : Int) : Decidable (okO D f k) := by unfold okO; exact inferInstance
set_option maxHeartbeats 8000000 in
theorem open_ok {f k : Int} (hx : DkX h M bd D) (hf : -9223372036854775808 ≤ f ∧ f ≤ 9223372036854775807) (hk : -9223372036854775808 ≤ k ∧ k ≤ 9223372036854775807) (hR : ∀ b, R b) :
  SF ⟨Try.prog, true⟩ 33 [.ptr (some (bd, 0)), .int .i64 f, .int .i64 k] h R W fun r g => h.n ≤ g.n ∧ (∀ k, k < h.n → g.get k = h.get k) ∧ if okO D f k then ∃ lp c, h.n ≤ lp ∧ r = .tuple [.ptr (some (lp, 0)), .int .i64 0] ∧ g.get lp = some (.cells c 47) ∧ c.size = 13 ∧ c.ro = false ∧ c.get 0 = .ptr (some (bd, 0)) ∧ c.get 1 = .int .i64 f ∧ c.get 2 = .int .i64 k ∧ c.gets 3 5 = Hd.zero.v ∧ c.get 10 = .int .u64 0 else r = .tuple [.ptr none, .int .i64 2] := by
 refine SF.go hm Try.func33 ir33_eq ?_
 simp -implicitDefEqProofs (disch := omega) only [go_sem, seval, ↓reduceIte, reduceCtorEq, ir33]
 refine qK.of (copy_dk hx fun b => .inr (hR b)) ?_
 rintro v g1 ⟨M', bd', rfl, _, _, n1, k1⟩
 by_cases h1 : 16 ≤ k
 rotate_left
 ·have i1 : k < 16 := by omega
  have ho : ¬ okO D f k := by unfold okO; omega
  simp -implicitDefEqProofs (disch := omega) only [go_sem, seval, ↓reduceIte, reduceCtorEq, qE, i1]
  exact ⟨n1, k1, by rw [if_neg ho]; trivial⟩
 have i1 : ¬ k < 16 := by omega
 by_cases h2 : k ≤ 4096
 rotate_left
 ·have i2 : 4096 < k := by omega
  have ho : ¬ okO D f k := by unfold okO; omega
  simp -implicitDefEqProofs (disch := omega) only [go_sem, seval, ↓reduceIte, reduceCtorEq, qE, i1, i2]
  exact ⟨n1, k1, by rw [if_neg ho]; trivial⟩
 have i2 : ¬ 4096 < k := by omega
 by_cases h3 : 0 ≤ f
 rotate_left
 ·have i3 : f < 0 := by omega
  have ho : ¬ okO D f k := by unfold okO; omega
  simp -implicitDefEqProofs (disch := omega) only [go_sem, seval, ↓reduceIte, reduceCtorEq, qE, i1, i2, i3]
  exact ⟨n1, k1, by rw [if_neg ho]; trivial⟩
 have i3 : ¬ f < 0 := by omega
 simp -implicitDefEqProofs (disch := omega) only [go_sem, seval, ↓reduceIte, reduceCtorEq, i1, i2, i3]
 have hp := hx.pos
 refine qK.of (SF.any (M := ⟨Try.prog, true⟩) (size_dk (hx.old n1 k1) fun b => .inr (hR b))) ?_
 rintro v g2 ⟨rfl, rfl⟩
 have e1 : IntKind.i64.wrap ((D.n : Int) - k) = (D.n : Int) - k := by rw [IntWalk.i64_in] <;> omega
 by_cases h4 : f ≤ (D.n : Int) - k
 rotate_left
 ·have i4 : (D.n : Int) - k < f := by omega
  have ho : ¬ okO D f k := by unfold okO; omega
  simp -implicitDefEqProofs (disch := omega) only [go_sem, seval, ↓reduceIte, reduceCtorEq, e1, i4]
  exact ⟨n1, k1, by rw [if_neg ho]; trivial⟩
 have i4 : ¬ (D.n : Int) - k < f := by omega
 have ho : okO D f k := by unfold okO; omega
 simp -implicitDefEqProofs (disch := omega) only [go_sem, seval, ↓reduceIte, reduceCtorEq, e1, i4]
 refine ⟨by omega, fun j hj => by rw [qC (by omega)]; exact k1 j hj, ?_⟩
 rw [if_pos ho]
 exact ⟨_, _, n1, rfl, qH rfl _, rfl, rfl, rfl, rfl, rfl, rfl, rfl⟩
end Go.Proofs.Ytakgjjbmniilhaa
set_option maxRecDepth 100000
set_option linter.unusedVariables false
namespace Go.Proofs.Ytakgjjbmniilhaa
open Go Go.Vm
attribute [-go_sem] qQ
variable {h g : Heap} {R W M N : Set'} {bd lp fr ct : Nat} {D : DS}
structure LgS where
 H : Hd
 nx : Nat
 at' : Nat
 sy : Nat
 sn : List V
 rs : List (List V)
structure LgX (g : Heap) (N : Set') (lp bd fr ct : Nat) (G : LgS) : Prop where
 a : LogAt g lp bd fr ct N (.int .u64 (G.sy : Int)) G.H G.nx G.at' G.sn G.rs
 lt : ∀ k, N k → k < g.n
 l : N lp
structure TwoQ (h g : Heap) (M N : Set') (lp bd fr ct : Nat) (D : DS) (G : LgS) : Prop where
 n : h.n ≤ g.n
 k : ∀ k, k < h.n → ¬ M k → ¬ N k → g.get k = h.get k
 x : ∃ M' N', DkX g M' bd D ∧ LgX g N' lp bd fr ct G ∧ (∀ k, M' k → M k ∨ h.n ≤ k) ∧ (∀ k, N' k → N k ∨ h.n ≤ k) ∧ ∀ k, N' k → ¬ M' k
noncomputable def openA (D : DS) (fr ct : Nat) : Option (DS × LgS) := (jZ ((ct - 2) / 2) (D.seen fr) (D.seen (fr + 1))).map fun H =>
 (layD D fr ct { H with ep := H.ep + 1 }, ⟨{ H with ep := H.ep + 1 }, (zX D fr ct H).2.2, (zX D fr ct H).2.1, (zX D fr ct H).2.2 - 1, snapA D fr ct H, (zX D fr ct H).1⟩)
theorem whichS_ok {n i : Nat} {b : List V} {o H : Hd} (P : Hd → Prop) (ho : P o) (hp : ∀ H, headA b = some H → mayH n i H → P H) (h : zW n i b o = some H) : P H := by
 unfold zW at h
 split at h
 ·cases h; exact ho
 ·split at h
  ·cases h
  ·rename_i H' hh
   split at h
   ·rename_i hm
    simp only [Option.some.injEq] at h
    subst h
    split
    ·exact hp _ hh hm
    ·exact ho
   ·cases h
theorem whichA_ok {n : Nat} {b0 b1 : List V} {H : Hd} (h : jZ n b0 b1 = some H) : H.ep ≤ 4611686018427387904 ∧ H.fi ≤ 4611686018427387904 ∧ 1 ≤ H.fi ∧ H.sz ≤ n * 120 ∧ H.ha < 2 ∧ H.si ≤ H.ep := by
 unfold jZ at h
 rw [Option.bind_eq_some_iff] at h
 obtain ⟨H0, h1, h2⟩ := h
 have key : ∀ {b : List V} {i : Nat} H, headA b = some H → mayH n i H → H.ep ≤ 4611686018427387904 ∧ H.fi ≤ 4611686018427387904 ∧ 1 ≤ H.fi ∧ H.sz ≤ n * 120 ∧ H.ha < 2 ∧ H.si ≤ H.ep := fun H hh hm => by
  obtain ⟨_, q1, q2, q3⟩ := headA_some hh
  obtain ⟨_, _, q4, q5, q6⟩ := hm
  exact ⟨q4, q5, q3, q6, q2, q1⟩
 exact whichS_ok _ (whichS_ok (fun H : Hd => H.ep ≤ 4611686018427387904 ∧ H.fi ≤ 4611686018427387904 ∧ 1 ≤ H.fi ∧ H.sz ≤ n * 120 ∧ H.ha < 2 ∧ H.si ≤ H.ep) ⟨by decide, by decide, by decide, Nat.zero_le _, by decide, by decide⟩ key h1) key h2
theorem runL_nx (sec : Nat → List V) (he : Nat) : ∀ (k i : Nat) (s : LS), s.nx ≤ (jU sec he k i s).nx ∧ (jU sec he k i s).nx ≤ s.nx + k
 | 0, i, s => by simp [jU]
 | k + 1, i, s => by
  unfold jU
  split
  ·simp
  ·split
   ·simp
   ·rename_i r _ _
    have := runL_nx sec he k (i + 1) (yB s r)
    have : s.nx ≤ (yB s r).nx ∧ (yB s r).nx ≤ s.nx + 1 := by unfold yB; split <;> simp
    omega
theorem loadF_nx (D : DS) (fr ct : Nat) (H : Hd) : H.fi ≤ (zX D fr ct H).2.2 ∧ (zX D fr ct H).2.2 ≤ H.fi + ((ct - 2) / 2 - qL H.sz) := runL_nx (zH D fr ct H.ha) H.ep ((ct - 2) / 2 - qL H.sz) (qL H.sz) (kN H.fi H.si [] (qL H.sz))
theorem LogAt.head {c c' : Blk} {v10 v10' : V} {H H' : Hd} {nx at' : Nat} {sn : List V} {rs : List (List V)} (hl : LogAt h lp bd fr ct N v10 H nx at' sn rs) (l1 : h.get lp = some (.cells c 47)) (hN : ∀ k, N5 h N k → g.get k = h.get k) (hN2 : ∀ k c, h.get k = some (.cells c 22) → N k → g.get k = h.get k) (l1' : g.get lp = some (.cells c' 47)) (l2 : c'.size = 13) (l3 : c'.ro = false) (k3 : c'.gets 3 5 = H'.v) (k10 : c'.get 10 = v10') (hj : ∀ j, j < 3 ∨ 8 ≤ j → j ≠ 10 → c'.get j = c.get j) : LogAt g lp bd fr ct N v10' H' nx at' sn rs := by
 obtain ⟨c0, v11, rv, vs, hl⟩ := hl
 obtain rfl : c0 = c := by have := hl.l1; rw [l1] at this; cases this; rfl
 have hz : ∀ b, N5 h N b → N5 g N b := fun b hb => ⟨hb.1, by obtain ⟨c, h2⟩ := hb.2; exact ⟨c, (hN b hb).trans h2⟩⟩
 refine ⟨c', v11, rv, vs, l1', l2, l3, (hj 0 (by omega) (by omega)).trans hl.k0, (hj 1 (by omega) (by omega)).trans hl.k1, (hj 2 (by omega) (by omega)).trans hl.k2, k3, (hj 8 (by omega) (by omega)).trans hl.k8, (hj 9 (by omega) (by omega)).trans hl.k9, k10, (hj 11 (by omega) (by omega)).trans hl.k11, (hj 12 (by omega) (by omega)).trans hl.k12, (hl.sd.same fun b hb _ => hN b hb).mono fun b _ hb => hz b hb, ?_, hl.vn, hl.vl, fun i l hi => ((hl.ve i l hi).same fun b hb _ => hN b hb).mono fun b _ hb => hz b hb⟩
 rcases hl.vn with e | hv
 ·have h1 := hl.vd
  subst e
  rcases h1 with ⟨rfl, _⟩ | ⟨b, x, c, h0, e, _⟩
  ·exact Own.nil _ _ _
  ·cases e
 ·rcases hl.vd with ⟨rfl, rfl | ⟨b, c, rfl, h1, hb, hr⟩⟩ | ⟨b, x, c, h0, rfl, h1, hb, hs⟩
  ·exact Own.nil _ _ _
  ·exact .inl ⟨rfl, .inr ⟨b, c, rfl, h1, (hN2 b c hb hv).trans hb, hr⟩⟩
  ·exact .inr ⟨b, x, c, h0, rfl, h1, (hN2 b c hb hv).trans hb, hs⟩
def OpenQ (h : Heap) (M : Set') (bd : Nat) (D : DS) (f k : Int) (r : V) (g : Heap) : Prop := if okO D f k then match openA D f.toNat k.toNat with
   | some (D', G) => ∃ lp, h.n ≤ lp ∧ r = .tuple [.ptr (some (lp, 0)), .int .i64 0] ∧ TwoQ h g M (fun _ => False) lp bd f.toNat k.toNat D' G
   | none => r = .tuple [.ptr none, .int .i64 13] ∧ h.n ≤ g.n ∧ ∀ k, k < h.n → g.get k = h.get k
   else r = .tuple [.ptr none, .int .i64 2] ∧ h.n ≤ g.n ∧ ∀ k, k < h.n → g.get k = h.get k
theorem LogAt.mono {N' : Set'} {v10 : V} {H : Hd} {nx at' : Nat} {sn : List V} {rs : List (List V)} (hl : LogAt h lp bd fr ct N v10 H nx at' sn rs) (hN : ∀ k, k < h.n → N k → N' k) : LogAt h lp bd fr ct N' v10 H nx at' sn rs := by
 obtain ⟨c, v11, rv, vs, hl⟩ := hl
 refine ⟨c, v11, rv, vs, hl.l1, hl.l2, hl.l3, hl.k0, hl.k1, hl.k2, hl.k3, hl.k8, hl.k9, hl.k10, hl.k11, hl.k12, hl.sd.mono fun b hb h1 => ⟨hN b hb h1.1, h1.2⟩, hl.vd, ?_, hl.vl, fun i l hi => (hl.ve i l hi).mono fun b hb h1 => ⟨hN b hb h1.1, h1.2⟩⟩
 exact hl.vn.imp id fun h1 => hN _ (hl.vd.sblk_lt (by have := Heap.lt_of_get hl.l1; omega)) h1
set_option maxHeartbeats 8000000 in
theorem open_log {f k : Int} (hx : DkX h M bd D) (hf : -9223372036854775808 ≤ f ∧ f ≤ 9223372036854775807) (hk : -9223372036854775808 ≤ k ∧ k ≤ 9223372036854775807) (few : ∀ s, (D.pe s).length < 1000000000) (hR : ∀ b, R b) (hW : ∀ k, M k → W k) :
  SF ⟨Try.prog, true⟩ 11 [.ptr (some (bd, 0)), .int .i64 f, .int .i64 k] h R W (OpenQ h M bd D f k) := by
 have hR' : ∀ b, h.n ≤ b ∨ R b := fun b => .inr (hR b)
 refine SF.go hm Try.func11 ir11_eq ?_
 simp -implicitDefEqProofs (disch := first | omega | (simp -implicitDefEqProofs only [szs, ne_eq] <;> omega) | fail) only [go_sem, seval, ↓reduceIte, reduceCtorEq, ir11]
 refine qK.of (open_ok (f := f) (k := k) hx hf hk hR') ?_
 rintro r g1 ⟨n1, k1, hq⟩
 by_cases ho : okO D f k
 rotate_left
 ·rw [if_neg ho] at hq
  subst hq
  simp -implicitDefEqProofs (disch := first | omega | (simp -implicitDefEqProofs only [szs, ne_eq] <;> omega) | fail) only [go_sem, seval, ↓reduceIte, reduceCtorEq]
  unfold OpenQ
  rw [if_neg ho]
  exact ⟨rfl, n1, k1⟩
 rw [if_pos ho] at hq
 obtain ⟨lp, c, hlp, rfl, l1, l2, l3, c0, c1, c2, c35, c10⟩ := hq
 obtain ⟨fr, rfl⟩ : ∃ fr : Nat, f = fr := ⟨f.toNat, by unfold okO at ho; omega⟩
 obtain ⟨ct, rfl⟩ : ∃ ct : Nat, k = ct := ⟨k.toNat, by unfold okO at ho; omega⟩
 have hp := hx.pos
 have hc : 16 ≤ ct ∧ fr + ct ≤ D.n := by unfold okO at ho; omega
 have hx1 : DkX g1 M bd D := hx.old n1 k1
 simp -implicitDefEqProofs (disch := first | omega | (simp -implicitDefEqProofs only [szs, ne_eq] <;> omega) | fail) only [go_sem, seval, ↓reduceIte, reduceCtorEq]
 refine qK.of (SF.any (M := ⟨Try.prog, true⟩) (which_ok (bd := bd) (fr := fr) (ct := ct) hx1 ⟨c, l1, l2, c0, c1, c2⟩ hc hR')) ?_
 rintro r g2 ⟨H, hLt, rfl, hH, n2, k2⟩
 have L2 := (k2 lp (Heap.lt_of_get l1)).trans l1
 have l2lt := Heap.lt_of_get L2
 have hn2 : h.n ≤ g2.n := by omega
 have ra := hR' lp
 obtain ⟨ch, ech⟩ : ∃ ch, ch = (((((Blk.of [V.int IntKind.u64 0, V.int IntKind.u64 0, V.int IntKind.u64 0, V.int IntKind.u64 0, V.int IntKind.u64 0]).set 0 (V.int IntKind.u64 ↑H.ep)).set 1 (V.int IntKind.u64 ↑H.si)).set 2 (V.int IntKind.u64 ↑H.ha)).set 3 (V.int IntKind.u64 ↑H.sz)).set 4 (V.int IntKind.u64 ↑H.fi) := ⟨_, rfl⟩
 have hch : ch.gets 0 5 = H.v := by
  rw [ech]; refine xR fun j hj => ?_
  have hh : j = 0 ∨ j = 1 ∨ j = 2 ∨ j = 3 ∨ j = 4 := by omega
  rcases hh with rfl | rfl | rfl | rfl | rfl <;> rfl
 have hcs : ch.size = 5 := by rw [ech]; rfl
 have hcr : ch.ro = false := by rw [ech]; rfl
 cases hw : jZ ((ct - 2) / 2) (D.seen fr) (D.seen (fr + 1)) with
 | none =>
  simp -implicitDefEqProofs (disch := first | omega | (simp -implicitDefEqProofs only [szs, ne_eq] <;> omega) | fail) only [go_sem, seval, ↓reduceIte, reduceCtorEq, qE, Hd.v, Option.isSome_none, hn2]
  rw [← ech]
  unfold OpenQ
  rw [if_pos ho]
  simp only [openA, Int.toNat_natCast, hw, Option.map_none]
  exact ⟨trivial, by simp; omega, fun k hk => by rw [qB (by simp) (by omega), qC (by omega), k2 k (by omega), k1 k hk]⟩
 | some H' =>
  obtain rfl := hH H' hw
  obtain ⟨f1, f2, f3, f4, f5, f6⟩ := whichA_ok hw
  simp -implicitDefEqProofs (disch := first | omega | (simp -implicitDefEqProofs only [szs, ne_eq] <;> omega) | fail) only [go_sem, seval, ↓reduceIte, reduceCtorEq, qE, Hd.v, Option.isSome_some, L2, l2, l3, hn2, hlp]
  rw [← ech]
  obtain ⟨c4, ec4⟩ : ∃ c4, c4 = ((((c.set 3 (.int .u64 ↑H'.ep)).set 4 (.int .u64 ↑H'.si)).set 5 (.int .u64 ↑H'.ha)).set 6 (.int .u64 ↑H'.sz)).set 7 (.int .u64 ↑H'.fi) := ⟨_, rfl⟩
  rw [← ec4]
  have q2 : c4.size = 13 := by rw [ec4]; simp only [Blk.size_set]; exact l2
  have q3 : c4.ro = false := by rw [ec4]; simp only [Blk.qY]; exact l3
  have q4 : c4.gets 3 5 = H'.v := by
   rw [ec4]
   refine List.ext_getElem? fun j => ?_
   by_cases hj : j < 5
   ·rw [Blk.qM _ _ _ _ hj]
    have hh : j = 0 ∨ j = 1 ∨ j = 2 ∨ j = 3 ∨ j = 4 := by omega
    rcases hh with rfl | rfl | rfl | rfl | rfl <;> simp -implicitDefEqProofs (disch := first | omega | (simp -implicitDefEqProofs only [szs, ne_eq] <;> omega) | fail) only [go_sem, seval] <;> rfl
   ·rw [List.getElem?_eq_none (by rw [Blk.qJ]; omega), List.getElem?_eq_none (by show 5 ≤ j; omega)]
  have q5 : ∀ j, j < 3 ∨ 8 ≤ j → c4.get j = c.get j := fun j hj => by
   rw [ec4]; simp only [Blk.get_set]
   rw [if_neg (by omega), if_neg (by omega), if_neg (by omega), if_neg (by omega), if_neg (by omega)]
  clear ec4
  obtain ⟨g3, e3⟩ : ∃ g3, g3 = ((g2.push (.cells (Blk.of [.int .u64 0, .int .u64 0, .int .u64 0, .int .u64 0, .int .u64 0]) 44)).set g2.n (.cells ch 44)).set lp (.cells c4 47) := ⟨_, rfl⟩
  rw [← e3]
  have n3 : g3.n = g2.n + 1 := by rw [e3]; simp only [Heap.qG, Heap.n_set]
  have L3 : g3.get lp = some (.cells c4 47) := by rw [e3]; exact qF (by simp only [Heap.qG, Heap.n_set]; omega) rfl _
  have C3 : g3.get g2.n = some (.cells ch 44) := by rw [e3, qB (by simp only [Heap.qG, Heap.n_set]; omega) (by omega)]; exact qF (by simp only [Heap.qG]; omega) rfl _
  have k3 : ∀ k, k < g2.n → k ≠ lp → g3.get k = g2.get k := fun k hk h1 => by rw [e3, qB (by simp only [Heap.qG, Heap.n_set]; omega) h1, qB (by simp only [Heap.qG]; omega) (by omega), qC (by omega)]
  clear e3
  have hMl : ∀ k, M k → k < h.n := fun k hk => hx.lt k hk
  have nM : ¬ M lp := fun h1 => by have := hMl _ h1; omega
  have hx3 : DkX g3 M bd D := hx.same (by omega) fun k hk => by
   have := hMl k hk
   rw [k3 k (by omega) (by omega), k2 k (by omega), k1 k this]
  refine qK.of (load_ok (H := H') (v10 := .int .u64 0) (bd := bd) (fr := fr) (ct := ct) hx3 ⟨c4, L3, q2, q3, (q5 0 (by omega)).trans c0, (q5 1 (by omega)).trans c1, (q5 2 (by omega)).trans c2, q4, (q5 10 (by omega)).trans c10⟩ nM hc (by omega) f5 f4 f2 hLt hR' (.inl hlp)) ?_
  rintro r4 g4 ⟨n4, k4, hl4⟩
  have C4 := (k4 g2.n (by omega) (by omega)).trans C3
  have heg : ∀ i, i < 5 → ch.get i = H'.v.getD i qE := fun i hi => by
   have := Blk.qM ch 5 0 i hi
   rw [hch, Nat.zero_add] at this
   rw [List.getD_eq_getElem?_getD, this]; rfl
  have he0 : ch.get 0 = .int .u64 (H'.ep : Int) := heg 0 (by omega)
  have he1 : ch.get 1 = .int .u64 (H'.si : Int) := heg 1 (by omega)
  have he2 : ch.get 2 = .int .u64 (H'.ha : Int) := heg 2 (by omega)
  have he3 : ch.get 3 = .int .u64 (H'.sz : Int) := heg 3 (by omega)
  have he4 : ch.get 4 = .int .u64 (H'.fi : Int) := heg 4 (by omega)
  have ew : IntKind.u64.wrap ((H'.ep : Int) + 1) = ((H'.ep + 1 : Nat) : Int) := by rw [show (H'.ep : Int) + 1 = ((H'.ep + 1 : Nat) : Int) by omega]; exact wrap64 (by omega)
  simp -implicitDefEqProofs (disch := first | omega | (simp -implicitDefEqProofs only [szs, ne_eq] <;> omega) | fail) only [go_sem, seval, ↓reduceIte, reduceCtorEq, qE, C4, hcs, hcr, he0, he1, he2, he3, he4, ew]
  have lt4 := Heap.lt_of_get C4
  refine ⟨.inl hn2, .inl hn2, .inl hn2, ?_⟩
  obtain ⟨g5, e5⟩ : ∃ g5, g5 = g4.set g2.n (.cells (ch.set 0 (.int .u64 ((H'.ep + 1 : Nat) : Int))) 44) := ⟨_, rfl⟩
  rw [← e5]
  have n5 : g5.n = g4.n := by rw [e5]; simp only [Heap.n_set]
  have k5 : ∀ k, k ≠ g2.n → g5.get k = g4.get k := fun k hk => by rw [e5]; exact qB lt4 hk _
  clear e5
  obtain ⟨c5, v11, rv, vs, hl5⟩ := hl4
  have hx5 : DkX g5 M bd D := hx3.same (by omega) fun k hk => by
   have := hMl k hk
   rw [k5 k (by omega), k4 k (by omega) (by omega)]
  have L5 := (k5 lp (by omega)).trans hl5.l1
  have hLt2 : ({ H' with ep := H'.ep + 1 } : Hd).Lt := ⟨by show H'.ep + 1 < _; omega, hLt.2.1, hLt.2.2.1, hLt.2.2.2.1, hLt.2.2.2.2⟩
  refine qK.of (SF.any (M := ⟨Try.prog, true⟩) (lay_ok (H := { H' with ep := H'.ep + 1 }) (c := c5) hx5 nM L5 hl5.l2 hl5.l3 hl5.k0 hl5.k1 hl5.k2 hc (by omega) hLt2 (few _) hR' (fun k hk => .inr (hW k hk)) (.inl hlp))) ?_
  rintro r6 g6 ⟨⟨n6, k6, M6, hx6, hM6⟩, c6, L6, s6, t6, g36, j6⟩
  have hnx := loadF_nx D fr ct H'
  obtain ⟨F, eF⟩ : ∃ F, F = zX D fr ct H' := ⟨_, rfl⟩
  rw [← eF] at hl5 hnx
  have c68 : c6.get 8 = .int .u64 (F.2.2 : Int) := (j6 8 (by omega)).trans hl5.k8
  have ew2 : IntKind.u64.wrap ((F.2.2 : Int) - 1) = ((F.2.2 - 1 : Nat) : Int) := by rw [show (F.2.2 : Int) - 1 = ((F.2.2 - 1 : Nat) : Int) by omega]; exact wrap64 (by omega)
  simp -implicitDefEqProofs (disch := first | omega | (simp -implicitDefEqProofs only [szs, ne_eq] <;> omega) | fail) only [go_sem, seval, ↓reduceIte, reduceCtorEq, qE, L6, s6, t6, c68, ew2, hlp]
  have lt6 := Heap.lt_of_get L6
  have nM6 : ∀ k, M6 k → k ≠ lp := fun k hk e => by
   rcases hM6 k hk with h1 | h1
   ·exact nM (e ▸ h1)
   ·omega
  have k7 : ∀ k, k ≠ lp → (g6.set lp (O.cells (c6.set 10 (V.int IntKind.u64 ↑(F.snd.snd - 1))) 47)).get k = g6.get k := fun k hk => qB lt6 hk _
  have k64 : ∀ k, k < g4.n → ¬ M k → k ≠ lp → k ≠ g2.n → (g6.set lp (O.cells (c6.set 10 (V.int IntKind.u64 ↑(F.snd.snd - 1))) 47)).get k = g4.get k := fun k h1 h2 h3 h4 => by
   rw [k7 k h3, k6 k (by omega) h2 h3, k5 k h4]
  unfold OpenQ
  rw [if_pos ho]
  simp only [openA, Int.toNat_natCast, hw, Option.map_some]
  rw [← eF]
  refine ⟨lp, hlp, rfl, by rw [Heap.n_set]; omega, fun k h1 h2 _ => ?_, M6, fun k => k = lp ∨ (g3.n ≤ k ∧ k < g4.n), hx6.same (by rw [Heap.n_set]; exact Nat.le_refl _) fun k hk => k7 k (nM6 k hk), ⟨?_, fun k hk => ?_, .inl rfl⟩, fun k hk => ?_, fun k hk => ?_, fun k hk => ?_⟩
  ·rw [k64 k (by omega) h2 (by omega) (by omega), k4 k (by omega) (by omega), k3 k (by omega) (by omega), k2 k (by omega), k1 k h1]
  ·refine LogAt.head (h := g4) (c := c5) (LogAt.mono ⟨c5, v11, rv, vs, hl5⟩ fun k h1 h2 => .inr ⟨h2, h1⟩) hl5.l1 (fun k hk => ?_) (fun k c' hk hN => ?_) (qF lt6 rfl _) (by simp only [Blk.size_set]; exact s6) (by simp only [Blk.qY]; exact t6) (by rw [zI (by omega)]; exact g36) (by rw [Blk.get_set, if_pos rfl]) fun j h1 h2 => by rw [Blk.get_set, if_neg h2]; exact j6 j h1
   ·obtain ⟨h1 | h1, c', h2⟩ := hk
    ·rw [h1, hl5.l1] at h2; cases h2
    ·exact k64 k h1.2 (fun h3 => by have := hMl k h3; omega) (by omega) (by omega)
   ·rcases hN with h1 | h1
    ·rw [h1, hl5.l1] at hk; cases hk
    ·exact k64 k h1.2 (fun h3 => by have := hMl k h3; omega) (by omega) (by omega)
  ·rw [Heap.n_set]; rcases hk with h1 | h1 <;> omega
  ·rcases hM6 k hk with h1 | h1
   ·exact .inl h1
   ·exact .inr (by omega)
  ·exact .inr (by rcases hk with h1 | h1 <;> omega)
  ·intro h1
   rcases hk with h2 | h2
   ·exact nM6 k h1 h2
   ·rcases hM6 k h1 with h3 | h3
    ·have := hMl k h3; omega
    ·omega
end Go.Proofs.Ytakgjjbmniilhaa
