/- Checkpoint. -/
import Derived.Test.YtakgjjbmniilhaaMg17
import Derived.Test.YtakgjjbmniilhaaMg13
set_option linter.unusedVariables false
set_option maxRecDepth 100000
set_option linter.unusedVariables false
namespace Go.Proofs.Ytakgjjbmniilhaa
open Go Go.Vm
attribute [-go_sem] qQ
variable {h g : Heap} {R W M N : Set'} {bd lp fr ct : Nat} {D : DS} {G : LgS}
def ckH (G : LgS) (l : List V) : Hd := ⟨G.H.ep + 1, G.H.ep + 1, 1 - G.H.ha, l.length, G.nx⟩
def ckD (D : DS) (fr ct : Nat) (G : LgS) (l : List V) : DS := layD ((snapW D (fr + 2 + (1 - G.H.ha) * ((ct - 2) / 2)) l (qL l.length)).flush fr ct) fr ct (ckH G l)
noncomputable def ldG (D : DS) (fr ct : Nat) (H : Hd) : LgS := ⟨H, (zX D fr ct H).2.2, (zX D fr ct H).2.1, (zX D fr ct H).2.2 - 1, snapA D fr ct H, (zX D fr ct H).1⟩
noncomputable def ckG (D : DS) (fr ct : Nat) (G : LgS) (l : List V) : LgS := ldG (ckD D fr ct G l) fr ct (ckH G l)
noncomputable def CkQ (h : Heap) (M N : Set') (lp bd fr ct : Nat) (D : DS) (G : LgS) (l : List V) (r : V) (g : Heap) : Prop :=
 if (ct - 2) / 2 * 120 < l.length then r = .int .i64 5 ∧ h.n ≤ g.n ∧ ∀ k, k < h.n → g.get k = h.get k
 else r = .int .i64 0 ∧ TwoQ h g M N lp bd fr ct (ckD D fr ct G l) (ckG D fr ct G l)
noncomputable def ir18_z : LC := match ir18 with
 | .seq _ (.seq _ (.seq _ (.seq _ (.seq _ z)))) => z
 | _ => .skip
noncomputable def ir18_c : LC := match ir18 with
 | .seq a (.seq b (.seq c (.seq d (.seq e _)))) => .seq a (.seq b (.seq c (.seq d (.seq e ir18_z))))
 | _ => .skip
theorem ir18_c_eq : ir18 = ir18_c := rfl
theorem hv_blk {H : Hd} {c : Blk} (h : c = (((((Blk.of [V.int IntKind.u64 0, V.int IntKind.u64 0, V.int IntKind.u64 0, V.int IntKind.u64 0, V.int IntKind.u64 0]).set 0 (V.int IntKind.u64 ↑H.ep)).set 1 (V.int IntKind.u64 ↑H.si)).set 2 (V.int IntKind.u64 ↑H.ha)).set 3 (V.int IntKind.u64 ↑H.sz)).set 4 (V.int IntKind.u64 ↑H.fi)) : c.gets 0 5 = H.v ∧ c.size = 5 ∧ c.ro = false := by
 subst h
 refine ⟨xR fun j hj => ?_, rfl, rfl⟩
 have hh : j = 0 ∨ j = 1 ∨ j = 2 ∨ j = 3 ∨ j = 4 := by omega
 rcases hh with rfl | rfl | rfl | rfl | rfl <;> rfl
set_option maxHeartbeats 16000000 in
theorem ck_z {g : Heap} {P : V → Heap → Prop} {b2 b5 b7 : Nat} {S : Set'} {v : V} {l : List V} {tr : Tr V} {ca ch : Blk} (hx : DkX g M bd D) (hl : LgX g N lp bd fr ct G) (hMN : ∀ k, N k → ¬ M k) (hc : 16 ≤ ct ∧ fr + ct ≤ D.n) (hR : ∀ b, R b) (hW : ∀ k, (M k ∨ N k) ∨ h.n ≤ k → W k)
  (hhg : h.n ≤ g.n) (kh : ∀ k, k < h.n → g.get k = h.get k) (hlo : ∀ k, M k ∨ N k → k < h.n)
  (t1 : tr.get 1 = some v) (t2 : tr.get 2 = some (.ptr (some (b2, 0)))) (t5 : tr.get 5 = some (.ptr (some (b5, 0)))) (t7 : tr.get 7 = some (.ptr (some (b7, 0))))
  (c2 : g.get b2 = some (.cells (Blk.of [.ptr (some (lp, 0))]) 32)) (c5 : g.get b5 = some (.cells ca 86)) (a2 : ca.size = 2) (a3 : ca.get 0 = .int .i64 ((fr + 2 : Nat) : Int)) (a4 : ca.get 1 = .int .i64 ((fr + 2 + (ct - 2) / 2 : Nat) : Int)) (c7 : g.get b7 = some (.cells ch 44)) (ch1 : ch.gets 0 5 = (ckH G l).v) (ch2 : ch.size = 5)
  (hb2 : h.n ≤ b2) (hb5 : h.n ≤ b5) (hb7 : h.n ≤ b7)
  (hv : LR g S v l) (hby : Byt l) (hll : l.length ≤ (ct - 2) / 2 * 120) (hha : G.H.ha < 2) (hnx : G.nx ≤ 4611686018427387904 ∧ G.H.ep < 4611686018427387904 ∧ 1 ≤ G.nx) (few : ∀ s, (D.pe s).length < 1000000)
  (hP : ∀ g', TwoQ h g' M N lp bd fr ct (ckD D fr ct G l) (ckG D fr ct G l) → P (.int .i64 0) g') :
  GO ⟨Try.prog, true⟩ R W none (Vm.Fin ⟨Try.prog, true⟩ R W [.tmp 4] P) [.code ir18_z] ⟨⟨95, tr⟩, []⟩ g := by
 have hp := hx.pos
 have hR' := hR
 have ra := hR b5
 have rb := hR b7
 have heg : ∀ i, i < 5 → ch.get i = (ckH G l).v.getD i qE := fun i hi => by
  have := Blk.qM ch 5 0 i hi
  rw [ch1, Nat.zero_add] at this
  rw [List.getD_eq_getElem?_getD, this]; rfl
 have he2 : ch.get 2 = .int .u64 ((1 - G.H.ha : Nat) : Int) := heg 2 (by omega)
 obtain ⟨base, ebase⟩ : ∃ base, base = fr + 2 + (1 - G.H.ha) * ((ct - 2) / 2) := ⟨_, rfl⟩
 have ag : ca.get (1 - G.H.ha) = .int .i64 (base : Int) := by
  have : G.H.ha = 0 ∨ G.H.ha = 1 := by omega
  rcases this with e | e <;> rw [ebase, e]
  ·rw [a4]; simp
  ·rw [a3]; simp
 have hA : ((1 - G.H.ha : Nat) : Int) < 2 := by omega
 have hA0 : (0 : Int) ≤ ((1 - G.H.ha : Nat) : Int) := by omega
 have hbl : 1 - G.H.ha < ca.size := by omega
 have hvo := hv.one
 have wn := hW g.n (.inr hhg)
 simp -implicitDefEqProofs (disch := first | omega | (simp -implicitDefEqProofs only [szs, ne_eq] <;> omega) | fail) only [go_sem, seval, ↓reduceIte, ir18_z, ir18, qE, t1, t5, t7, c7, ch2, he2, hA, hA0, c5, a2, ag, ra, rb, wn]
 obtain ⟨gA, eA⟩ : ∃ gA, gA = (g.push (.cells (Blk.of [V.int IntKind.i64 0]) 3)).set g.n (.cells ((Blk.of [V.int IntKind.i64 0]).set 0 (V.int IntKind.i64 ↑base)) 3) := ⟨_, rfl⟩
 rw [← eA]
 have nA : gA.n = g.n + 1 := by rw [eA]; simp
 have kA : ∀ k, k < g.n → gA.get k = g.get k := fun k hk => by rw [eA, qB (by simp) (by omega), qC (by omega)]
 have A8 : gA.get g.n = some (.cells ((Blk.of [V.int IntKind.i64 0]).set 0 (V.int IntKind.i64 ↑base)) 3) := by rw [eA]; exact qF (by simp) rfl _
 clear eA
 refine qK.of (SF.any (M := ⟨Try.prog, true⟩) (SF.foot (clone42 (R := qR) (W := noW) (hv.old kA) (fun _ => trivial) (by omega) hby.allOne).kept (fun b _ => hR b) (fun _ h => h.elim))) ?_
 rintro v2 g2 ⟨⟨o2, k2⟩, vf2⟩
 have n2 := vf2.n
 simp -implicitDefEqProofs (disch := first | omega | (simp -implicitDefEqProofs only [szs, ne_eq] <;> omega) | fail) only [go_sem, seval, ↓reduceIte]
 have ho2 := o2.lr.one
 refine qK.of (SF.any (M := ⟨Try.prog, true⟩) (SF.foot (chunk43 (R := qR) (W := noW) ho2).kept (fun b _ => hR b) (fun _ h => h.elim))) ?_
 rintro r g3 ⟨⟨rfl, e3⟩, vf3⟩
 have n3 : g3.n = g2.n + 2 := by rw [e3]; simp
 have k3 : ∀ k, k < g2.n → g3.get k = g2.get k := fun k hk => by rw [e3, qC (by simp; omega), qC (by omega)]
 have B1 : g3.get g2.n = some (.cells (Blk.of [v2]) 22) := by rw [e3, qC (by simp)]; exact qH rfl _
 have Bn : g3.get (g2.n + 1) = some (.cells (Blk.of [.int .i64 120]) 3) := by rw [e3]; exact qH (by simp) _
 clear e3
 have kg3 : ∀ k, k < g.n → g3.get k = g.get k := fun k hk => by rw [k3 k (by omega), k2 k (by omega), kA k hk]
 obtain ⟨⟨c, v11, rv, vs, hl'⟩, hlt, hNl⟩ := hl
 have l1 := hl'.l1
 have l2 := hl'.l2
 have hlp := hlo lp (.inr hNl)
 have L3 := (kg3 lp (by omega)).trans l1
 have X3 := (kg3 b2 (Heap.lt_of_get c2)).trans c2
 have hb2l := Heap.lt_of_get c2
 have hb7l := Heap.lt_of_get c7
 have hx3 : DkX g3 M bd D := hx.old (by omega) kg3
 have B8 := (k3 g.n (by omega)).trans ((k2 g.n (by omega)).trans A8)
 have hMb : ∀ k, M k → k < h.n := fun k hk => hlo k (.inl hk)
 have hml : (1 - G.H.ha) * ((ct - 2) / 2) + (ct - 2) / 2 ≤ 2 * ((ct - 2) / 2) := by
  have : G.H.ha = 0 ∨ G.H.ha = 1 := by omega
  rcases this with e | e <;> rw [e] <;> omega
 have hsN : qL l.length = (l.length + 119) / 120 := rfl
 have o3 : Own (g.n + 1) g3 v2 l 5 := (nA ▸ o2).old k3
 simp -implicitDefEqProofs (disch := first | omega | (simp -implicitDefEqProofs only [szs, ne_eq] <;> omega) | fail) only [go_sem, seval, ↓reduceIte]
 refine ck_rg (b1 := g2.n) (bn := g2.n + 1) (b2 := b2) (b8 := g.n) (base := base) (v := v2) (l := l) (S := fun k => g.n + 1 ≤ k ∧ k < g3.n) hR (fun k hk => hk.elim (fun h => hW k (.inl (.inl h))) fun h => hW k (.inr (by rcases h with rfl | h <;> omega))) hx3 (fun k hk => by have := hMb k hk; have : k ≠ lp := fun e => hMN lp hNl (e ▸ hk); refine ⟨by omega, by omega, this, by omega, by omega⟩) (by simp -implicitDefEqProofs (disch := first | omega | (simp -implicitDefEqProofs only [szs, ne_eq] <;> omega) | fail) only [go_sem, seval, ↓reduceIte, t2]) (by simp -implicitDefEqProofs (disch := first | omega | (simp -implicitDefEqProofs only [szs, ne_eq] <;> omega) | fail) only [go_sem, seval, ↓reduceIte]) (by simp -implicitDefEqProofs (disch := first | omega | (simp -implicitDefEqProofs only [szs, ne_eq] <;> omega) | fail) only [go_sem, seval, ↓reduceIte]) ⟨_, X3, rfl, rfl⟩ ⟨c, L3, l2, hl'.k0⟩ ⟨_, B8, rfl, rfl, by rw [Blk.get_set, if_pos rfl]⟩ ⟨_, B1, rfl, rfl⟩ ⟨_, Bn, rfl, rfl⟩ ⟨by omega, by omega, by omega, by omega⟩ (o3.lr.mono fun b hb h => ⟨h, hb⟩) (fun k hk => ⟨fun h => by have := hMb k h; omega, by omega, hk.2⟩) (Own.lrc o3).2 hby (by omega) (by omega) hp.2 (fun s => by have := few s; omega) fun g4 m M4 hx4 hM4 hm4 hmM hmd n4 k4 => ?_
 have L4 := (k4 lp (by omega) (hMN lp hNl) (by omega)).trans L3
 have X4 := (k4 b2 (by omega) (fun h => by have := hMb b2 h; omega) (by omega)).trans X3
 have rl := hR lp
 have r2 := hR b2
 simp -implicitDefEqProofs (disch := first | omega | (simp -implicitDefEqProofs only [szs, ne_eq] <;> omega) | fail) only [go_sem, seval, ↓reduceIte, qE, t2, X4, L4, l2, hl'.k0, hl'.k1, hl'.k2]
 refine qN.of (R' := qR) (W' := M4) ((flush_dk (R := qR) (W := M4) hx4 (fun _ => trivial) (fun _ h => h) (a := fr) (m := ct) (by rw [snapW_n]; exact hc.2)).foot (fun _ h => h) (fun _ h => h)) ?_
 rintro r g5 ⟨rfl, ⟨n5, k5⟩, M5, hx5, hM5⟩
 have hM4l : ∀ k, M4 k → M k ∨ g3.n ≤ k := hM4
 have k45 : ∀ k, k < g3.n → ¬ M k → k ≠ g.n → g5.get k = g3.get k := fun k h1 h2 h3 => by
  rw [k5 k (by omega) fun h => (hM4l k h).elim h2 fun h => by omega, k4 k h1 h2 h3]
 have L5 := (k45 lp (by omega) (hMN lp hNl) (by omega)).trans L3
 have X5 := (k45 b2 (by omega) (fun h => by have := hMb b2 h; omega) (by omega)).trans X3
 have C7 := (k45 b7 (by omega) (fun h => by have := hMb b7 h; omega) (by omega)).trans ((kg3 b7 hb7l).trans c7)
 have md5 := (k5 m (Heap.lt_of_get hmd) hmM).trans hmd
 have he0 : ch.get 0 = .int .u64 ((ckH G l).ep : Int) := heg 0 (by omega)
 have he1 : ch.get 1 = .int .u64 ((ckH G l).si : Int) := heg 1 (by omega)
 have he2' : ch.get 2 = .int .u64 ((ckH G l).ha : Int) := heg 2 (by omega)
 have he3 : ch.get 3 = .int .u64 ((ckH G l).sz : Int) := heg 3 (by omega)
 have he4 : ch.get 4 = .int .u64 ((ckH G l).fi : Int) := heg 4 (by omega)
 have w4 : ∀ b, b < g4.n → M4 b → W b := fun b _ h => (hM4l b h).elim (fun h => hW b (.inl (.inl h))) fun h => hW b (.inr (by omega))
 simp -implicitDefEqProofs (disch := first | omega | (simp -implicitDefEqProofs only [szs, ne_eq] <;> omega) | fail) only [go_sem, seval, ↓reduceIte, qE, t2, t7, X5, C7, ch2, he0, he1, he2', he3, he4, rb, r2]
 refine ⟨?_, ?_⟩
 ·repeat' apply And.intro
  all_goals first
   | exact fun _ => hR _
   | exact fun b _ _ => hR b
   | exact w4
 have hLt : (ckH G l).Lt := ⟨by show G.H.ep + 1 < _; omega, by show G.H.ep + 1 < _; omega, by show 1 - G.H.ha < _; omega, by show l.length < _; omega, by show G.nx < _; omega⟩
 have nM5 : ¬ M5 lp := fun h => (hM5 lp h).elim (fun h => (hM4l lp h).elim (hMN lp hNl) fun h => by omega) fun h => by omega
 have hw5 : ∀ k, M5 k → W k := fun k h => (hM5 k h).elim (fun h => (hM4l k h).elim (fun h => hW k (.inl (.inl h))) fun h => hW k (.inr (by omega))) fun h => hW k (.inr (by omega))
 have hDn : ((snapW D base l (qL l.length)).flush fr ct).n = D.n := snapW_n D base l _
 refine qK.of (SF.any (M := ⟨Try.prog, true⟩) (lay_ok (H := ckH G l) (c := c) hx5 nM5 L5 l2 hl'.l3 hl'.k0 hl'.k1 hl'.k2 (by rw [hDn]; exact hc) (by rw [hDn]; exact hp.2) hLt (by
  show (if _ then _ else _ : List (List V)).length < _
  rw [if_pos (by omega)]; simp) hR hw5 (hW lp (.inl (.inr hNl))))) ?_
 rintro r6 g6 ⟨⟨n6, k6, M6, hx6, hM6⟩, c6, L6, s6, t6, g36, j6⟩
 have k56 : ∀ k, k < g5.n → ¬ M5 k → k ≠ lp → g6.get k = g5.get k := k6
 have X6 := (k56 b2 (by omega) (fun h => (hM5 b2 h).elim (fun h => (hM4l b2 h).elim (fun h => by have := hMb b2 h; omega) fun h => by omega) fun h => by omega) (by omega)).trans X5
 simp -implicitDefEqProofs (disch := first | omega | (simp -implicitDefEqProofs only [szs, ne_eq] <;> omega) | fail) only [go_sem, seval, ↓reduceIte, qE, t2, X6, r2]
 have hx6' : DkX g6 M6 bd (ckD D fr ct G l) := by unfold ckD; rw [← ebase]; exact hx6
 have nM6 : ∀ k, M6 k → k ≠ lp := fun k hk e => (hM6 k hk).elim (fun h => nM5 (e ▸ h)) fun h => by omega
 have hDn6 : (ckD D fr ct G l).n = D.n := snapW_n D _ l _
 refine qK.of (load_ok (H := ckH G l) (v10 := .int .u64 (G.sy : Int)) (bd := bd) (fr := fr) (ct := ct) hx6' ⟨c6, L6, s6, t6, (j6 0 (by omega)).trans hl'.k0, (j6 1 (by omega)).trans hl'.k1, (j6 2 (by omega)).trans hl'.k2, g36, (j6 10 (by omega)).trans hl'.k10⟩ (fun h => nM6 _ h rfl) (by rw [hDn6]; exact hc) (by rw [hDn6]; exact hp.2) (by show 1 - G.H.ha < 2; omega) hll (by show G.nx ≤ _; omega) hLt hR (hW lp (.inl (.inr hNl)))) ?_
 rintro r7 g7 ⟨n7, k7, hl7⟩
 have X7 := (k7 b2 (Heap.lt_of_get X6) (by omega)).trans X6
 obtain ⟨c7', v11', rv', vs', hl7⟩ := hl7
 have hnxl := loadF_nx (ckD D fr ct G l) fr ct (ckH G l)
 obtain ⟨F, eF⟩ : ∃ F, F = zX (ckD D fr ct G l) fr ct (ckH G l) := ⟨_, rfl⟩
 rw [← eF] at hl7 hnxl
 have hfi : (ckH G l).fi = G.nx := rfl
 have f8 := hl7.k8
 have ew2 : IntKind.u64.wrap ((F.2.2 : Int) - 1) = ((F.2.2 - 1 : Nat) : Int) := by rw [show (F.2.2 : Int) - 1 = ((F.2.2 - 1 : Nat) : Int) by omega]; exact wrap64 (by omega)
 have L7 := hl7.l1
 have wl := hW lp (.inl (.inr hNl))
 have lt7 := Heap.lt_of_get L7
 have hm5 := Heap.lt_of_get md5
 have hmM5 : ¬ M5 m := fun h => (hM5 m h).elim hmM fun h => by have := Heap.lt_of_get hmd; omega
 have md7 : g7.get m = some (.deferred true) := by
  rw [k7 m (by omega) (by omega), k56 m hm5 hmM5 (by omega)]; exact md5
 have md8 : (g7.set lp (.cells (c7'.set 10 (.int .u64 ((F.2.2 - 1 : Nat) : Int))) 47)).get m = some (.deferred true) := by rw [qB lt7 (by omega)]; exact md7
 simp -implicitDefEqProofs (disch := first | omega | (simp -implicitDefEqProofs only [szs, ne_eq] <;> omega) | fail) only [go_sem, seval, ↓reduceIte, qE, t2, X7, L7, hl7.l2, hl7.l3, f8, ew2, rl, r2, wl, md8]
 refine ⟨hW m (.inr (by omega)), hP _ ?_⟩
 have hM5o : ∀ k, M5 k → M k ∨ g3.n ≤ k := fun k h => (hM5 k h).elim (hM4l k) fun h => .inr (by omega)
 have hM6o : ∀ k, M6 k → M k ∨ g3.n ≤ k := fun k h => (hM6 k h).elim (hM5o k) fun h => .inr (by omega)
 have hmM6 : ¬ M6 m := fun h => (hM6 m h).elim hmM5 fun h => by omega
 have kz : ∀ k, k ≠ lp → k ≠ m → ((g7.set lp (O.cells (c7'.set 10 (V.int IntKind.u64 ↑(F.snd.snd - 1))) 47)).set m (O.deferred false)).get k = g7.get k := fun k h1 h2 => by
  rw [qB (by simp only [Heap.n_set]; omega) h2, qB lt7 h1]
 have eG : ckG D fr ct G l = ⟨ckH G l, F.2.2, F.2.1, F.2.2 - 1, snapA (ckD D fr ct G l) fr ct (ckH G l), F.1⟩ := by rw [eF]; rfl
 refine ⟨by simp only [Heap.n_set]; omega, fun k h1 h2 h3 => ?_, M6, fun k => k = lp ∨ (g6.n ≤ k ∧ k < g7.n), hx6'.same (by simp only [Heap.n_set]; exact n7) fun k hk => ?_, ⟨?_, fun k hk => ?_, .inl rfl⟩, fun k hk => (hM6o k hk).imp id fun h => by omega, fun k hk => ?_, fun k hk h1 => ?_⟩
 ·have e1 : k ≠ lp := fun e => h3 (e ▸ hNl)
  rw [kz k e1 (by omega), k7 k (by omega) e1, k56 k (by omega) (fun h => (hM5o k h).elim h2 fun h => by omega) e1, k45 k (by omega) h2 (by omega), kg3 k (by omega), kh k h1]
 ·have e1 := nM6 k hk
  have e2 : k ≠ m := fun e => hmM6 (e ▸ hk)
  rw [kz k e1 e2, k7 k (hx6.lt k hk) e1]
 ·rw [eG]
  refine LogAt.head (h := g7) (c := c7') (LogAt.mono ⟨c7', v11', rv', vs', hl7⟩ fun k h1 h2 => .inr ⟨h2, h1⟩) L7 (fun k hk => ?_) (fun k c' hk hN => ?_) (by rw [qB (by simp only [Heap.n_set]; omega) (by omega)]; exact qF lt7 rfl _) (by simp only [Blk.size_set]; exact hl7.l2) (by simp only [Blk.qY]; exact hl7.l3) (by rw [zI (by omega)]; exact hl7.k3) (by rw [Blk.get_set, if_pos rfl]) fun j h1 h2 => by rw [Blk.get_set, if_neg h2]
  ·obtain ⟨h1, c', h2⟩ := hk
   exact kz k (fun e => by rw [e, L7] at h2; cases h2) fun e => by rw [e, md7] at h2; cases h2
  ·exact kz k (fun e => by rw [e, L7] at hk; cases hk) fun e => by rw [e, md7] at hk; cases hk
 ·simp only [Heap.n_set]; rcases hk with h1 | h1 <;> omega
 ·rcases hk with rfl | h1
  ·exact .inl hNl
  ·exact .inr (by omega)
 ·rcases hk with h2 | h2
  ·exact nM6 k h1 h2
  ·have := hx6.lt k h1; omega
set_option maxHeartbeats 8000000 in
theorem checkpoint_ok {S : Set'} {v : V} {l : List V} (hx : DkX h M bd D) (hl : LgX h N lp bd fr ct G) (hMN : ∀ k, N k → ¬ M k) (hc : 16 ≤ ct ∧ fr + ct ≤ D.n) (hR : ∀ b, R b) (hW : ∀ k, M k ∨ N k → W k)
  (hv : LR h S v l) (hS : ∀ k, S k → k < h.n) (hby : Byt l) (hll : l.length ≤ 1000000) (hha : G.H.ha < 2) (hnx : G.nx ≤ 4611686018427387904 ∧ G.H.ep < 4611686018427387904 ∧ 1 ≤ G.nx) (few : ∀ s, (D.pe s).length < 1000000) :
  SF ⟨Try.prog, true⟩ 18 [.ptr (some (lp, 0)), v] h R W (CkQ h M N lp bd fr ct D G l) := by
 have hp := hx.pos
 have hl0 := hl
 obtain ⟨⟨c, v11, rv, vs, hl⟩, hlt, hNl⟩ := hl
 have l1 := hl.l1
 have l2 := hl.l2
 have l3 := hl.l3
 have k8 := hl.k8
 have hlp := Heap.lt_of_get l1
 have ra := hR lp
 have hR' : ∀ b, h.n ≤ b ∨ R b := fun b => .inr (hR b)
 have hlen := hv.lenV Try.underlying22
 refine SF.go hm Try.func18 ir18_eq ?_
 rw [ir18_c_eq]
 simp -implicitDefEqProofs (disch := first | omega | (simp -implicitDefEqProofs only [szs, ne_eq] <;> omega) | fail) only [go_sem, seval, ↓reduceIte, reduceCtorEq, ir18_c, ir18]
 have kP : ∀ (o : O) k, k < h.n → (h.push o).get k = h.get k := fun o k hk => qC (by omega) _
 have hlP : LgX (h.push (.cells (Blk.of [.ptr (some (lp, 0))]) 32)) N lp bd fr ct G := hl0.keep (by simp) fun k h _ => kP _ k h
 refine qK.of (SF.any (M := ⟨Try.prog, true⟩) (yP hlP hR')) ?_
 rintro r g ⟨rfl, rfl⟩
 have X0 : (h.push (.cells (Blk.of [.ptr (some (lp, 0))]) 32)).get h.n = some (.cells (Blk.of [.ptr (some (lp, 0))]) 32) := qH rfl _
 have kP' := kP (.cells (Blk.of [.ptr (some (lp, 0))]) 32)
 simp -implicitDefEqProofs (disch := first | omega | (simp -implicitDefEqProofs only [szs, ne_eq] <;> omega) | fail) only [go_sem, seval, ↓reduceIte, reduceCtorEq, qE, X0]
 obtain ⟨hP, eP⟩ : ∃ hP, hP = h.push (.cells (Blk.of [.ptr (some (lp, 0))]) 32) := ⟨_, rfl⟩
 rw [← eP] at hlP X0 kP' ⊢
 refine qK.of (SF.any (M := ⟨Try.prog, true⟩) (halves_ok (bd := bd) (fr := fr) (ct := ct) ⟨c, (kP' lp hlp).trans l1, l2, hl.k0, hl.k1, hl.k2⟩ ⟨by omega, by omega⟩ (by omega) hR')) ?_
 rintro r g1 ⟨rfl, n1, k1⟩
 have nP : hP.n = h.n + 1 := by rw [eP]; simp
 clear eP
 have hg1 : h.n ≤ g1.n := by omega
 have hmul : (((ct - 2) / 2 : Nat) : Int) * 120 = (((ct - 2) / 2 * 120 : Nat) : Int) := by omega
 by_cases h5 : (ct - 2) / 2 * 120 < l.length
 ·have i5 : (((ct - 2) / 2 * 120 : Nat) : Int) < (l.length : Int) := by omega
  simp -implicitDefEqProofs (disch := first | omega | (simp -implicitDefEqProofs only [szs, ne_eq] <;> omega) | fail) only [go_sem, seval, ↓reduceIte, reduceCtorEq, qE, ↓hlen, hmul, i5, hg1]
  unfold CkQ
  rw [if_pos h5]
  exact ⟨rfl, by simp; omega, fun k hk => by rw [qB (by simp) (by omega), qC (by omega), k1 k (by omega), kP' k hk]⟩
 have i5 : ¬ (((ct - 2) / 2 * 120 : Nat) : Int) < (l.length : Int) := by omega
 have X1 := (k1 h.n (by omega)).trans X0
 have L1 := (k1 lp (by omega)).trans ((kP' lp hlp).trans l1)
 have c3 : c.get 3 = .int .u64 (G.H.ep : Int) := jG hl.k3 (j := 0) (by omega)
 have c5 : c.get 5 = .int .u64 (G.H.ha : Int) := jG hl.k3 (j := 2) (by omega)
 have w1 : IntKind.u64.wrap ((G.H.ep : Int) + 1) = ((G.H.ep + 1 : Nat) : Int) := by rw [show (G.H.ep : Int) + 1 = ((G.H.ep + 1 : Nat) : Int) by omega]; exact wrap64 (by omega)
 have w2 : IntKind.u64.wrap (1 - (G.H.ha : Int)) = ((1 - G.H.ha : Nat) : Int) := by rw [show 1 - (G.H.ha : Int) = ((1 - G.H.ha : Nat) : Int) by omega]; exact wrap64 (by omega)
 have w3 : IntKind.u64.wrap (l.length : Int) = (l.length : Int) := wrap64 (by omega)
 simp -implicitDefEqProofs (disch := first | omega | (simp -implicitDefEqProofs only [szs, ne_eq] <;> omega) | fail) only [go_sem, seval, ↓reduceIte, reduceCtorEq, qE, ↓hlen, hmul, i5, hg1, X1, L1, l2, c3, c5, k8, ra, w1, w2, w3, cvd3_42, c3_42]
 refine ⟨?_, ?_, ?_⟩
 ·repeat' apply And.intro
  all_goals
   intro b hb hc
   simp at hb hc
   try omega
 ·repeat' apply And.intro
  all_goals first
   | exact fun _ => .inr (hR _)
   | exact fun b _ _ => .inr (hR b)
   | exact fun b _ h => nomatch h
   | exact fun _ => .inl (by omega)
 obtain ⟨ch, ech⟩ : ∃ ch, ch = (((((Blk.of [V.int IntKind.u64 0, V.int IntKind.u64 0, V.int IntKind.u64 0, V.int IntKind.u64 0, V.int IntKind.u64 0]).set 0 (V.int IntKind.u64 ↑(G.H.ep + 1))).set 1 (V.int IntKind.u64 ↑(G.H.ep + 1))).set 2 (V.int IntKind.u64 ↑(1 - G.H.ha))).set 3 (V.int IntKind.u64 ↑l.length)).set 4 (V.int IntKind.u64 ↑G.nx) := ⟨_, rfl⟩
 obtain ⟨hch, chs, chr⟩ := hv_blk (H := ckH G l) ech
 rw [← ech]
 clear ech
 obtain ⟨ca, eca⟩ : ∃ ca, ca = ((Blk.of [V.int IntKind.i64 0, V.int IntKind.i64 0]).set 0 (V.int IntKind.i64 ↑(fr + 2))).set 1 (V.int IntKind.i64 ↑(fr + 2 + (ct - 2) / 2)) := ⟨_, rfl⟩
 rw [← eca]
 have a2 : ca.size = 2 := by rw [eca]; rfl
 have a3 : ca.get 0 = .int .i64 ((fr + 2 : Nat) : Int) := by rw [eca]; rfl
 have a4 : ca.get 1 = .int .i64 ((fr + 2 + (ct - 2) / 2 : Nat) : Int) := by rw [eca]; rfl
 clear eca
 obtain ⟨g2, e2⟩ : ∃ g2, g2 = ((((g1.push (O.cells (Blk.of [V.int IntKind.i64 0, V.int IntKind.i64 0]) 86)).set g1.n (O.cells ca 86)).push (O.cells (Blk.of [V.int IntKind.u64 0, V.int IntKind.u64 0, V.int IntKind.u64 0, V.int IntKind.u64 0, V.int IntKind.u64 0]) 44)).set (g1.n + 1) (O.cells ch 44)) := ⟨_, rfl⟩
 rw [← e2]
 have n2 : g2.n = g1.n + 2 := by rw [e2]; simp
 have k2 : ∀ k, k < g1.n → g2.get k = g1.get k := fun k hk => by rw [e2, qB (by simp) (by omega), qC (by simp; omega), qB (by simp) (by omega), qC (by omega)]
 have B5 : g2.get g1.n = some (.cells ca 86) := by rw [e2, qB (by simp) (by omega), qC (by simp)]; exact qF (by simp) rfl _
 have B7 : g2.get (g1.n + 1) = some (.cells ch 44) := by rw [e2]; exact qF (by simp) rfl _
 clear e2
 have kh2 : ∀ k, k < h.n → g2.get k = h.get k := fun k hk => by rw [k2 k (by omega), k1 k (by omega), kP' k hk]
 refine ck_z (h := h) (M := M) (N := N) (D := D) (b2 := h.n) (b5 := g1.n) (b7 := g1.n + 1) (S := S) (v := v) (l := l) (ca := ca) (ch := ch) (hx.old (by omega) kh2) (hl0.keep (by omega) fun k h _ => kh2 k h) hMN hc hR' (fun k hk => hk.elim (fun h => .inr (hW k h)) .inl) (by omega) kh2 (fun k hk => hk.elim (hx.lt k) (hlt k)) (by simp -implicitDefEqProofs (disch := first | omega | (simp -implicitDefEqProofs only [szs, ne_eq] <;> omega) | fail) only [go_sem, seval, ↓reduceIte, reduceCtorEq]) (by simp -implicitDefEqProofs (disch := first | omega | (simp -implicitDefEqProofs only [szs, ne_eq] <;> omega) | fail) only [go_sem, seval, ↓reduceIte, reduceCtorEq]) (by simp -implicitDefEqProofs (disch := first | omega | (simp -implicitDefEqProofs only [szs, ne_eq] <;> omega) | fail) only [go_sem, seval, ↓reduceIte, reduceCtorEq]) (by simp -implicitDefEqProofs (disch := first | omega | (simp -implicitDefEqProofs only [szs, ne_eq] <;> omega) | fail) only [go_sem, seval, ↓reduceIte, reduceCtorEq]) ((k2 h.n (by omega)).trans X1) B5 a2 a3 a4 B7 hch chs (Nat.le_refl _) (by omega) (by omega) (hv.old kh2) hby (by omega) hha hnx few fun g' hq => ?_
 unfold CkQ
 rw [if_neg h5]
 exact ⟨rfl, hq⟩
end Go.Proofs.Ytakgjjbmniilhaa
set_option maxRecDepth 100000
set_option linter.unusedVariables false
namespace Go.Proofs.Ytakgjjbmniilhaa
open Go Go.Vm
attribute [-go_sem] qQ
variable {D : DS} {fr ct : Nat} {G : LgS}
inductive Chn (sec : Nat → List V) (lim he : Nat) (a0 nx0 we0 : Nat) : List (List V) → Nat → Nat → Nat → Prop
 | nil : Chn sec lim he a0 nx0 we0 [] a0 nx0 we0
 | snoc {rs : List (List V)} {a nx we e p : Nat} {b : List V} : Chn sec lim he a0 nx0 we0 rs a nx we → zO sec lim a nx = some (e, b, p) → we ≤ e → e ≤ he → Chn sec lim he a0 nx0 we0 (rs ++ [b]) (a + p) (nx + 1) e
theorem Chn.run {sec : Nat → List V} {lim he a0 nx0 we0 a nx we : Nat} {rs : List (List V)} (h : Chn sec lim he a0 nx0 we0 rs a nx we) (rs0 : List (List V)) : (jU sec he (lim - a0) a0 (kN nx0 we0 rs0 a0)).fin = (jU sec he (lim - a) a (kN nx we (rs0 ++ rs) a)).fin := by
 induction h with
 | nil => rw [List.append_nil]
 | snoc h1 h2 h3 h4 ih =>
  rw [ih, run_fresh, h2]
  simp only
  rw [if_neg (by omega), List.append_assoc]
theorem Chn.le {sec : Nat → List V} {lim he a0 nx0 we0 a nx we : Nat} {rs : List (List V)} (h : Chn sec lim he a0 nx0 we0 rs a nx we) : we0 ≤ we ∧ a0 ≤ a ∧ nx0 ≤ nx := by
 induction h with
 | nil => omega
 | snoc h1 h2 h3 h4 ih => omega
theorem Chn.up {sec : Nat → List V} {lim he he' a0 nx0 we0 a nx we : Nat} {rs : List (List V)} (h : Chn sec lim he a0 nx0 we0 rs a nx we) (hh : he ≤ he') : Chn sec lim he' a0 nx0 we0 rs a nx we := by
 induction h with
 | nil => exact .nil
 | snoc h1 h2 h3 h4 ih => exact .snoc ih h2 h3 (by omega)
theorem Chn.top {sec : Nat → List V} {lim he a0 nx0 we0 a nx we : Nat} {rs : List (List V)} (h : Chn sec lim he a0 nx0 we0 rs a nx we) (hh : we0 ≤ he) : we ≤ he := by
 induction h with
 | nil => exact hh
 | snoc h1 h2 h3 h4 ih => exact h4
theorem tailR_same {sec sec' : Nat → List V} {lim num ep of : Nat} : ∀ (k p i : Nat) (out : List V), (∀ j, p ≤ j → j < p + k → sec' j = sec j) → tailR sec' lim num ep of k p i out = tailR sec lim num ep of k p i out
 | 0, _, _, _, _ => rfl
 | k + 1, p, i, out, h => by
  unfold tailR
  rw [h p (by omega) (by omega)]
  split
  ·rfl
  split
  ·rfl
  ·rename_i r _
   split
   ·exact tailR_same k (p + 1) (i + 1) _ fun j h1 h2 => h j (by omega) (by omega)
   ·rfl
theorem record_same {sec sec' : Nat → List V} {lim a num e p : Nat} {b : List V} (hr : zO sec lim a num = some (e, b, p)) (h : ∀ j, a ≤ j → j < a + p → sec' j = sec j) : zO sec' lim a num = some (e, b, p) := by
 have hp := record_of hr
 unfold zO at hr ⊢
 rw [h a (by omega) (by omega)]
 split at hr
 ·cases hr
 rename_i hl
 rw [if_neg hl]
 split at hr
 ·cases hr
 ·rename_i r hra
  split at hr
  ·rename_i hc
   rw [if_pos hc]
   rw [Option.map_eq_some_iff] at hr
   obtain ⟨out, h1, h2⟩ := hr
   cases h2
   have ho := recA_of hra
   rw [tailR_same _ _ _ _ fun j h1 h2 => h j (by omega) (by omega), h1]; rfl
  ·cases hr
theorem Chn.same {sec sec' : Nat → List V} {lim he a0 nx0 we0 a nx we : Nat} {rs : List (List V)} (h : Chn sec lim he a0 nx0 we0 rs a nx we) (hs : ∀ j, a0 ≤ j → j < a → sec' j = sec j) : Chn sec' lim he a0 nx0 we0 rs a nx we := by
 induction h with
 | nil => exact .nil
 | snoc h1 h2 h3 h4 ih =>
  have := record_of h2
  have := h1.le
  exact .snoc (ih fun j q1 q2 => hs j q1 (by omega)) (record_same h2 fun j q1 q2 => hs j (by omega) q2) h3 h4
def OldS (si : Nat) (b : List V) : Prop := ∀ r, jT b = some r → r.num = 0 ∨ r.ep < si
theorem OldS.zero (si : Nat) : OldS si (zB 128) := fun r h => by rw [recA_zero] at h; cases h
theorem OldS.snap (si : Nat) (l : List V) (p : Nat) : OldS si (snapS l p) := fun r h => by
 left
 have h1 := (recA_some h).1
 have h2 : (snapS l p).take 8 = zK 0 := by
  unfold snapS padB
  rw [List.append_assoc, List.take_append_of_le_length (by rw [bigB_len8]; omega), List.take_of_length_le (by rw [bigB_len8]; omega)]
 rw [h1]
 show jQ ((snapS l p).take 8) = 0
 rw [h2]
 exact num_big (by omega)
theorem OldS.mono {si si' : Nat} {b : List V} (h : OldS si b) (hs : si ≤ si') : OldS si' b := fun r hr => (h r hr).imp id fun h => by omega
theorem stop_old {sec : Nat → List V} {lim a nx si : Nat} (h : a < lim → OldS si (sec a)) (hn : 1 ≤ nx) : ∀ e b p, zO sec lim a nx = some (e, b, p) → e < si := fun e b p hr => by
 have hp := record_of hr
 unfold zO at hr
 split at hr
 ·cases hr
 split at hr
 ·cases hr
 ·rename_i r hra
  split at hr
  ·rename_i hc
   rw [Option.map_eq_some_iff] at hr
   obtain ⟨out, h1, h2⟩ := hr
   cases h2
   rcases h (by omega) r hra with h3 | h3 <;> omega
  ·cases hr
theorem tail_app {sec : Nat → List V} {lim num ep of a : Nat} {l : List V} (hn : num < 18446744073709551616) (he : ep < 18446744073709551616) (hof : 1 ≤ of ∧ of ≤ 64) (hl : l.length ≤ 108 * of ∧ (108 * (of - 1) < l.length ∨ of = 1)) (hlim : a + of ≤ lim) (hs : ∀ i, i < of → sec (a + i) = kV num ep i of (zN l i)) :
  ∀ (k i : Nat), i + k = of → 1 ≤ i → tailR sec lim num ep of k (a + i) i (l.take (108 * i)) = some l
 | 0, i, hk, _ => by
  unfold tailR
  rw [List.take_of_length_le (by rw [show i = of by omega]; exact hl.1)]
 | k + 1, i, hk, hi => by
  unfold tailR
  have hcl : (zN l i).length = min 108 (l.length - 108 * i) := by unfold zN; rw [List.length_take, List.length_drop]
  have hok : okR (zN l i).length i of := by
   refine ⟨by omega, hof.1, hof.2, by omega, fun h => by omega, fun h => by omega⟩
  rw [if_neg (by omega), hs i (by omega), rec_part hn he hok]
  simp only [and_self, if_true]
  have e1 : l.take (108 * i) ++ zN l i = l.take (108 * (i + 1)) := by
   unfold zN
   rw [show 108 * (i + 1) = 108 * i + 108 by omega, List.take_add]
  rw [e1, show a + i + 1 = a + (i + 1) by omega]
  exact tail_app hn he hof hl hlim hs k (i + 1) (by omega) (by omega)
theorem record_app {sec : Nat → List V} {lim num ep of a : Nat} {l : List V} (hn : num < 18446744073709551616) (he : ep < 18446744073709551616) (hof : 1 ≤ of ∧ of ≤ 64) (hl : l.length ≤ 108 * of ∧ (108 * (of - 1) < l.length ∨ of = 1)) (hlim : a + of ≤ lim) (hs : ∀ i, i < of → sec (a + i) = kV num ep i of (zN l i)) :
  zO sec lim a num = some (ep, l, of) := by
 unfold zO
 have h0 := hs 0 (by omega)
 rw [Nat.add_zero] at h0
 have hcl : (zN l 0).length = min 108 (l.length - 108 * 0) := by unfold zN; rw [List.length_take, List.length_drop]
 have hok : okR (zN l 0).length 0 of := ⟨by omega, hof.1, hof.2, by omega, fun h => by omega, fun h => by omega⟩
 rw [if_neg (by omega), h0, rec_part hn he hok]
 simp only [and_self, if_true]
 have e1 : zN l 0 = l.take (108 * 1) := by unfold zN; rw [Nat.mul_zero, List.drop_zero]
 rw [e1, tail_app hn he hof hl hlim hs (of - 1) 1 (by omega) (by omega)]
 rfl
theorem parts_of {n : Nat} (h : n ≤ 6912) : 1 ≤ (kF n).1 ∧ (kF n).1 ≤ 64 ∧ n ≤ 108 * (kF n).1 ∧ (108 * ((kF n).1 - 1) < n ∨ (kF n).1 = 1) := by
 unfold kF
 rw [if_neg (by omega)]
 show 1 ≤ max 1 ((n + 107) / 108) ∧ max 1 ((n + 107) / 108) ≤ 64 ∧ n ≤ 108 * max 1 ((n + 107) / 108) ∧ (108 * (max 1 ((n + 107) / 108) - 1) < n ∨ max 1 ((n + 107) / 108) = 1)
 omega
end Go.Proofs.Ytakgjjbmniilhaa
set_option maxRecDepth 100000
set_option linter.unusedVariables false
namespace Go.Proofs.Ytakgjjbmniilhaa
open Go Go.Vm
attribute [-go_sem] qQ
variable {D : DS} {fr ct k : Nat} {G : LgS} {E E' : Nat → List V}
def zC (E : Nat → List V) (fr ct ha : Nat) : Nat → List V := fun i => E (fr + 2 + ha * ((ct - 2) / 2) + i)
structure CohO (E : Nat → List V) (fr ct : Nat) (G : LgS) : Prop where
 ok : G.H.Ok
 may : mayH ((ct - 2) / 2) (G.H.ep % 2) G.H
 hd : E (fr + G.H.ep % 2) = putH G.H
 hd' : E (fr + (G.H.ep + 1) % 2) = zB 128 ∨ ∃ H', E (fr + (G.H.ep + 1) % 2) = putH H' ∧ H'.Ok ∧ mayH ((ct - 2) / 2) ((G.H.ep + 1) % 2) H' ∧ H'.ep < G.H.ep
 ch : ∃ we, Chn (zC E fr ct G.H.ha) ((ct - 2) / 2) G.H.ep (qL G.H.sz) G.H.fi G.H.si G.rs G.at' G.nx we
 stop : G.at' < (ct - 2) / 2 → OldS G.H.si (zC E fr ct G.H.ha G.at')
 sn : (jS (zC E fr ct G.H.ha) (qL G.H.sz)).take G.H.sz = G.sn
structure Coh (E : Nat → List V) (fr ct k : Nat) (G : LgS) : Prop where
 o : CohO E fr ct G
 old : ∀ j, G.at' ≤ j → j < (ct - 2) / 2 → OldS G.H.si (zC E fr ct G.H.ha j)
 all : ∀ b, b < 2 → ∀ j, j < (ct - 2) / 2 → OldS (G.H.ep + 1) (zC E fr ct b j)
 bd : G.H.ep ≤ k ∧ G.nx ≤ k
 at' : G.at' ≤ (ct - 2) / 2
theorem CohO.nx (h : CohO E fr ct G) : 1 ≤ G.nx := by
 obtain ⟨we, hc⟩ := h.ch
 have := hc.le
 have := h.ok.fi
 omega
theorem CohO.load (h : CohO E fr ct G) : (jU (zC E fr ct G.H.ha) G.H.ep ((ct - 2) / 2 - qL G.H.sz) (qL G.H.sz) (kN G.H.fi G.H.si [] (qL G.H.sz))).fin = (G.rs, G.at', G.nx) := by
 have hn := h.nx
 obtain ⟨we, hc⟩ := h.ch
 have hle := hc.le
 rw [hc.run, run_fresh, List.nil_append]
 split
 ·rename_i e b n hr
  rw [if_pos (.inl (by have := stop_old h.stop hn e b n hr; omega))]
 ·rfl
theorem whichS_put {n i : Nat} {H o : Hd} (ho : H.Ok) (hm : mayH n i H) : zW n i (putH H) o = some (if o.ep < H.ep then H else o) := by
 unfold zW
 rw [if_neg (putH_ne H), head_put ho]
 simp only
 rw [if_pos hm]
theorem CohO.which (h : CohO E fr ct G) : jZ ((ct - 2) / 2) (E fr) (E (fr + 1)) = some G.H := by
 have h0 := h.may.1
 have h00e : h00.ep = 0 := rfl
 have h1 := h.hd
 have h2 := h.hd'
 have hm := h.may
 unfold jZ
 rcases Nat.mod_two_eq_zero_or_one G.H.ep with e | e
 ·have e' : (G.H.ep + 1) % 2 = 1 := by omega
  rw [e, Nat.add_zero] at h1
  rw [e] at hm
  rw [e'] at h2
  rw [h1, whichS_put h.ok hm, if_pos (by omega), Option.bind_some]
  rcases h2 with h2 | ⟨H', h2, h3, h4, h5⟩
  ·rw [h2, whichS_zero]
  ·rw [h2, whichS_put h3 h4, if_neg (by omega)]
 ·have e' : (G.H.ep + 1) % 2 = 0 := by omega
  rw [e] at h1 hm
  rw [e', Nat.add_zero] at h2
  rcases h2 with h2 | ⟨H', h2, h3, h4, h5⟩
  ·rw [h2, whichS_zero, Option.bind_some, h1, whichS_put h.ok hm, if_pos (by omega)]
  ·have := h4.1
   rw [h2, whichS_put h3 h4, if_pos (by omega), Option.bind_some, h1, whichS_put h.ok hm, if_pos (by omega)]
def upH (H : Hd) : Hd := { H with ep := H.ep + 1 }
def reG (G : LgS) : LgS := ⟨upH G.H, G.nx, G.at', G.nx - 1, G.sn, G.rs⟩
theorem CohO.opens (h : CohO D.seen fr ct G) : openA D fr ct = some (layD D fr ct (upH G.H), reG G) := by
 unfold openA
 rw [h.which, Option.map_some]
 have hl : zX D fr ct G.H = (G.rs, G.at', G.nx) := h.load
 have hs : snapA D fr ct G.H = G.sn := h.sn
 rw [hl, hs]
 rfl
theorem CohO.same (h : CohO E fr ct G) (h0 : E' fr = E fr) (h1 : E' (fr + 1) = E (fr + 1)) (hs : ∀ j, j < (ct - 2) / 2 → zC E' fr ct G.H.ha j = zC E fr ct G.H.ha j) (hat : G.at' ≤ (ct - 2) / 2) (hsz : qL G.H.sz ≤ (ct - 2) / 2) : CohO E' fr ct G := by
 have hh : ∀ i, E' (fr + i % 2) = E (fr + i % 2) := fun i => by
  rcases Nat.mod_two_eq_zero_or_one i with e | e <;> rw [e]
  ·exact h0
  ·exact h1
 obtain ⟨ok, may, hd, hd', ⟨we, ch⟩, stop, sn⟩ := h
 refine ⟨ok, may, by rw [hh]; exact hd, by rw [hh]; exact hd', ⟨we, ch.same fun j _ h2 => hs j (by omega)⟩, fun h => by rw [hs _ h]; exact stop h, ?_⟩
 rw [← sn]
 congr 1
 unfold jS
 congr 1
 refine List.map_congr_left fun i hi => ?_
 rw [hs i (by have := List.mem_range.1 hi; omega)]
theorem seen_lay (D : DS) (fr ct : Nat) (H : Hd) (x : Nat) : (layD D fr ct H).seen x = if x = fr + H.ep % 2 then putH H else D.seen x := by
 unfold layD
 rw [seen_flush, seen_write]
theorem upH_ok {H : Hd} (h : H.Ok) (hk : H.ep ≤ 1000000) : (upH H).Ok := ⟨by show H.ep + 1 < _; omega, by have := h.si; show H.si ≤ H.ep + 1; omega, h.ha, h.sz, h.fi⟩
theorem Coh.lay (h : Coh D.seen fr ct k G) (hk : k ≤ 100000) (sy : Nat) : Coh (layD D fr ct (upH G.H)).seen fr ct (k + 1) { G with H := upH G.H, sy := sy } := by
 obtain ⟨⟨ok, may, hd, hd', ⟨we, ch⟩, stop, sn⟩, old, all, bd, at'⟩ := h
 have hs : ∀ b j, zC (layD D fr ct (upH G.H)).seen fr ct b j = zC D.seen fr ct b j := fun b j => by
  unfold zC
  rw [seen_lay, if_neg (by have := Nat.mod_lt (upH G.H).ep (show 0 < 2 by omega); omega)]
 have hss : ∀ b, zC (layD D fr ct (upH G.H)).seen fr ct b = zC D.seen fr ct b := fun b => funext fun j => hs b j
 have he : (upH G.H).ep = G.H.ep + 1 := rfl
 have e1 : (upH G.H).si = G.H.si := rfl
 refine ⟨⟨upH_ok ok (by omega), ⟨by rw [he]; omega, rfl, by rw [he]; omega, may.2.2.2.1, may.2.2.2.2⟩, by rw [seen_lay, if_pos rfl], .inr ⟨G.H, ?_, ok, ?_, by show G.H.ep < (upH G.H).ep; omega⟩, ⟨we, ?_⟩, fun h => ?_, ?_⟩, fun j h1 h2 => ?_, fun b hb j hj => ?_, ⟨by show (upH G.H).ep ≤ _; omega, by show G.nx ≤ _; omega⟩, at'⟩
 ·show (layD D fr ct (upH G.H)).seen (fr + ((upH G.H).ep + 1) % 2) = _
  rw [seen_lay, if_neg (by omega), show ((upH G.H).ep + 1) % 2 = G.H.ep % 2 by omega]
  exact hd
 ·show mayH _ (((upH G.H).ep + 1) % 2) G.H
  rw [show ((upH G.H).ep + 1) % 2 = G.H.ep % 2 by omega]
  exact may
 ·show Chn (zC _ fr ct G.H.ha) _ (upH G.H).ep _ _ _ _ _ _ _
  rw [hss]
  exact ch.up (by omega)
 ·show OldS G.H.si (zC _ fr ct G.H.ha G.at')
  rw [hss]
  exact stop h
 ·show (jS (zC _ fr ct G.H.ha) (qL G.H.sz)).take G.H.sz = _
  rw [hss]
  exact sn
 ·show OldS G.H.si (zC _ fr ct G.H.ha j)
  rw [hss]
  exact old j h1 h2
 ·rw [hss]
  exact (all b hb j hj).mono (by show G.H.ep + 1 ≤ (upH G.H).ep + 1; omega)
theorem Coh.re (h : Coh D.seen fr ct k G) (hk : k ≤ 100000) : Coh (layD D fr ct (upH G.H)).seen fr ct (k + 1) (reG G) := h.lay hk (G.nx - 1)
theorem seen_app (D : DS) (fr ct : Nat) (G : LgS) (l : List V) (n : Nat) : ∀ (j x : Nat), (appW D fr ct G l n j).seen x = if fr + 2 + G.H.ha * ((ct - 2) / 2) + G.at' ≤ x ∧ x < fr + 2 + G.H.ha * ((ct - 2) / 2) + G.at' + j then kV G.nx G.H.ep (x - (fr + 2 + G.H.ha * ((ct - 2) / 2) + G.at')) n (zN l (x - (fr + 2 + G.H.ha * ((ct - 2) / 2) + G.at'))) else D.seen x
 | 0, x => by rw [if_neg (by omega)]; rfl
 | j + 1, x => by
  show ((appW D fr ct G l n j).write _ _).seen x = _
  rw [seen_write, seen_app D fr ct G l n j x]
  by_cases h : x = fr + 2 + G.H.ha * ((ct - 2) / 2) + G.at' + j
  ·rw [if_pos h, if_pos (by omega), h, show fr + 2 + G.H.ha * ((ct - 2) / 2) + G.at' + j - (fr + 2 + G.H.ha * ((ct - 2) / 2) + G.at') = j by omega]
  ·rw [if_neg h]
   by_cases h2 : fr + 2 + G.H.ha * ((ct - 2) / 2) + G.at' ≤ x ∧ x < fr + 2 + G.H.ha * ((ct - 2) / 2) + G.at' + j
   ·rw [if_pos h2, if_pos (by omega)]
   ·rw [if_neg h2, if_neg (by omega)]
theorem half_ne {n a b i j : Nat} (ha : a < 2) (hb : b < 2) (hi : i < n) (hj : j < n) (h : a ≠ b) : a * n + i ≠ b * n + j := by
 have h1 : a = 0 ∨ a = 1 := by omega
 have h2 : b = 0 ∨ b = 1 := by omega
 rcases h1 with rfl | rfl <;> rcases h2 with rfl | rfl
 ·omega
 ·omega
 ·omega
 ·omega
theorem Coh.app {l : List V} (h : Coh D.seen fr ct k G) (hk : k ≤ 100000) (hl : l.length ≤ 6912) (hp : (kF l.length).1 + G.at' ≤ (ct - 2) / 2) : Coh (appW D fr ct G l (kF l.length).1 (kF l.length).1).seen fr ct (k + 1) { G with at' := G.at' + (kF l.length).1, nx := G.nx + 1, rs := G.rs ++ [l] } := by
 have hnx := h.o.nx
 obtain ⟨⟨ok, may, hd, hd', ⟨we, ch⟩, stop, sn⟩, old, all, bd, at'⟩ := h
 obtain ⟨p, ep⟩ : ∃ p, p = (kF l.length).1 := ⟨_, rfl⟩
 obtain ⟨p1, p2, p3, p4⟩ := parts_of hl
 rw [← ep] at hp p1 p2 p3 p4 ⊢
 have hle := ch.le
 have hha := ok.ha
 have hsi := ok.si
 obtain ⟨F, eF⟩ : ∃ F, F = (appW D fr ct G l p p).seen := ⟨_, rfl⟩
 have hF : ∀ x, F x = if fr + 2 + G.H.ha * ((ct - 2) / 2) + G.at' ≤ x ∧ x < fr + 2 + G.H.ha * ((ct - 2) / 2) + G.at' + p then kV G.nx G.H.ep (x - (fr + 2 + G.H.ha * ((ct - 2) / 2) + G.at')) p (zN l (x - (fr + 2 + G.H.ha * ((ct - 2) / 2) + G.at'))) else D.seen x := fun x => by rw [eF]; exact seen_app D fr ct G l p p x
 rw [← eF]
 have hh : ∀ i, F (fr + i % 2) = D.seen (fr + i % 2) := fun i => by
  rw [hF, if_neg (by have := Nat.mod_lt i (show 0 < 2 by omega); omega)]
 have hsec : ∀ j, j < G.at' ∨ G.at' + p ≤ j → zC F fr ct G.H.ha j = zC D.seen fr ct G.H.ha j := fun j hj => by
  unfold zC
  rw [hF, if_neg (by omega)]
 have hnew : ∀ i, i < p → zC F fr ct G.H.ha (G.at' + i) = kV G.nx G.H.ep i p (zN l i) := fun i hi => by
  unfold zC
  rw [hF, if_pos (by omega), show fr + 2 + G.H.ha * ((ct - 2) / 2) + (G.at' + i) - (fr + 2 + G.H.ha * ((ct - 2) / 2) + G.at') = i by omega]
 have hrec : zO (zC F fr ct G.H.ha) ((ct - 2) / 2) G.at' G.nx = some (G.H.ep, l, p) := record_app (by omega) (by omega) ⟨p1, p2⟩ ⟨p3, p4⟩ (by omega) hnew
 have hwe : we ≤ G.H.ep := ch.top hsi
 refine ⟨⟨ok, may, by rw [hh]; exact hd, by rw [hh]; exact hd', ⟨G.H.ep, .snoc (ch.same fun j _ hj => hsec j (.inl hj)) hrec hwe (Nat.le_refl _)⟩, fun h => ?_, ?_⟩, fun j h1 h2 => ?_, fun b hb j hj => ?_, ⟨by show G.H.ep ≤ _; omega, by show G.nx + 1 ≤ _; omega⟩, by show G.at' + p ≤ _; omega⟩
 ·show OldS G.H.si (zC F fr ct G.H.ha (G.at' + p))
  rw [hsec _ (.inr (Nat.le_refl _))]
  exact old _ (by omega) h
 ·show (jS (zC F fr ct G.H.ha) (qL G.H.sz)).take G.H.sz = _
  rw [← sn]
  congr 1
  unfold jS
  congr 1
  refine List.map_congr_left fun i hi => ?_
  rw [hsec i (.inl (by have := List.mem_range.1 hi; omega))]
 ·show OldS G.H.si (zC F fr ct G.H.ha j)
  have h1 : G.at' + p ≤ j := h1
  rw [hsec j (.inr h1)]
  exact old j (by omega) h2
 ·show OldS (G.H.ep + 1) (zC F fr ct b j)
  by_cases hbh : b = G.H.ha
  ·subst hbh
   by_cases hj2 : j < G.at' ∨ G.at' + p ≤ j
   ·rw [hsec j hj2]
    exact all _ hb j hj
   ·obtain ⟨i, rfl⟩ : ∃ i, j = G.at' + i := ⟨j - G.at', by omega⟩
    rw [hnew i (by omega)]
    intro r hr
    right
    have hcl : (zN l i).length = min 108 (l.length - 108 * i) := by unfold zN; rw [List.length_take, List.length_drop]
    rw [rec_part (by omega) (by omega) ⟨by omega, p1, p2, by omega, fun h => by omega, fun h => by omega⟩] at hr
    cases hr
    show G.H.ep < G.H.ep + 1
    omega
  ·have : zC F fr ct b j = zC D.seen fr ct b j := by
    unfold zC
    rw [hF, if_neg (fun hc => ?_)]
    have := half_ne (n := (ct - 2) / 2) (a := b) (b := G.H.ha) (i := j) (j := fr + 2 + b * ((ct - 2) / 2) + j - (fr + 2 + G.H.ha * ((ct - 2) / 2))) hb hha hj (by omega) hbh
    omega
   rw [this]
   exact all b hb j hj
end Go.Proofs.Ytakgjjbmniilhaa
