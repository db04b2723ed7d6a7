/- The document's log: load, whole. -/
import Derived.Test.YtakgjjbmniilhaaMg14
set_option linter.unusedVariables false
set_option maxRecDepth 100000
set_option linter.unusedVariables false
namespace Go.Proofs.Ytakgjjbmniilhaa
open Go Go.Vm
attribute [-go_sem] qQ
variable {h g : Heap} {R W M N : Set'} {rd rp fr ct : Nat} {D : DS} {G : LgS}
set_option maxHeartbeats 8000000 in
theorem rload_ok {H : Hd} {sy : Nat} {c : Blk} (hx : RkX h M rd D) (hM : ¬ M rp) (l1 : h.get rp = some (.cells c 109)) (l2 : c.size = 13) (l3 : c.ro = false) (k0 : c.get 0 = .ptr (some (rd, 0))) (k1 : c.get 1 = .int .i64 (fr : Int)) (k2 : c.get 2 = .int .i64 (ct : Int)) (k3 : c.gets 3 5 = H.v) (k12 : c.get 12 = .int .u64 (sy : Int))
  (hc : 16 ≤ ct ∧ fr + ct ≤ D.n) (hha : H.ha < 2) (hsz : H.sz ≤ (ct - 2) / 2 * 120) (hfi : H.fi ≤ 4611686018427387904) (hlt : H.Lt) (hR : ∀ b, R b) (hW : W rp) :
  SF Try.prog 50 [.ptr (some (rp, 0))] h R W fun _ g => h.n ≤ g.n ∧ (∀ k, k < h.n → k ≠ rp → g.get k = h.get k) ∧ ∃ c' v8 v9 vs, RgR g rp rd fr ct (fun k => h.n ≤ k) (FinG (zX D fr ct H) H sy (snapA D fr ct H)) c' v8 v9 vs := by
 have hp := hx.pos
 have hll := Heap.lt_of_get l1
 have ra := hR rp
 have hR' : ∀ b, h.n ≤ b ∨ R b := fun b => .inr (hR b)
 have hW' : ∀ k, h.n ≤ k ∨ k = rp → h.n ≤ k ∨ W k := fun k hk => by
  rcases hk with h1 | rfl
  ·exact .inl h1
  ·exact .inr hW
 have hK : qL H.sz ≤ (ct - 2) / 2 := by unfold qL; omega
 have hK2 : H.sz ≤ 120 * qL H.sz := by unfold qL; omega
 have hsec : ∀ j, j < (ct - 2) / 2 → (zH D fr ct H.ha j).length = 128 ∧ Byt (zH D fr ct H.ha j) := fun j hj => hx.sec (by have := half_lt hha hj; omega)
 refine SF.go hm Try.func50 ir50_eq ?_
 have wl : h.n ≤ rp ∨ W rp := .inr hW
 simp -implicitDefEqProofs (disch := first | omega | (simp -implicitDefEqProofs only [szs, ne_eq] <;> omega) | fail) only [go_sem, seval, ↓reduceIte, reduceCtorEq, ir50, qE, l1, l2, l3]
 refine ⟨wl, ?_⟩
 refine rl_loop hR' hW' hx hM l1 l2 l3 k0 k1 k2 k3 hc hha hsz _ rfl (by simp -implicitDefEqProofs (disch := first | omega | (simp -implicitDefEqProofs only [szs, ne_eq] <;> omega) | fail) only [go_sem, seval, ↓reduceIte]) (by simp -implicitDefEqProofs (disch := first | omega | (simp -implicitDefEqProofs only [szs, ne_eq] <;> omega) | fail) only [go_sem, seval, ↓reduceIte, reduceCtorEq]) fun tr g1 c1 v t0 L1 d2 d3 dj d8 ho n1 kk1 => ?_
 have c6 : c.get 6 = .int .u64 (H.sz : Int) := jG k3 (j := 3) (by omega)
 have c4 : c.get 4 = .int .u64 (H.si : Int) := jG k3 (j := 1) (by omega)
 have c7 : c.get 7 = .int .u64 (H.fi : Int) := jG k3 (j := 4) (by omega)
 have e6 : c1.get 6 = .int .u64 (H.sz : Int) := (dj 6 (by omega)).trans c6
 have e7 : c1.get 7 = .int .u64 (H.fi : Int) := (dj 7 (by omega)).trans c7
 have e4 : c1.get 4 = .int .u64 (H.si : Int) := (dj 4 (by omega)).trans c4
 have hcv : IntKind.i64.wrap (H.sz : Int) = (H.sz : Int) := by rw [IntWalk.i64_in] <;> omega
 have hsl : (jS (zH D fr ct H.ha) (qL H.sz)).length = 120 * qL H.sz := snapC_len fun i hi => (hsec i (by omega)).1
 obtain ⟨v', hs1, hs2⟩ := cut_lr (S := fun b => h.n ≤ b ∧ ∃ c, g1.get b = some (.cells c 5)) (Own.lrf ho) (Own.lrc ho).2 (k := H.sz) (by omega)
 have hv1 := hs2.one
 have hv2 := hs2.cells
 have hvo := ho.lr.one
 simp -implicitDefEqProofs (disch := first | omega | (simp -implicitDefEqProofs only [szs, ne_eq] <;> omega) | fail) only [go_sem, seval, ↓reduceIte, reduceCtorEq, qE, t0, L1, d2, d3, d8, e6, ra, hs1, ↓hv1, ↓hv2, cv42_3, c42_3, hcv]
 refine ⟨fun _ => .inr hW, ?_⟩
 have hr1 := Heap.lt_of_get L1
 refine qK.of (SF.any (M := (Try.prog : MP)) (rsectors_ok (n := H.sz) (by omega))) ?_
 rintro r g ⟨rfl, rfl⟩
 simp -implicitDefEqProofs (disch := first | omega | (simp -implicitDefEqProofs only [szs, ne_eq] <;> omega) | fail) only [go_sem, seval, ↓reduceIte, reduceCtorEq, qE, t0, d2, d3, e7, e4, wl, ra]
 have hs5 : LR g1 (N5 g1 fun k => h.n ≤ k) v' (snapA D fr ct H) := hs2
 have g1' : ∀ (G' : Heap) (x : Blk), G'.n = g1.n → ∀ k, k ≠ rp → (G'.set rp (.cells x 109)).get k = G'.get k := fun G' x h1 k h2 => qB (by omega) h2 _
 have hz : ∀ b, N5 g1 (fun k => h.n ≤ k) b → b ≠ rp := fun b hb e => by obtain ⟨_, c', h2⟩ := hb; rw [e, L1] at h2; cases h2
 refine rr_loop (h := h) (sy := sy) (sn := snapA D fr ct H) (v8 := v') (v9 := .slice none 0 0 true) (vs := []) (we := H.si) (a := qL H.sz) hR' hW' hll hx hM hc hha hfi hlt.2.1 hlt.1 ⟨qF (by simp only [Heap.n_set]; exact hr1) rfl _, by simp only [Blk.size_set]; exact d2, by simp only [Blk.qY]; exact d3, ?_, ?_, ?_, ?_, ?_, ?_, ?_, ?_, ?_, ?_, Own.nil _ _ _, .inl rfl, rfl, fun i l hi => by cases hi⟩ (by omega) (by simp only [Heap.n_set]; exact n1) (fun k hk1 hk2 => ?_) (by simp -implicitDefEqProofs (disch := first | omega | (simp -implicitDefEqProofs only [szs, ne_eq] <;> omega) | fail) only [go_sem, seval, ↓reduceIte, reduceCtorEq, t0]) (by simp -implicitDefEqProofs (disch := first | omega | (simp -implicitDefEqProofs only [szs, ne_eq] <;> omega) | fail) only [go_sem, seval, ↓reduceIte]) fun tr g c' v9' vs' hq hn hk => ?_
 ·rw [Blk.get_set, if_neg (by omega), Blk.get_set, if_neg (by omega), Blk.get_set, if_neg (by omega), Blk.get_set, if_neg (by omega), dj 0 (by omega)]; exact k0
 ·rw [Blk.get_set, if_neg (by omega), Blk.get_set, if_neg (by omega), Blk.get_set, if_neg (by omega), Blk.get_set, if_neg (by omega), dj 1 (by omega)]; exact k1
 ·rw [Blk.get_set, if_neg (by omega), Blk.get_set, if_neg (by omega), Blk.get_set, if_neg (by omega), Blk.get_set, if_neg (by omega), dj 2 (by omega)]; exact k2
 ·rw [zI (by omega), zI (by omega), zI (by omega), zI (by omega), gets3 (c := c) fun j _ _ => dj j (by omega)]; exact k3
 ·simp -implicitDefEqProofs (disch := first | omega | (simp -implicitDefEqProofs only [szs, ne_eq] <;> omega) | fail) only [go_sem, seval]
 ·simp -implicitDefEqProofs (disch := first | omega | (simp -implicitDefEqProofs only [szs, ne_eq] <;> omega) | fail) only [go_sem, seval]
 ·simp -implicitDefEqProofs (disch := first | omega | (simp -implicitDefEqProofs only [szs, ne_eq] <;> omega) | fail) only [go_sem, seval]
 ·simp -implicitDefEqProofs (disch := first | omega | (simp -implicitDefEqProofs only [szs, ne_eq] <;> omega) | fail) only [go_sem, seval]
 ·rw [Blk.get_set, if_neg (by omega), Blk.get_set, if_neg (by omega), Blk.get_set, if_neg (by omega), Blk.get_set, if_neg (by omega), dj 12 (by omega)]; exact k12
 ·refine (hs5.same fun b hb _ => ?_).mono fun b hlt hb => ⟨hb.1, ?_⟩
  ·have := hz b hb
   rw [g1' _ _ (by simp only [Heap.n_set]) b this, g1' _ _ (by simp only [Heap.n_set]) b this, g1' _ _ (by simp only [Heap.n_set]) b this, g1' _ _ rfl b this]
  ·have := hz b hb
   obtain ⟨c', h2⟩ := hb.2
   exact ⟨c', by rw [g1' _ _ (by simp only [Heap.n_set]) b this, g1' _ _ (by simp only [Heap.n_set]) b this, g1' _ _ (by simp only [Heap.n_set]) b this, g1' _ _ rfl b this]; exact h2⟩
 ·rw [g1' _ _ (by simp only [Heap.n_set]) k hk2, g1' _ _ (by simp only [Heap.n_set]) k hk2, g1' _ _ (by simp only [Heap.n_set]) k hk2, g1' _ _ rfl k hk2, kk1 k hk1 hk2]
 ·simp -implicitDefEqProofs (disch := first | omega | (simp -implicitDefEqProofs only [szs, ne_eq] <;> omega) | fail) only [go_sem, seval]
  exact ⟨hn, hk, c', v', v9', vs', hq⟩
end Go.Proofs.Ytakgjjbmniilhaa
set_option maxRecDepth 100000
set_option linter.unusedVariables false
namespace Go.Proofs.Ytakgjjbmniilhaa
open Go Go.Vm
attribute [-go_sem] qQ
variable {h g : Heap} {R W M N : Set'} {rd rp fr ct : Nat} {D : DS} {G : LgS}
structure RgX (g : Heap) (N : Set') (rp rd fr ct : Nat) (G : LgS) : Prop where
 a : ∃ c v8 v9 vs, RgR g rp rd fr ct N G c v8 v9 vs
 lt : ∀ k, N k → k < g.n
 l : N rp
structure RwoQ (h g : Heap) (M N : Set') (rp rd fr ct : Nat) (D : DS) (G : LgS) : Prop where
 n : h.n ≤ g.n
 k : ∀ k, k < h.n → ¬ M k → ¬ N k → g.get k = h.get k
 x : ∃ M' N', RkX g M' rd D ∧ RgX g N' rp rd fr ct G ∧ (∀ k, M' k → M k ∨ h.n ≤ k) ∧ (∀ k, N' k → N k ∨ h.n ≤ k) ∧ ∀ k, N' k → ¬ M' k
theorem flushed_len (hx : RkX h M rd D) : ∃ c fb xf, h.get rd = some (.cells c 105) ∧ c.size = 3 ∧ c.get 0 = .slice (some (fb, 0)) D.n D.n xf := by
 obtain ⟨⟨fb, pb, hr⟩, _⟩ := hx
 obtain ⟨c, xf, xp, d1, d2, d3, d4, d5, d6⟩ := hr.d
 exact ⟨c, fb, xf, d1, d2, d4⟩
def ROpenQ (h : Heap) (M : Set') (rd : Nat) (D : DS) (f k : Int) (r : V) (g : Heap) : Prop := if okO D f k then match openA D f.toNat k.toNat with
   | some (D', G) => ∃ rp, h.n ≤ rp ∧ r = .tuple [.ptr (some (rp, 0)), .int .i64 0] ∧ RwoQ h g M (fun _ => False) rp rd f.toNat k.toNat D' G
   | none => r = .tuple [.ptr none, .int .i64 13] ∧ h.n ≤ g.n ∧ ∀ k, k < h.n → g.get k = h.get k
   else r = .tuple [.ptr none, .int .i64 2] ∧ h.n ≤ g.n ∧ ∀ k, k < h.n → g.get k = h.get k
set_option maxHeartbeats 8000000 in
theorem rgopen_ok {f k : Int} (hx : RkX h M rd D) (hf : -9223372036854775808 ≤ f ∧ f ≤ 9223372036854775807) (hk : -9223372036854775808 ≤ k ∧ k ≤ 9223372036854775807) (few : ∀ s, (D.pe s).length < 1000000000) (hR : ∀ b, R b) (hW : ∀ k, M k → W k) :
  SF Try.prog 24 [.ptr (some (rd, 0)), .int .i64 f, .int .i64 k] h R W (ROpenQ h M rd D f k) := by
 have hR' : ∀ b, h.n ≤ b ∨ R b := fun b => .inr (hR b)
 have hp := hx.pos
 obtain ⟨cd, fb, xf, d1, d2, d4⟩ := flushed_len hx
 have ra := hR rd
 refine SF.go hm Try.func24 ir24_eq ?_
 by_cases h1 : 16 ≤ k
 rotate_left
 ·have i1 : k < 16 := by omega
  have ho : ¬ okO D f k := by unfold okO; omega
  simp -implicitDefEqProofs (disch := first | omega | (simp -implicitDefEqProofs only [szs, ne_eq] <;> omega) | fail) only [go_sem, seval, ↓reduceIte, reduceCtorEq, ir24, qE, i1]
  unfold ROpenQ
  rw [if_neg ho]
  exact ⟨rfl, Nat.le_refl _, fun _ _ => rfl⟩
 have i1 : ¬ k < 16 := by omega
 by_cases h2 : k ≤ 4096
 rotate_left
 ·have i2 : 4096 < k := by omega
  have ho : ¬ okO D f k := by unfold okO; omega
  simp -implicitDefEqProofs (disch := first | omega | (simp -implicitDefEqProofs only [szs, ne_eq] <;> omega) | fail) only [go_sem, seval, ↓reduceIte, reduceCtorEq, ir24, qE, i1, i2]
  unfold ROpenQ
  rw [if_neg ho]
  exact ⟨rfl, Nat.le_refl _, fun _ _ => rfl⟩
 have i2 : ¬ 4096 < k := by omega
 by_cases h3 : 0 ≤ f
 rotate_left
 ·have i3 : f < 0 := by omega
  have ho : ¬ okO D f k := by unfold okO; omega
  simp -implicitDefEqProofs (disch := first | omega | (simp -implicitDefEqProofs only [szs, ne_eq] <;> omega) | fail) only [go_sem, seval, ↓reduceIte, reduceCtorEq, ir24, qE, i1, i2, i3]
  unfold ROpenQ
  rw [if_neg ho]
  exact ⟨rfl, Nat.le_refl _, fun _ _ => rfl⟩
 have i3 : ¬ f < 0 := by omega
 have e1 : IntKind.i64.wrap ((D.n : Int) - k) = (D.n : Int) - k := by rw [IntWalk.i64_in] <;> omega
 by_cases h4 : f ≤ (D.n : Int) - k
 rotate_left
 ·have i4 : (D.n : Int) - k < f := by omega
  have ho : ¬ okO D f k := by unfold okO; omega
  simp -implicitDefEqProofs (disch := first | omega | (simp -implicitDefEqProofs only [szs, ne_eq] <;> omega) | fail) only [go_sem, seval, ↓reduceIte, reduceCtorEq, ir24, i1, i2, i3, d1, d2, d4, ra, e1, i4]
  unfold ROpenQ
  rw [if_neg ho]
  exact ⟨rfl, Nat.le_refl _, fun _ _ => rfl⟩
 have i4 : ¬ (D.n : Int) - k < f := by omega
 have ho : okO D f k := by unfold okO; omega
 simp -implicitDefEqProofs (disch := first | omega | (simp -implicitDefEqProofs only [szs, ne_eq] <;> omega) | fail) only [go_sem, seval, ↓reduceIte, reduceCtorEq, ir24, i1, i2, i3, d1, d2, d4, ra, e1, i4]
 obtain ⟨fr, rfl⟩ : ∃ fr : Nat, f = fr := ⟨f.toNat, by unfold okO at ho; omega⟩
 obtain ⟨ct, rfl⟩ : ∃ ct : Nat, k = ct := ⟨k.toNat, by unfold okO at ho; omega⟩
 have hc : 16 ≤ ct ∧ fr + ct ≤ D.n := by unfold okO at ho; omega
 obtain ⟨g1, eg1⟩ : ∃ g1, g1 = h.push (O.cells (Blk.of [V.ptr (some (rd, 0)), V.int IntKind.i64 ↑fr, V.int IntKind.i64 ↑ct, V.int IntKind.u64 0, V.int IntKind.u64 0, V.int IntKind.u64 0, V.int IntKind.u64 0, V.int IntKind.u64 0, V.slice none 0 0 true, V.slice none 0 0 true, V.int IntKind.u64 0, V.int IntKind.i64 0, V.int IntKind.u64 0]) 109) := ⟨_, rfl⟩
 rw [← eg1]
 obtain ⟨c, ec⟩ : ∃ c, c = Blk.of [V.ptr (some (rd, 0)), V.int IntKind.i64 ↑fr, V.int IntKind.i64 ↑ct, V.int IntKind.u64 0, V.int IntKind.u64 0, V.int IntKind.u64 0, V.int IntKind.u64 0, V.int IntKind.u64 0, V.slice none 0 0 true, V.slice none 0 0 true, V.int IntKind.u64 0, V.int IntKind.i64 0, V.int IntKind.u64 0] := ⟨_, rfl⟩
 rw [← ec] at eg1
 obtain ⟨rp, erp⟩ : ∃ rp, rp = h.n := ⟨_, rfl⟩
 have n1 : g1.n = h.n + 1 := by rw [eg1]; simp only [Heap.qG]
 have l1 : g1.get rp = some (.cells c 109) := by rw [eg1, erp]; exact qH rfl _
 have k1 : ∀ k, k < h.n → g1.get k = h.get k := fun k hk => by rw [eg1, qC (by omega)]
 clear eg1
 have l2 : c.size = 13 := by rw [ec]; rfl
 have l3 : c.ro = false := by rw [ec]; rfl
 have c0 : c.get 0 = .ptr (some (rd, 0)) := by rw [ec]; rfl
 have c1 : c.get 1 = .int .i64 (fr : Int) := by rw [ec]; rfl
 have c2 : c.get 2 = .int .i64 (ct : Int) := by rw [ec]; rfl
 have c35 : c.gets 3 5 = Hd.zero.v := by rw [ec]; rfl
 have c12 : c.get 12 = .int .u64 ((0 : Nat) : Int) := by rw [ec]; rfl
 clear ec
 have hlp : h.n ≤ rp := by omega
 rw [← erp]
 have hR'' : ∀ b, rp ≤ b ∨ R b := fun b => .inr (hR b)
 have hx1 : RkX g1 M rd D := hx.old (by omega) k1
 refine qK.of (SF.any (M := (Try.prog : MP)) (rwhich_ok (HL := Hd.zero) (fr := fr) (ct := ct) hx1 ⟨c, l1, l2, l3, c0, c1, c2, c35⟩ hc hR'')) ?_
 rintro r g2 ⟨H, hLt, rfl, hH, n2, k2⟩
 have L2 := (k2 rp (Heap.lt_of_get l1)).trans l1
 have l2lt := Heap.lt_of_get L2
 have hn2 : rp ≤ g2.n := by omega
 have ra := hR'' rp
 obtain ⟨ch, ech⟩ : ∃ ch, ch = (((((Blk.of [V.int IntKind.u64 0, V.int IntKind.u64 0, V.int IntKind.u64 0, V.int IntKind.u64 0, V.int IntKind.u64 0]).set 0 (V.int IntKind.u64 ↑H.ep)).set 1 (V.int IntKind.u64 ↑H.si)).set 2 (V.int IntKind.u64 ↑H.ha)).set 3 (V.int IntKind.u64 ↑H.sz)).set 4 (V.int IntKind.u64 ↑H.fi) := ⟨_, rfl⟩
 have hch : ch.gets 0 5 = H.v := by
  rw [ech]; refine xR fun j hj => ?_
  have hh : j = 0 ∨ j = 1 ∨ j = 2 ∨ j = 3 ∨ j = 4 := by omega
  rcases hh with rfl | rfl | rfl | rfl | rfl <;> rfl
 have hcs : ch.size = 5 := by rw [ech]; rfl
 have hcr : ch.ro = false := by rw [ech]; rfl
 cases hw : jZ ((ct - 2) / 2) (D.seen fr) (D.seen (fr + 1)) with
 | none =>
  simp -implicitDefEqProofs (disch := first | omega | (simp -implicitDefEqProofs only [szs, ne_eq] <;> omega) | fail) only [go_sem, seval, ↓reduceIte, reduceCtorEq, qE, Hd.v, Option.isSome_none, hn2]
  rw [← ech]
  unfold ROpenQ
  rw [if_pos ho]
  simp only [openA, Int.toNat_natCast, hw, Option.map_none]
  exact ⟨trivial, by simp; omega, fun k hk => by rw [qB (by simp) (by omega), qC (by omega), k2 k (by omega), k1 k hk]⟩
 | some H' =>
  obtain rfl := hH H' hw
  obtain ⟨f1, f2, f3, f4, f5, f6⟩ := whichA_ok hw
  simp -implicitDefEqProofs (disch := first | omega | (simp -implicitDefEqProofs only [szs, ne_eq] <;> omega) | fail) only [go_sem, seval, ↓reduceIte, reduceCtorEq, qE, Hd.v, Option.isSome_some, L2, l2, l3, hn2]
  rw [← ech]
  obtain ⟨c4, ec4⟩ : ∃ c4, c4 = ((((c.set 3 (.int .u64 ↑H'.ep)).set 4 (.int .u64 ↑H'.si)).set 5 (.int .u64 ↑H'.ha)).set 6 (.int .u64 ↑H'.sz)).set 7 (.int .u64 ↑H'.fi) := ⟨_, rfl⟩
  rw [← ec4]
  have q2 : c4.size = 13 := by rw [ec4]; simp only [Blk.size_set]; exact l2
  have q3 : c4.ro = false := by rw [ec4]; simp only [Blk.qY]; exact l3
  have q4 : c4.gets 3 5 = H'.v := by
   rw [ec4]
   refine List.ext_getElem? fun j => ?_
   by_cases hj : j < 5
   ·rw [Blk.qM _ _ _ _ hj]
    have hh : j = 0 ∨ j = 1 ∨ j = 2 ∨ j = 3 ∨ j = 4 := by omega
    rcases hh with rfl | rfl | rfl | rfl | rfl <;> simp -implicitDefEqProofs (disch := first | omega | (simp -implicitDefEqProofs only [szs, ne_eq] <;> omega) | fail) only [go_sem, seval] <;> rfl
   ·rw [List.getElem?_eq_none (by rw [Blk.qJ]; omega), List.getElem?_eq_none (by show 5 ≤ j; omega)]
  have q5 : ∀ j, j < 3 ∨ 8 ≤ j → c4.get j = c.get j := fun j hj => by
   rw [ec4]; simp only [Blk.get_set]
   rw [if_neg (by omega), if_neg (by omega), if_neg (by omega), if_neg (by omega), if_neg (by omega)]
  clear ec4
  obtain ⟨g3, e3⟩ : ∃ g3, g3 = ((g2.push (.cells (Blk.of [.int .u64 0, .int .u64 0, .int .u64 0, .int .u64 0, .int .u64 0]) 107)).set g2.n (.cells ch 107)).set rp (.cells c4 109) := ⟨_, rfl⟩
  rw [← e3]
  have n3 : g3.n = g2.n + 1 := by rw [e3]; simp only [Heap.qG, Heap.n_set]
  have L3 : g3.get rp = some (.cells c4 109) := by rw [e3]; exact qF (by simp only [Heap.qG, Heap.n_set]; omega) rfl _
  have C3 : g3.get g2.n = some (.cells ch 107) := by rw [e3, qB (by simp only [Heap.qG, Heap.n_set]; omega) (by omega)]; exact qF (by simp only [Heap.qG]; omega) rfl _
  have k3 : ∀ k, k < g2.n → k ≠ rp → g3.get k = g2.get k := fun k hk h1 => by rw [e3, qB (by simp only [Heap.qG, Heap.n_set]; omega) h1, qB (by simp only [Heap.qG]; omega) (by omega), qC (by omega)]
  clear e3
  have hMl : ∀ k, M k → k < h.n := fun k hk => hx.2 k hk
  have nM : ¬ M rp := fun h1 => by have := hMl _ h1; omega
  have hx3 : RkX g3 M rd D := hx.same (by omega) fun k hk => by
   have := hMl k hk
   rw [k3 k (by omega) (by omega), k2 k (by omega), k1 k this]
  refine qK.of (SF.any (M := (Try.prog : MP)) (rload_ok (H := H') (sy := 0) (rd := rd) (fr := fr) (ct := ct) hx3 nM L3 q2 q3 ((q5 0 (by omega)).trans c0) ((q5 1 (by omega)).trans c1) ((q5 2 (by omega)).trans c2) q4 ((q5 12 (by omega)).trans c12) hc f5 f4 f2 hLt hR'' (.inl (Nat.le_refl _)))) ?_
  rintro r4 g4 ⟨n4, k4, hl4⟩
  have C4 := (k4 g2.n (by omega) (by omega)).trans C3
  have heg : ∀ i, i < 5 → ch.get i = H'.v.getD i qE := fun i hi => by
   have := Blk.qM ch 5 0 i hi
   rw [hch, Nat.zero_add] at this
   rw [List.getD_eq_getElem?_getD, this]; rfl
  have he0 : ch.get 0 = .int .u64 (H'.ep : Int) := heg 0 (by omega)
  have he1 : ch.get 1 = .int .u64 (H'.si : Int) := heg 1 (by omega)
  have he2 : ch.get 2 = .int .u64 (H'.ha : Int) := heg 2 (by omega)
  have he3 : ch.get 3 = .int .u64 (H'.sz : Int) := heg 3 (by omega)
  have he4 : ch.get 4 = .int .u64 (H'.fi : Int) := heg 4 (by omega)
  have ew : IntKind.u64.wrap ((H'.ep : Int) + 1) = ((H'.ep + 1 : Nat) : Int) := by rw [show (H'.ep : Int) + 1 = ((H'.ep + 1 : Nat) : Int) by omega]; exact wrap64 (by omega)
  simp -implicitDefEqProofs (disch := first | omega | (simp -implicitDefEqProofs only [szs, ne_eq] <;> omega) | fail) only [go_sem, seval, ↓reduceIte, reduceCtorEq, qE, C4, hcs, hcr, he0, he1, he2, he3, he4, ew]
  have lt4 := Heap.lt_of_get C4
  refine ⟨.inl hn2, .inl hn2, .inl hn2, ?_⟩
  obtain ⟨g5, e5⟩ : ∃ g5, g5 = g4.set g2.n (.cells (ch.set 0 (.int .u64 ((H'.ep + 1 : Nat) : Int))) 107) := ⟨_, rfl⟩
  rw [← e5]
  have n5 : g5.n = g4.n := by rw [e5]; simp only [Heap.n_set]
  have k5 : ∀ k, k ≠ g2.n → g5.get k = g4.get k := fun k hk => by rw [e5]; exact qB lt4 hk _
  clear e5
  obtain ⟨c5, v8, v9, vs, hl5⟩ := hl4
  have hx5 : RkX g5 M rd D := hx3.same (by omega) fun k hk => by
   have := hMl k hk
   rw [k5 k (by omega), k4 k (by omega) (by omega)]
  have L5 := (k5 rp (by omega)).trans hl5.l1
  have hLt2 : ({ H' with ep := H'.ep + 1 } : Hd).Lt := ⟨by show H'.ep + 1 < _; omega, hLt.2.1, hLt.2.2.1, hLt.2.2.2.1, hLt.2.2.2.2⟩
  refine qK.of (SF.any (M := (Try.prog : MP)) (rlay_ok (H := { H' with ep := H'.ep + 1 }) (c := c5) hx5 nM L5 hl5.l2 hl5.l3 hl5.k0 hl5.k1 hl5.k2 hl5.k3 hc (by omega) hLt2 (few _) hR'' (fun k hk => .inr (hW k hk)) (.inl (Nat.le_refl _)))) ?_
  rintro r6 g6 ⟨⟨n6, k6, M6, hx6, hM6⟩, c6, L6, s6, t6, g36, j6⟩
  have hnx := loadF_nx D fr ct H'
  obtain ⟨F, eF⟩ : ∃ F, F = zX D fr ct H' := ⟨_, rfl⟩
  rw [← eF] at hl5 hnx
  have c610 : c6.get 10 = .int .u64 (F.2.2 : Int) := (j6 10 (by omega)).trans hl5.k10
  have ew2 : IntKind.u64.wrap ((F.2.2 : Int) - 1) = ((F.2.2 - 1 : Nat) : Int) := by rw [show (F.2.2 : Int) - 1 = ((F.2.2 - 1 : Nat) : Int) by omega]; exact wrap64 (by omega)
  simp -implicitDefEqProofs (disch := first | omega | (simp -implicitDefEqProofs only [szs, ne_eq] <;> omega) | fail) only [go_sem, seval, ↓reduceIte, reduceCtorEq, qE, L6, s6, t6, c610, ew2]
  have lt6 := Heap.lt_of_get L6
  have nM6 : ∀ k, M6 k → k ≠ rp := fun k hk e => by
   rcases hM6 k hk with h1 | h1
   ·exact nM (e ▸ h1)
   ·omega
  have k7 : ∀ k, k ≠ rp → (g6.set rp (O.cells (c6.set 12 (V.int IntKind.u64 ↑(F.snd.snd - 1))) 109)).get k = g6.get k := fun k hk => qB lt6 hk _
  have k64 : ∀ k, k < g4.n → ¬ M k → k ≠ rp → k ≠ g2.n → (g6.set rp (O.cells (c6.set 12 (V.int IntKind.u64 ↑(F.snd.snd - 1))) 109)).get k = g4.get k := fun k h1 h2 h3 h4 => by
   rw [k7 k h3, k6 k (by omega) h2 h3, k5 k h4]
  unfold ROpenQ
  rw [if_pos ho]
  simp only [openA, Int.toNat_natCast, hw, Option.map_some]
  rw [← eF]
  refine ⟨rp, hlp, rfl, by rw [Heap.n_set]; omega, fun k h1 h2 _ => ?_, M6, fun k => k = rp ∨ (g3.n ≤ k ∧ k < g4.n), hx6.same (by rw [Heap.n_set]; exact Nat.le_refl _) fun k hk => k7 k (nM6 k hk), ⟨⟨c6.set 12 (V.int IntKind.u64 ↑(F.snd.snd - 1)), v8, v9, vs, ?_⟩, fun k hk => ?_, .inl rfl⟩, fun k hk => ?_, fun k hk => ?_, fun k hk => ?_⟩
  ·rw [k64 k (by omega) h2 (by omega) (by omega), k4 k (by omega) (by omega), k3 k (by omega) (by omega), k2 k (by omega), k1 k h1]
  ·refine RgR.upd (RgR.mono hl5 (N' := fun k => k = rp ∨ (g3.n ≤ k ∧ k < g4.n)) fun k h1 h2 => .inr ⟨h2, h1⟩) (fun k c' e hN hne hk => ?_) (qF lt6 rfl _) (by simp only [Blk.size_set]; exact s6) (by simp only [Blk.qY]; exact t6) (fun j hj => by rw [Blk.get_set, if_neg (by omega)]; exact j6 j (by omega)) (by rw [zI (by omega)]; exact g36) ?_ ?_ (by rw [Blk.get_set, if_pos rfl]) rfl rfl
   ·rcases hN with h1 | h1
    ·exact absurd h1 hne
    ·rw [k64 k h1.2 (fun h3 => by have := hMl k h3; omega) hne (by omega)]; exact hk
   ·rw [Blk.get_set, if_neg (by omega)]; exact c610
   ·rw [Blk.get_set, if_neg (by omega)]; exact (j6 11 (by omega)).trans hl5.k11
  ·rw [Heap.n_set]; rcases hk with h1 | h1 <;> omega
  ·rcases hM6 k hk with h1 | h1
   ·exact .inl h1
   ·exact .inr (by omega)
  ·exact .inr (by rcases hk with h1 | h1 <;> omega)
  ·intro h1
   rcases hk with h2 | h2
   ·exact nM6 k h1 h2
   ·rcases hM6 k h1 with h3 | h3
    ·have := hMl k h3; omega
    ·omega
end Go.Proofs.Ytakgjjbmniilhaa
set_option maxRecDepth 100000
set_option linter.unusedVariables false
namespace Go.Proofs.Ytakgjjbmniilhaa
open Go Go.Vm
attribute [-go_sem] qQ
variable {h g : Heap} {R W M N : Set'} {rd rp fr ct : Nat} {D : DS} {G : LgS}
theorem mid_lr {v : V} {S : Set'} {l : List V} (hv : LR h S v l) (hc : xU v) {a b : Nat} (hab : a ≤ b) (hb : b ≤ l.length) (ha : a < l.length ∨ a = 0) : ∃ v', kC Try.prog 22 v (some (a : Int)) (some (b : Int)) none = some v' ∧ LR h S v' ((l.drop a).take (b - a)) := by
 rcases hv with ⟨rfl, rfl | ⟨x, rfl⟩⟩ | ⟨p, o, cap, ex, c, ce, rfl, hR, hp, hs, hg⟩
 ·obtain rfl : b = 0 := by simpa using hb
  obtain rfl : a = 0 := by omega
  exact ⟨_, by simp only [kC, Try.underlying22, sz_5]; rfl, .inl ⟨rfl, .inl rfl⟩⟩
 ·obtain rfl : b = 0 := by simpa using hb
  obtain rfl : a = 0 := by omega
  exact ⟨_, by simp only [kC, Try.underlying22, sz_5]; rfl, .inl ⟨rfl, .inr ⟨x, rfl⟩⟩⟩
 ·have hcl : l.length ≤ cap := hc
  have hbv : kJ l.length cap (some (a : Int)) (some (b : Int)) none = some (a, b, cap) := by
   simp only [kJ, Int.toNat_natCast]
   rw [if_pos (by constructor <;> omega)]
   simp only []
   rw [if_pos (by constructor <;> omega)]
  have hln : ((l.drop a).take (b - a)).length = b - a := by rw [List.length_take, List.length_drop]; omega
  refine ⟨.slice (some (p, o + a)) (b - a) (cap - a) ex, ?_, .inr ⟨p, o + a, cap - a, ex, c, ce, by rw [hln], hR, hp, by rw [hln]; omega, ?_⟩⟩
  ·simp only [kC, Try.underlying22, sz_5, hbv]
   cases ex with
   | true =>
    by_cases h0 : a = 0
    ·subst h0; simp only [Nat.zero_mul, Nat.add_zero]; cases Nat.beq cap 0 <;> rfl
    ·rw [w_beq_f (show cap ≠ a by omega), Nat.mul_one]
   | false =>
    have hq : Nat.blt a cap = true ∨ a = 0 := by
     by_cases h0 : a = 0
     ·exact .inr h0
     ·exact .inl (w_blt_t (by omega))
    simp only [Nat.mul_one]
    rw [if_pos ⟨hcl, hq⟩]
  ·rw [hln]
   refine Blk.jH (fun j hj => ?_) hln.symm
   rw [hln] at hj
   have := Blk.qM c l.length o (a + j) (by omega)
   rw [hg] at this
   rw [List.getD_eq_getElem?_getD, List.getElem?_take, if_pos hj, List.getElem?_drop, this, show o + a + j = o + (a + j) by omega]; rfl
theorem rroom_ok (hl : RgX h N rp rd fr ct G) (hc : 16 ≤ ct ∧ ct ≤ 4096) (hR : ∀ b, R b) (ha : G.at' ≤ 1000000) : SF Try.prog 52 [.ptr (some (rp, 0))] h R W fun r g => r = .int .i64 ((((ct - 2) / 2 : Nat) : Int) - (G.at' : Int)) ∧ g = h := by
 obtain ⟨⟨c, v8, v9, vs, hl⟩, hlt, hNl⟩ := hl
 have l1 := hl.l1
 have l2 := hl.l2
 have k11 := hl.k11
 have ra := hR rp
 refine SF.go hm Try.func52 ir52_eq ?_
 simp -implicitDefEqProofs (disch := omega) only [go_sem, seval, ↓reduceIte, reduceCtorEq, ir52]
 refine qN.of (SF.foot (rhalf_ok (R := qR) (W := noW) hl.rlc ⟨by omega, by omega⟩ (fun _ => trivial)) (fun _ h => h) (fun _ h => h)) ?_
 rintro r g ⟨rfl, rfl⟩
 have e1 : IntKind.i64.wrap ((((ct - 2) / 2 : Nat) : Int) - (G.at' : Int)) = (((ct - 2) / 2 : Nat) : Int) - (G.at' : Int) := by rw [IntWalk.i64_in] <;> omega
 simp -implicitDefEqProofs (disch := omega) only [go_sem, seval, ↓reduceIte, reduceCtorEq, l1, l2, k11, ra, e1]
 exact ⟨by (and_intros; all_goals (intro b hb hc; simp only [noW, List.not_mem_nil, and_false, false_or, or_false, List.mem_singleton] at hb hc <;> omega)), ⟨fun b _ _ => .inr (hR b), fun b _ h => h.elim⟩⟩
set_option maxHeartbeats 8000000 in
theorem rapp_loop {Q : Ex → Fr → Heap → Prop} {t : List It} {g2 : Heap} {n : Nat} {S : Set'} {v : V} {l : List V} {tr : Tr V} (hR : ∀ b, R b) (hW : ∀ k, M k ∨ g2.n ≤ k → W k)
  (hx : RkX g2 M rd D) (hl : RgX g2 N rp rd fr ct G) (hMN : ∀ k, N k → ¬ M k)
  (t0 : tr.get 0 = some (.ptr (some (rp, 0)))) (t1 : tr.get 1 = some v) (t6 : tr.get 6 = some (.int .i64 (n : Int))) (t8 : tr.get 8 = some (.int .i64 0))
  (hv : LR g2 S v l) (hS : ∀ k, S k → k < g2.n ∧ ¬ M k) (hcap : xU v) (hby : Byt l)
  (hc : 16 ≤ ct ∧ fr + ct ≤ D.n) (hha : G.H.ha < 2) (hn : n + G.at' ≤ (ct - 2) / 2) (hln : n = max 1 ((l.length + 107) / 108)) (hn64 : n ≤ 64) (hnx : G.nx < 18446744073709551616 ∧ G.H.ep < 18446744073709551616) (few : ∀ s, (D.pe s).length < 1000000000)
  (hk : ∀ tr g M', tr.get 0 = some (.ptr (some (rp, 0))) → tr.get 1 = some v → tr.get 6 = some (.int .i64 (n : Int)) → g2.n ≤ g.n → (∀ k, k < g2.n → ¬ M k → g.get k = g2.get k) → RkX g M' rd (appW D fr ct G l n n) → (∀ k, M' k → M k ∨ g2.n ≤ k) → resume (Try.prog : MP) R W none Q t (.exit 0) ⟨⟨97, tr⟩, []⟩ g) :
  kE (Try.prog : MP) R W none Q ir25_l0 t ⟨⟨97, tr⟩, []⟩ g2 := by
 have hp := hx.pos
 refine kE.inv hm (fun k f g => f.mks = [] ∧ f.tm.n = 97 ∧ f.tm.get 0 = some (.ptr (some (rp, 0))) ∧ f.tm.get 1 = some v ∧ f.tm.get 6 = some (.int .i64 (n : Int)) ∧ ∃ (i : Nat) (Mi : Set'), i + k = n ∧ f.tm.get 8 = some (.int .i64 (i : Int)) ∧ g2.n ≤ g.n ∧ (∀ k, k < g2.n → ¬ M k → g.get k = g2.get k) ∧ RkX g Mi rd (appW D fr ct G l n i) ∧ ∀ k, Mi k → M k ∨ g2.n ≤ k) n ?_ ?_
 ·exact ⟨rfl, rfl, t0, t1, t6, 0, M, by omega, t8, Nat.le_refl _, fun _ _ _ => rfl, hx, fun k hk => .inl hk⟩
 clear t0 t1 t6 t8
 clear tr
 rintro k ⟨⟨n', tr⟩, mks⟩ g ⟨hmk, hn', t0, t1, t6, i, Mi, hik, t8, hng, kg, hxi, hMi⟩
 simp only [Tm.kL] at hmk hn' t0 t1 t6 t8
 subst hmk hn'
 by_cases hi : i < n
 rotate_left
 ·have hci : ¬ (i : Int) < (n : Int) := by omega
  obtain rfl : i = n := by omega
  simp -implicitDefEqProofs (disch := omega) only [go_sem, seval, ↓reduceIte, ir25_l0, t6, t8, hci]
  exact hk _ _ Mi (by simp -implicitDefEqProofs (disch := omega) only [go_sem, seval, ↓reduceIte, reduceCtorEq, t0]) (by simp -implicitDefEqProofs (disch := omega) only [go_sem, seval, ↓reduceIte, t1]) (by simp -implicitDefEqProofs (disch := omega) only [go_sem, seval, ↓reduceIte, t6]) hng kg hxi hMi
 have hci : (i : Int) < (n : Int) := by omega
 obtain ⟨⟨cl, v8, v9, vs, hl⟩, hlt, hNl⟩ := hl
 have l1 := hl.l1
 have l2 := hl.l2
 have k0 := hl.k0
 have k10 := hl.k10
 have k11 := hl.k11
 have nM := hMN rp hNl
 have c3 : cl.get 3 = .int .u64 (G.H.ep : Int) := jG hl.k3 (j := 0) (by omega)
 have e1 : ((fr + 2 + G.H.ha * ((ct - 2) / 2) : Nat) : Int) + (G.at' : Int) = ((fr + 2 + G.H.ha * ((ct - 2) / 2) + G.at' : Nat) : Int) := by omega
 have e2 : ((fr + 2 + G.H.ha * ((ct - 2) / 2) + G.at' : Nat) : Int) + (i : Int) = ((fr + 2 + G.H.ha * ((ct - 2) / 2) + G.at' + i : Nat) : Int) := by omega
 have hml : G.H.ha * ((ct - 2) / 2) + (G.at' + i) < 2 * ((ct - 2) / 2) := half_lt hha (by omega)
 have hsn : fr + 2 + G.H.ha * ((ct - 2) / 2) + G.at' + i < D.n := by omega
 have L1 := (kg rp (Heap.lt_of_get l1) nM).trans l1
 have ra := hR rp
 have hv2 : LR g S v l := hv.same fun b hb hbn => kg b hbn (hS b hb).2
 have hlen := hv2.lenV Try.underlying22
 obtain ⟨to, eto⟩ : ∃ to, to = min l.length ((i + 1) * 108) := ⟨_, rfl⟩
 have e3 : ((i : Int) + 1) * 108 = (((i + 1) * 108 : Nat) : Int) := by omega
 have e4 : (i : Int) * 108 = ((108 * i : Nat) : Int) := by omega
 have hmin : (if (((i + 1) * 108 : Nat) : Int) < ((l.length : Nat) : Int) then (((i + 1) * 108 : Nat) : Int) else ((l.length : Nat) : Int)) = (to : Int) := by
  split <;> omega
 obtain ⟨w1, hs1, hw1⟩ := mid_lr hv2 hcap (a := 108 * i) (b := to) (by omega) (by omega) (by omega)
 have hch : (l.drop (108 * i)).take (to - 108 * i) = zN l i := by
  unfold zN
  by_cases h1 : l.length - 108 * i ≤ 108
  ·rw [List.take_of_length_le (by rw [List.length_drop]; omega), List.take_of_length_le (by rw [List.length_drop]; omega)]
  ·rw [show to - 108 * i = 108 by omega]
 rw [hch] at hw1
 have hlg : RlC g rp rd fr ct G.H := by
  obtain ⟨c, h1, h2⟩ := hl.rlc
  exact ⟨c, (kg rp (Heap.lt_of_get h1) nM).trans h1, h2⟩
 simp -implicitDefEqProofs (disch := omega) only [go_sem, seval, ↓reduceIte, reduceCtorEq, ir25_l0, t0, t1, t6, t8, hci, ↓hlen, e3, L1, l2, k0]
 refine qN.of (SF.foot (rbegin_ok (R := qR) (W := noW) hlg ⟨by omega, by omega⟩ (by omega) hha (fun _ => trivial)) (fun _ h => h) (fun _ h => h)) ?_
 rintro r g ⟨rfl, rfl⟩
 simp -implicitDefEqProofs (disch := omega) only [go_sem, seval, ↓reduceIte, reduceCtorEq, t0, t1, t6, t8, ↓hmin, e1, e2, e4, L1, l2, k10, k11, c3, hs1]
 have hcl : (zN l i).length ≤ 108 := by unfold zN; rw [List.length_take]; omega
 refine qN.of (SF.foot (rpart_ok (R := qR) (W := noW) (num := G.nx) (ep := G.H.ep) (pl := i) (of := n) hnx.1 hnx.2 (by omega) (by omega) hw1 (fun b hb => by have := (hS b hb).1; omega) hcl ((hby.drop _).take _) (fun _ => trivial)).kept (fun _ h => h) (fun _ h => h)) ?_
 rintro r1 g1 ⟨⟨o1, n1, k1⟩, _⟩
 simp -implicitDefEqProofs (disch := omega) only [go_sem, seval, ↓reduceIte]
 refine qN.of (R' := qR) (W' := Mi) ((write_rk (R := qR) (W := Mi) (hxi.old n1 k1) (fun _ => trivial) (fun _ h => h) (by rw [appW_n]; exact hsn) o1.lr (part_len _ _ _ _ hcl) (yT _ _ _ _ ((hby.drop _).take _)) (by rw [appW_pe D fr ct G l n i _ (Nat.le_refl _)]; exact few _)).foot (fun _ h => h) (fun _ h => h)) ?_
 rintro r2 g3 ⟨rfl, n3, k3, M3, hx3, hM3⟩
 simp -implicitDefEqProofs (disch := omega) only [go_sem, seval, ↓reduceIte, reduceCtorEq, t0, t1, t6, t8]
 refine ⟨by (and_intros; all_goals (intro b hb hc; simp only [noW, qR, List.not_mem_nil, and_false, false_or, or_false, List.mem_singleton] at hb hc <;> omega)), ⟨fun _ => ra, fun b _ _ => hR b, fun b _ h => h.elim, fun _ => ra, fun _ => ra, fun _ => ra, fun b _ _ => hR b, fun b _ h => h.elim, fun b _ _ => hR b, fun b _ h => hW b (hMi b h)⟩, k - 1, by omega, i + 1, M3, by omega, by simp, by omega, fun k h1 h2 => ?_, hx3, fun k hk => ?_⟩
 ·rw [k3 k (by omega) (fun h3 => (hMi k h3).elim h2 fun h4 => by omega) id, k1 k (by omega), kg k h1 h2]
 ·rcases hM3 k hk with h1 | h1
  ·exact hMi k h1
  ·exact .inr (by omega)
end Go.Proofs.Ytakgjjbmniilhaa
set_option maxRecDepth 100000
set_option linter.unusedVariables false
namespace Go.Proofs.Ytakgjjbmniilhaa
open Go Go.Vm
attribute [-go_sem] qQ
variable {h g : Heap} {R W M N : Set'} {rd rp fr ct : Nat} {D : DS} {G : LgS}
theorem RgX.keep (hl : RgX h N rp rd fr ct G) (hn : h.n ≤ g.n) (hk : ∀ k, k < h.n → N k → g.get k = h.get k) : RgX g N rp rd fr ct G := by
 obtain ⟨⟨c, v8, v9, vs, hl⟩, hlt, hNl⟩ := hl
 exact ⟨⟨c, v8, v9, vs, hl.upd (fun k c e h1 h2 h3 => (hk k (hlt k h1) h1).trans h3) ((hk rp (hlt rp hNl) hNl).trans hl.l1) hl.l2 hl.l3 (fun _ _ => rfl) hl.k3 hl.k10 hl.k11 hl.k12 rfl rfl⟩, fun k hk' => Nat.lt_of_lt_of_le (hlt k hk') hn, hNl⟩
def RAppQ (h : Heap) (M N : Set') (rp rd fr ct : Nat) (D : DS) (G : LgS) (l : List V) (r : V) (g : Heap) : Prop :=
 if 6912 < l.length then r = .tuple [.int .i64 0, .int .i64 3] ∧ h.n ≤ g.n ∧ ∀ k, k < h.n → g.get k = h.get k
 else if (ct - 2) / 2 < (kF l.length).1 + G.at' then r = .tuple [.int .i64 0, .int .i64 5] ∧ h.n ≤ g.n ∧ ∀ k, k < h.n → g.get k = h.get k
 else r = .tuple [.int .i64 (G.nx : Int), .int .i64 0] ∧ RwoQ h g M N rp rd fr ct (appW D fr ct G l (kF l.length).1 (kF l.length).1) { G with at' := G.at' + (kF l.length).1, nx := G.nx + 1, rs := G.rs ++ [l] }
noncomputable def ir25_z : LC := (pk (fun l0 => atP (ir0 Try.f25 [l0] []) [1, 1, 1, 1, 1, 1, 1]) _) ir25_l0
noncomputable def ir25_w : LC := (pk (fun l0 p0 => jX (atP (ir0 Try.f25 [l0] []) [1, 1, 1, 1, 1]) [1, 1] p0) _) ir25_l0 ir25_z
noncomputable def ir25_c : LC := (pk (fun l0 p0 => jX (ir0 Try.f25 [l0] []) [1, 1, 1, 1, 1] p0) _) ir25_l0 ir25_w
theorem ir25_c_eq : ir25 = ir25_c := rfl
set_option maxHeartbeats 8000000 in
theorem rapp_tail {Q : Ex → Fr → Heap → Prop} {g : Heap} {n : Nat} {S : Set'} {v : V} {l : List V} {tr : Tr V} (hR : ∀ b, R b) (hW : ∀ k, N k ∨ g.n ≤ k → W k) (hl : RgX g N rp rd fr ct G)
    (t0 : tr.get 0 = some (.ptr (some (rp, 0)))) (t6 : tr.get 6 = some (.int .i64 (n : Int))) (t1 : tr.get 1 = some v)
    (hv : LR g S v l) (hS : ∀ k, S k → ¬ N k) (hby : Byt l) (hll : l.length ≤ 1000000) (hn : n ≤ 1000000) (hat : G.at' ≤ 1000000) (hnx : G.nx < 9223372036854775807) (hrs : G.rs.length ≤ 1000000)
    (hk : ∀ tr g', tr.get 4 = some (.int .i64 (G.nx : Int)) → tr.get 5 = some (.int .i64 0) → TailQ g g' rp N → (∃ N', RgX g' N' rp rd fr ct { G with at' := G.at' + n, nx := G.nx + 1, rs := G.rs ++ [l] } ∧ ∀ k, N' k → N k ∨ g.n ≤ k) → Q .ret ⟨⟨97, tr⟩, []⟩ g') :
    GO (Try.prog : MP) R W none Q [.code ir25_w] ⟨⟨97, tr⟩, []⟩ g := by
  obtain ⟨⟨c, v8, v9, vs, hl⟩, hlt, hNl⟩ := hl
  have l1 := hl.l1
  have l2 := hl.l2
  have l3 := hl.l3
  have k9 := hl.k9
  have k10 := hl.k10
  have k11 := hl.k11
  have hlp := Heap.lt_of_get l1
  have ra := hR rp
  have wl := hW rp (.inl hNl)
  have e1 : (G.at' : Int) + (n : Int) = ((G.at' + n : Nat) : Int) := by omega
  have e2 : IntKind.u64.wrap ((G.nx : Int) + 1) = ((G.nx + 1 : Nat) : Int) := by rw [show (G.nx : Int) + 1 = ((G.nx + 1 : Nat) : Int) by omega]; exact wrap64 (by omega)
  have e3 : ((G.nx + 1 : Nat) : Int) - 1 = (G.nx : Int) := by omega
  have e4 : IntKind.u64.wrap (G.nx : Int) = (G.nx : Int) := wrap64 (by omega)
  have e5 : IntKind.i64.wrap (G.nx : Int) = (G.nx : Int) := by rw [IntWalk.i64_in] <;> omega
  obtain ⟨c2, ec2⟩ : ∃ c2, c2 = (c.set 11 (.int .i64 ((G.at' + n : Nat) : Int))).set 10 (.int .u64 ((G.nx + 1 : Nat) : Int)) := ⟨_, rfl⟩
  obtain ⟨g1, eg1⟩ : ∃ g1, g1 = (g.set rp (O.cells (c.set 11 (V.int IntKind.i64 ((G.at' + n : Nat) : Int))) 109)).set rp (O.cells c2 109) := ⟨_, rfl⟩
  have d2 : c2.size = 13 := by rw [ec2]; simp only [Blk.size_set]; exact l2
  have d3 : c2.ro = false := by rw [ec2]; simp only [Blk.qY]; exact l3
  have d9 : c2.get 9 = v9 := by rw [ec2]; simp -implicitDefEqProofs (disch := (first | omega | (simp -implicitDefEqProofs only [szs, ne_eq] <;> omega) | fail)) only [go_sem, seval, k9]
  have d10 : c2.get 10 = .int .u64 ((G.nx + 1 : Nat) : Int) := by rw [ec2]; simp -implicitDefEqProofs (disch := (first | omega | (simp -implicitDefEqProofs only [szs, ne_eq] <;> omega) | fail)) only [go_sem, seval]
  have n1 : g1.n = g.n := by rw [eg1]; simp only [Heap.n_set]
  have L1 : g1.get rp = some (.cells c2 109) := by rw [eg1]; exact qF (by simp only [Heap.n_set]; exact hlp) rfl _
  have k1 : ∀ k, k ≠ rp → g1.get k = g.get k := fun k hk => by rw [eg1, qB (by simp only [Heap.n_set]; exact hlp) hk, qB hlp hk]
  have hl1 : RgR g1 rp rd fr ct N { G with at' := G.at' + n, nx := G.nx + 1 } c2 v8 v9 vs := hl.upd (fun k c' e _ h2 h3 => (k1 k h2).trans h3) L1 d2 d3 (fun j hj => by rw [ec2, Blk.get_set, if_neg (by omega), Blk.get_set, if_neg (by omega)]) (by rw [ec2, zI (by omega), zI (by omega)]; exact hl.k3) d10 (by rw [ec2, Blk.get_set, if_neg (by omega), Blk.get_set, if_pos rfl]) (by rw [ec2, Blk.get_set, if_neg (by omega), Blk.get_set, if_neg (by omega)]; exact hl.k12) rfl rfl
  have hv1 : LR g1 S v l := hv.same fun b hb _ => k1 b fun e => hS b hb (e ▸ hNl)
  have hvo := hv.one
  have h9o := hl.vd.lr.one
  obtain ⟨v4, g4, r4, w4, hap4, o4, n4, k4, hw4⟩ := appL (Own.nil g1.n g1 5) (Nat.le_refl _) hv1 hby (by simp; omega)
  rw [List.nil_append] at o4
  have L4 := (k4 rp (by omega)).trans L1
  have hl4 : RgR g4 rp rd fr ct N { G with at' := G.at' + n, nx := G.nx + 1 } c2 v8 v9 vs := hl1.upd (fun k c' e _ h2 h3 => (k4 k (Heap.lt_of_get h3)).trans h3) L4 d2 d3 (fun j hj => rfl) hl1.k3 hl1.k10 hl1.k11 hl1.k12 rfl rfl
  obtain ⟨v', g3, rr, ww, hap, n3, h3o, h3c, kk3, hw3, L3, hrg⟩ := rg_rec (RgR.mono (N' := fun k => N k ∨ (g1.n ≤ k ∧ k < g4.n)) hl4 fun k _ h => .inl h) (x := v4) (l := l) ((Own.lrf o4).mono fun k hk h => ⟨.inr ⟨h.1, hk⟩, h.2⟩) (by rw [hl.vl]; exact hrs)
  have h4o := o4.lr.one
  have h4c := o4.lr.cells
  have hr3 := Heap.lt_of_get L3
  have hWn : ∀ b, N b ∨ (g1.n ≤ b ∧ b < g4.n) → W b := fun b hb => hW b (hb.imp id fun h => by omega)
  have q3 : allB R r4 := qO fun b _ => hR b
  have q4 : allB W w4 := qO fun b hb => hW b (.inr (by have := hw4 b hb; omega))
  have q5 : allB R rr := qO fun b _ => hR b
  have q6 : allB W ww := qO fun b hb => hWn b (hw3 b hb).1
  simp -implicitDefEqProofs (disch := (first | omega | (simp -implicitDefEqProofs only [szs, ne_eq] <;> omega) | fail)) only [go_sem, seval, ↓reduceIte, reduceCtorEq, ir25_w, qE, t0, t6, l1, l2, l3, k10, k11, ra, wl, e1, e2]
  rw [← ec2, ← eg1]
  simp -implicitDefEqProofs (disch := (first | omega | (simp -implicitDefEqProofs only [szs, ne_eq] <;> omega) | fail)) only [go_sem, seval, ↓reduceIte, reduceCtorEq, ir25_z, qE, t0, t1, L1, d2, d3, d9, d10, ra, wl, qU jO, qU ap_45, hap4, ↓h4c, hap, ↓h3o, ↓h3c, L3, e3, e4, e5, cv42_2, c42_2]
  have k5 : ∀ k, k ≠ rp → (g3.set rp (O.cells (c2.set 9 v') 109)).get k = g3.get k := fun k hk => qB hr3 hk _
  have hA := hrg (g3.set rp (.cells (c2.set 9 v') 109)) (c2.set 9 v') k5 (by simp only [Heap.n_set]) (qF hr3 rfl _) (by simp only [Blk.size_set]; exact d2) (by simp only [Blk.qY]; exact d3) (fun j hj => by rw [Blk.get_set, if_neg hj]) (by rw [Blk.get_set, if_pos rfl])
  refine ⟨?_, ⟨fun b _ _ => hR b, fun b _ h => hW b (.inr (by have := hw4 b h; omega)), fun b _ _ => hR b, fun b _ h => hWn b (hw3 b h).1⟩, hk _ _ (by simp -implicitDefEqProofs (disch := (first | omega | (simp -implicitDefEqProofs only [szs, ne_eq] <;> omega) | fail)) only [go_sem, seval, ↓reduceIte]) (by simp -implicitDefEqProofs (disch := (first | omega | (simp -implicitDefEqProofs only [szs, ne_eq] <;> omega) | fail)) only [go_sem, seval, ↓reduceIte]) ⟨by rw [Heap.n_set]; omega, fun k h1 h2 h3 => ?_⟩ ⟨fun k => N k ∨ (g.n ≤ k ∧ k < g3.n), ⟨⟨c2.set 9 v', v8, v', vs ++ [v4], hA.mono fun k _ h => ?_⟩, fun k hk => ?_, .inl hNl⟩, fun k hk => hk.imp id fun h => h.1⟩⟩
  · repeat' apply And.intro
    all_goals
      intro b hb hc
      first
        | (rcases hb with ⟨_, h⟩ | ⟨_, _⟩
           · cases h
           · omega)
        | (have := hw4 b hb.2; omega)
        | (exact absurd hb.2 (by simp))
        | (rcases hc.2 with h | h <;> cases h)
  · rw [k5 k h2, kk3 k (by omega) fun h4 => ?_, k4 k (by omega), k1 k h2]
    obtain ⟨h5, c', h6⟩ := hw3 k h4
    rw [k4 k (by omega), k1 k h2] at h6
    exact h3 ⟨h5.elim id fun h => by omega, c', h6⟩
  · rcases h with (h | h) | h
    · exact .inl h
    · exact .inr (by omega)
    · exact .inr (by omega)
  · rw [Heap.n_set]
    rcases hk with h1 | h1
    · have := hlt k h1; omega
    · exact h1.2
set_option maxHeartbeats 8000000 in
theorem rappend_ok {S : Set'} {v : V} {l : List V} (hx : RkX h M rd D) (hl : RgX h N rp rd fr ct G) (hMN : ∀ k, N k → ¬ M k) (hc : 16 ≤ ct ∧ fr + ct ≤ D.n) (hR : ∀ b, R b) (hW : ∀ k, M k ∨ N k → W k)
  (hv : LR h S v l) (hS : ∀ k, S k → k < h.n ∧ ¬ M k ∧ ¬ N k) (hcap : xU v) (hby : Byt l) (hll : l.length ≤ 1000000) (hha : G.H.ha < 2) (hnx : G.nx < 9223372036854775807 ∧ G.H.ep < 18446744073709551616) (hat : G.at' ≤ (ct - 2) / 2) (hrs : G.rs.length ≤ 1000000) (few : ∀ s, (D.pe s).length < 1000000000) :
  SF Try.prog 25 [.ptr (some (rp, 0)), v] h R W (RAppQ h M N rp rd fr ct D G l) := by
 have hp := hx.pos
 have hNl := hl.l
 have hR' : ∀ b, h.n ≤ b ∨ R b := fun b => .inr (hR b)
 refine SF.go hm Try.func25 ir25_eq ?_
 rw [ir25_c_eq]
 simp -implicitDefEqProofs (disch := omega) only [go_sem, seval, ↓reduceIte, reduceCtorEq, ir25_c]
 refine qK.of (rparts_ok hv (by omega)) ?_
 rintro r g ⟨rfl, rfl⟩
 by_cases h6 : 6912 < l.length
 ·have hpn : kF l.length = (0, 3) := if_pos h6
  rw [hpn]
  simp -implicitDefEqProofs (disch := omega) only [go_sem, seval, ↓reduceIte, reduceCtorEq]
  unfold RAppQ
  rw [if_pos h6]
  exact ⟨rfl, Nat.le_refl _, fun _ _ => rfl⟩
 have hpn : kF l.length = (max 1 ((l.length + 107) / 108), 0) := if_neg h6
 obtain ⟨n, en⟩ : ∃ n, n = max 1 ((l.length + 107) / 108) := ⟨_, rfl⟩
 rw [← en] at hpn
 rw [hpn]
 simp -implicitDefEqProofs (disch := omega) only [go_sem, seval, ↓reduceIte, reduceCtorEq]
 refine qK.of (rroom_ok hl ⟨hc.1, by omega⟩ hR' (by omega)) ?_
 rintro r g ⟨rfl, rfl⟩
 by_cases h7 : (ct - 2) / 2 < n + G.at'
 ·have i7 : (((ct - 2) / 2 : Nat) : Int) - (G.at' : Int) < (n : Int) := by omega
  simp -implicitDefEqProofs (disch := omega) only [go_sem, seval, ↓reduceIte, reduceCtorEq, i7]
  unfold RAppQ
  rw [if_neg h6, if_pos (by rw [hpn]; exact h7)]
  exact ⟨rfl, Nat.le_refl _, fun _ _ => rfl⟩
 have i7 : ¬ (((ct - 2) / 2 : Nat) : Int) - (G.at' : Int) < (n : Int) := by omega
 simp -implicitDefEqProofs (disch := omega) only [go_sem, seval, ↓reduceIte, reduceCtorEq, i7]
 refine rapp_loop (M := M) (N := N) (S := S) (l := l) hR' (fun k hk => hk.elim (fun h => .inr (hW k (.inl h))) fun h => .inl h) hx hl hMN (by simp -implicitDefEqProofs (disch := omega) only [go_sem, seval, ↓reduceIte]) (by simp -implicitDefEqProofs (disch := omega) only [go_sem, seval, ↓reduceIte, reduceCtorEq]) (by simp -implicitDefEqProofs (disch := omega) only [go_sem, seval, ↓reduceIte, reduceCtorEq]) (by simp -implicitDefEqProofs (disch := omega) only [go_sem, seval, ↓reduceIte, reduceCtorEq]) hv (fun k hk => ⟨(hS k hk).1, (hS k hk).2.1⟩) hcap hby hc hha (by omega) en (by omega) ⟨by omega, hnx.2⟩ few fun tr5 g5 M5 t0 t1 t6 n5 k5 hx5 hM5 => ?_
 simp -implicitDefEqProofs (disch := omega) only [go_sem, seval, ↓reduceIte]
 have hl5 : RgX g5 N rp rd fr ct G := hl.keep n5 fun k h1 h2 => k5 k h1 (hMN k h2)
 refine rapp_tail (N := N) (S := S) hR' (fun k hk => hk.elim (fun h => .inr (hW k (.inr h))) fun h => .inl (by omega)) hl5 t0 t6 t1 (hv.same fun b hb hbn => k5 b hbn (hS b hb).2.1) (fun k hk => (hS k hk).2.2) hby hll (by omega) (by omega) hnx.1 hrs fun tr6 g6 q4 q5 q6 q7 => ?_
 obtain ⟨N', hl6, hN'⟩ := q7
 simp -implicitDefEqProofs (disch := omega) only [go_sem, seval, q4, q5]
 unfold RAppQ
 rw [if_neg h6, if_neg (by rw [hpn]; exact h7), hpn]
 have hltN := hl.lt
 have nM5 : ∀ k, M5 k → ¬ N k := fun k h1 h2 => (hM5 k h1).elim (hMN k h2) fun h3 => by have := hltN k h2; omega
 refine ⟨rfl, by have := q6.n; omega, fun k h1 h2 h3 => ?_, M5, N', hx5.same q6.n fun k hk => ?_, hl6, fun k hk => hM5 k hk, fun k hk => (hN' k hk).imp id fun h => by omega, fun k hk h1 => (hN' k hk).elim (nM5 k h1) fun h => by have := hx5.2 k h1; omega⟩
 ·rw [q6.k k (by omega) (fun e => h3 (e ▸ hNl)) (fun h4 => h3 h4.1), k5 k h1 h2]
 ·exact q6.k k (hx5.2 k hk) (fun e => nM5 k hk (e ▸ hNl)) (fun h4 => nM5 k hk h4.1)
end Go.Proofs.Ytakgjjbmniilhaa
