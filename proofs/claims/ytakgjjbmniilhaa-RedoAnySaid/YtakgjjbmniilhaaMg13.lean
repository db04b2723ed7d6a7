/- The document's log: which head. -/
import Derived.Test.YtakgjjbmniilhaaMg12
import Derived.Test.YtakgjjbmniilhaaMg8
set_option linter.unusedVariables false
set_option maxRecDepth 100000
set_option linter.unusedVariables false
namespace Go.Proofs.Ytakgjjbmniilhaa
open Go Go.Vm
attribute [-go_sem] qQ
variable {h g : Heap} {R W M N : Set'} {rd rp fr ct : Nat} {D : DS} {G : LgS}
noncomputable def ir49_l0_cp : LC := pk (atP (irl Try.f49 [] [] 0) [1, 0, 0, 1, 1, 1, 1]) _
noncomputable def yQ : LC := (pk (fun p0 => jX (atP (irl Try.f49 [] [] 0) [1, 0, 0, 1, 1, 1]) [1] p0) _) ir49_l0_cp
noncomputable def ir49_l0_tk : LC := (pk (fun p0 => jX (atP (irl Try.f49 [] [] 0) [1, 0, 0, 1, 1]) [1] p0) _) yQ
noncomputable def ir49_l0_c : LC := (pk (fun p0 => jX (irl Try.f49 [] [] 0) [1, 0, 0, 1, 1] p0) _) ir49_l0_tk
theorem ir49_l0_c_eq : ir49_l0 = ir49_l0_c := rfl
theorem hv_get {c : Blk} {H : Hd} (h : c.gets 0 5 = H.v) {j : Nat} (hj : j < 5) : c.get j = H.v.getD j qE := by
 have := Blk.qM c 5 0 j hj
 rw [h, Nat.zero_add] at this
 rw [List.getD_eq_getElem?_getD, this]; rfl
set_option maxHeartbeats 8000000 in
theorem wcp_ok {Q : Ex → Fr → Heap → Prop} {t : List It} {g : Heap} {ob hb : Nat} {H o : Hd} {tr : Tr V} {co ch : Blk} (hR : ∀ b, R b) (hWo : W ob) (hoh : ob ≠ hb)
  (t4 : tr.get 4 = some (.ptr (some (ob, 0)))) (t7 : tr.get 7 = some (.ptr (some (hb, 0))))
  (o1 : g.get ob = some (.cells co 107)) (o2 : co.size = 5) (o3 : co.ro = false) (o4 : co.gets 0 5 = o.v)
  (h1 : g.get hb = some (.cells ch 107)) (h2 : ch.size = 5) (h4 : ch.gets 0 5 = H.v)
  (hk : ∀ tr' g', (∀ i, i = 0 ∨ i = 2 ∨ i = 4 ∨ i = 5 → tr'.get i = tr.get i) → g'.n = g.n → (∀ k, k ≠ ob → g'.get k = g.get k) → (∃ c, g'.get ob = some (.cells c 107) ∧ c.size = 5 ∧ c.ro = false ∧ c.gets 0 5 = (if o.ep < H.ep then H else o).v) → GO (Try.prog : MP) R W none Q t ⟨⟨77, tr'⟩, []⟩ g') :
  GO (Try.prog : MP) R W none Q (.code ir49_l0_cp :: t) ⟨⟨77, tr⟩, []⟩ g := by
 have q0 : co.get 0 = .int .u64 (o.ep : Int) := hv_get o4 (j := 0) (by omega)
 have x0 : ch.get 0 = .int .u64 (H.ep : Int) := hv_get h4 (j := 0) (by omega)
 have ra := hR ob
 have rb := hR hb
 have hvl : H.v.length = 5 := rfl
 have hone : allOne H.v = true := rfl
 have hlo := Heap.lt_of_get o1
 by_cases hc : o.ep < H.ep
 ·have i1 : (o.ep : Int) < (H.ep : Int) := by omega
  simp -implicitDefEqProofs (disch := omega) only [go_sem, seval, ↓reduceIte, ir49_l0_cp, qE, t4, t7, o1, o2, o3, q0, h1, h2, h4, x0, ra, rb, hvl, hone, hWo, i1]
  refine hk _ _ (by rintro i (rfl | rfl | rfl | rfl) <;> simp -implicitDefEqProofs (disch := omega) only [go_sem, seval, ↓reduceIte, reduceCtorEq]) (by rw [Heap.n_set]) (fun k hk => qB hlo hk _) ⟨_, qF hlo rfl _, by rw [Blk.zT]; exact o2, by rw [Blk.ro_puts]; exact o3, ?_⟩
  rw [if_pos hc]
  exact xR fun j hj => by rw [Blk.get_puts, if_pos ⟨by omega, by rw [hvl]; omega⟩, Nat.sub_zero]
 ·have i1 : ¬ (o.ep : Int) < (H.ep : Int) := by omega
  simp -implicitDefEqProofs (disch := omega) only [go_sem, seval, ↓reduceIte, ir49_l0_cp, t4, t7, o1, o2, q0, h1, h2, x0, ra, rb, i1]
  refine hk _ _ (by rintro i (rfl | rfl | rfl | rfl) <;> simp -implicitDefEqProofs (disch := omega) only [go_sem, seval, ↓reduceIte, reduceCtorEq]) rfl (fun _ _ => rfl) ⟨_, o1, o2, o3, ?_⟩
  rw [if_neg hc]; exact o4
set_option maxHeartbeats 8000000 in
theorem wts_ok {Q : Ex → Fr → Heap → Prop} {t : List It} {g : Heap} {ob hb zb i : Nat} {is : Bool} {H o HL : Hd} {tr : Tr V} {co ch cz : Blk} (hR : ∀ b, R b) (hWo : W ob) (hWz : W zb) (hoh : ob ≠ hb ∧ zb ≠ ob ∧ zb ≠ hb) (hi : i < 2) (hLt : H.Lt) (hl : RlC g rp rd fr ct HL) (hc : 2 ≤ ct ∧ ct ≤ 4096)
  (t0 : tr.get 0 = some (.ptr (some (rp, 0)))) (t2 : tr.get 2 = some (.ptr (some (zb, 0)))) (t4 : tr.get 4 = some (.ptr (some (ob, 0)))) (t5 : tr.get 5 = some (.int .i64 (i : Int))) (t7 : tr.get 7 = some (.ptr (some (hb, 0)))) (t8 : tr.get 8 = some (.bool is))
  (o1 : g.get ob = some (.cells co 107)) (o2 : co.size = 5) (o3 : co.ro = false) (o4 : co.gets 0 5 = o.v)
  (h1 : g.get hb = some (.cells ch 107)) (h2 : ch.size = 5) (h4 : ch.gets 0 5 = H.v)
  (z1 : g.get zb = some (.cells cz 107)) (z2 : cz.size = 5) (z3 : cz.ro = false)
  (hbad : (is = false ∨ ¬ mayH ((ct - 2) / 2) i H) → ∀ tr' g', tr'.get 2 = some (.ptr (some (zb, 0))) → tr'.get 3 = some (.bool false) → g'.n = g.n → (∀ k, k ≠ zb → g'.get k = g.get k) → (∃ c, g'.get zb = some (.cells c 107) ∧ c.size = 5 ∧ c.gets 0 5 = Hd.zero.v) → Q .ret ⟨⟨77, tr'⟩, []⟩ g')
  (hgood : is = true → mayH ((ct - 2) / 2) i H → ∀ tr' g', (∀ i, i = 0 ∨ i = 2 ∨ i = 4 ∨ i = 5 → tr'.get i = tr.get i) → g'.n = g.n → (∀ k, k ≠ ob → g'.get k = g.get k) → (∃ c, g'.get ob = some (.cells c 107) ∧ c.size = 5 ∧ c.ro = false ∧ c.gets 0 5 = (if o.ep < H.ep then H else o).v) → GO (Try.prog : MP) R W none Q t ⟨⟨77, tr'⟩, []⟩ g') :
  GO (Try.prog : MP) R W none Q (.code yQ :: t) ⟨⟨77, tr⟩, []⟩ g := by
 have x0 : ch.get 0 = .int .u64 (H.ep : Int) := hv_get h4 (j := 0) (by omega)
 have x3 : ch.get 3 = .int .u64 (H.sz : Int) := hv_get h4 (j := 3) (by omega)
 have x4 : ch.get 4 = .int .u64 (H.fi : Int) := hv_get h4 (j := 4) (by omega)
 have rb := hR hb
 have hlz := Heap.lt_of_get z1
 have zput : ((((((cz.set 0 (.int .u64 0)).set 1 (.int .u64 0)).set 2 (.int .u64 0)).set 3 (.int .u64 0)).set 4 (.int .u64 0)).gets 0 5) = Hd.zero.v := xR fun j hj => by
  have hh : j = 0 ∨ j = 1 ∨ j = 2 ∨ j = 3 ∨ j = 4 := by omega
  rcases hh with rfl | rfl | rfl | rfl | rfl <;> simp -implicitDefEqProofs (disch := first | omega | (simp -implicitDefEqProofs only [szs, ne_eq] <;> omega) | fail) only [go_sem, seval] <;> rfl
 have e2 : (H.ep : Int).tmod 2 = ((H.ep % 2 : Nat) : Int) := rfl
 have e3 : IntKind.u64.wrap ((H.ep % 2 : Nat) : Int) = ((H.ep % 2 : Nat) : Int) := wrap64 (by omega)
 have e4 : IntKind.u64.wrap (i : Int) = (i : Int) := wrap64 (by omega)
 cases is with
 | false =>
  simp -implicitDefEqProofs (disch := first | omega | (simp -implicitDefEqProofs only [szs, ne_eq] <;> omega) | fail) only [go_sem, seval, ↓reduceIte, yQ, qE, t2, t8, z1, z2, z3, hWz, and_false, or_false, false_or, not_false_eq_true, false_implies, implies_true]
  refine hbad (.inl rfl) _ _ (by simp -implicitDefEqProofs (disch := first | omega | (simp -implicitDefEqProofs only [szs, ne_eq] <;> omega) | fail) only [go_sem, seval, ↓reduceIte, t2]) (by simp -implicitDefEqProofs (disch := first | omega | (simp -implicitDefEqProofs only [szs, ne_eq] <;> omega) | fail) only [go_sem, seval, ↓reduceIte]) (by simp only [Heap.n_set]) (fun k hk => qB hlz hk _) ⟨_, qF hlz rfl _, by simp only [Blk.size_set]; exact z2, zput⟩
 | true =>
  by_cases c1 : H.ep = 0
  ·have i1 : ((H.ep : Int) == 0) = true := by simp; omega
   simp -implicitDefEqProofs (disch := first | omega | (simp -implicitDefEqProofs only [szs, ne_eq] <;> omega) | fail) only [go_sem, seval, ↓reduceIte, yQ, qE, t2, t7, t8, h1, h2, x0, rb, z1, z2, z3, hWz, and_false, or_false, false_or, not_false_eq_true, false_implies, implies_true, i1]
   refine hbad (.inr fun h => h.1 c1) _ _ (by simp -implicitDefEqProofs (disch := first | omega | (simp -implicitDefEqProofs only [szs, ne_eq] <;> omega) | fail) only [go_sem, seval, ↓reduceIte, t2]) (by simp -implicitDefEqProofs (disch := first | omega | (simp -implicitDefEqProofs only [szs, ne_eq] <;> omega) | fail) only [go_sem, seval, ↓reduceIte]) (by simp only [Heap.n_set]) (fun k hk => qB hlz hk _) ⟨_, qF hlz rfl _, by simp only [Blk.size_set]; exact z2, zput⟩
  have i1 : ((H.ep : Int) == 0) = false := by simp; omega
  by_cases c2 : H.ep % 2 = i
  rotate_left
  ·have i2 : ¬ (((H.ep % 2 : Nat) : Int) = (i : Int)) := by omega
   simp -implicitDefEqProofs (disch := first | omega | (simp -implicitDefEqProofs only [szs, ne_eq] <;> omega) | fail) only [go_sem, seval, ↓reduceIte, yQ, qE, t2, t5, t7, t8, h1, h2, x0, rb, z1, z2, z3, hWz, e2, e4, ↓cvd3_42, c3_42, and_false, or_false, false_or, not_false_eq_true, false_implies, implies_true, i1]
   refine hbad (.inr fun h => c2 h.2.1) _ _ (by simp -implicitDefEqProofs (disch := first | omega | (simp -implicitDefEqProofs only [szs, ne_eq] <;> omega) | fail) only [go_sem, seval, ↓reduceIte, t2]) (by simp -implicitDefEqProofs (disch := first | omega | (simp -implicitDefEqProofs only [szs, ne_eq] <;> omega) | fail) only [go_sem, seval, ↓reduceIte]) (by simp only [Heap.n_set]) (fun k hk => qB hlz hk _) ⟨_, qF hlz rfl _, by simp only [Blk.size_set]; exact z2, zput⟩
  have i2 : (((H.ep % 2 : Nat) : Int) = (i : Int)) := by omega
  by_cases c3 : H.ep ≤ 4611686018427387904
  rotate_left
  ·have i3 : (4611686018427387904 : Int) < (H.ep : Int) := by omega
   simp -implicitDefEqProofs (disch := first | omega | (simp -implicitDefEqProofs only [szs, ne_eq] <;> omega) | fail) only [go_sem, seval, ↓reduceIte, yQ, qE, t2, t5, t7, t8, h1, h2, x0, rb, z1, z2, z3, hWz, e2, e4, ↓cvd3_42, c3_42, and_false, or_false, false_or, not_false_eq_true, false_implies, implies_true, i1, i2, i3]
   refine hbad (.inr fun h => c3 h.2.2.1) _ _ (by simp -implicitDefEqProofs (disch := first | omega | (simp -implicitDefEqProofs only [szs, ne_eq] <;> omega) | fail) only [go_sem, seval, ↓reduceIte, t2]) (by simp -implicitDefEqProofs (disch := first | omega | (simp -implicitDefEqProofs only [szs, ne_eq] <;> omega) | fail) only [go_sem, seval, ↓reduceIte]) (by simp only [Heap.n_set]) (fun k hk => qB hlz hk _) ⟨_, qF hlz rfl _, by simp only [Blk.size_set]; exact z2, zput⟩
  have i3 : ¬ (4611686018427387904 : Int) < (H.ep : Int) := by omega
  by_cases c4 : H.fi ≤ 4611686018427387904
  rotate_left
  ·have i4 : (4611686018427387904 : Int) < (H.fi : Int) := by omega
   simp -implicitDefEqProofs (disch := first | omega | (simp -implicitDefEqProofs only [szs, ne_eq] <;> omega) | fail) only [go_sem, seval, ↓reduceIte, yQ, qE, t2, t5, t7, t8, h1, h2, x0, x4, rb, z1, z2, z3, hWz, e2, e4, ↓cvd3_42, c3_42, and_false, or_false, false_or, not_false_eq_true, false_implies, implies_true, i1, i2, i3, i4]
   refine hbad (.inr fun h => c4 h.2.2.2.1) _ _ (by simp -implicitDefEqProofs (disch := first | omega | (simp -implicitDefEqProofs only [szs, ne_eq] <;> omega) | fail) only [go_sem, seval, ↓reduceIte, t2]) (by simp -implicitDefEqProofs (disch := first | omega | (simp -implicitDefEqProofs only [szs, ne_eq] <;> omega) | fail) only [go_sem, seval, ↓reduceIte]) (by simp only [Heap.n_set]) (fun k hk => qB hlz hk _) ⟨_, qF hlz rfl _, by simp only [Blk.size_set]; exact z2, zput⟩
  have i4 : ¬ (4611686018427387904 : Int) < (H.fi : Int) := by omega
  simp -implicitDefEqProofs (disch := first | omega | (simp -implicitDefEqProofs only [szs, ne_eq] <;> omega) | fail) only [go_sem, seval, ↓reduceIte, reduceCtorEq, yQ, t0, t5, t7, t8, h1, h2, x0, x3, x4, e2, e4, ↓cvd3_42, c3_42, i1, i2, i3, i4]
  refine qN.of (SF.foot (rhalf_ok (R := qR) (W := noW) hl hc (fun _ => trivial)) (fun _ h => h) (fun _ h => h)) ?_
  rintro r g' ⟨rfl, rfl⟩
  have e5 : (((ct - 2) / 2 : Nat) : Int) * 120 = (((ct - 2) / 2 * 120 : Nat) : Int) := by omega
  have e6 : IntKind.u64.wrap (((ct - 2) / 2 * 120 : Nat) : Int) = (((ct - 2) / 2 * 120 : Nat) : Int) := wrap64 (by omega)
  by_cases c5 : H.sz ≤ (ct - 2) / 2 * 120
  ·have i5 : ¬ (((ct - 2) / 2 * 120 : Nat) : Int) < (H.sz : Int) := by omega
   simp -implicitDefEqProofs (disch := first | omega | (simp -implicitDefEqProofs only [szs, ne_eq] <;> omega) | fail) only [go_sem, seval, ↓reduceIte, e5, e6, i5, ↓cvd3_42, c3_42]
   refine ⟨by (and_intros; all_goals (intro b hb hc; simp only [noW, qR, List.not_mem_nil, and_false, false_or, or_false] at hb hc <;> omega)), ⟨fun _ => rb, fun _ => rb, fun _ => rb, fun _ => rb, fun _ => rb, fun b _ _ => hR b, fun b _ h => h.elim⟩, wcp_ok (H := H) (o := o) hR hWo hoh.1 (by simp -implicitDefEqProofs (disch := first | omega | (simp -implicitDefEqProofs only [szs, ne_eq] <;> omega) | fail) only [go_sem, seval, ↓reduceIte, t4]) (by simp -implicitDefEqProofs (disch := first | omega | (simp -implicitDefEqProofs only [szs, ne_eq] <;> omega) | fail) only [go_sem, seval, ↓reduceIte, t7]) o1 o2 o3 o4 h1 h2 h4 fun tr' g2 q1 q2 q3 q4 => hgood rfl ⟨c1, c2, c3, c4, c5⟩ tr' g2 (fun j hj => (q1 j hj).trans ?_) q2 q3 q4⟩
   rcases hj with rfl | rfl | rfl | rfl <;> simp -implicitDefEqProofs (disch := first | omega | (simp -implicitDefEqProofs only [szs, ne_eq] <;> omega) | fail) only [go_sem, seval, ↓reduceIte, reduceCtorEq]
  ·have i5 : (((ct - 2) / 2 * 120 : Nat) : Int) < (H.sz : Int) := by omega
   simp -implicitDefEqProofs (disch := first | omega | (simp -implicitDefEqProofs only [szs, ne_eq] <;> omega) | fail) only [go_sem, seval, ↓reduceIte, qE, t2, e5, e6, i5, ↓cvd3_42, c3_42, z1, z2, z3, hWz]
   refine ⟨by (and_intros; all_goals (intro b hb hc; simp only [noW, qR, List.not_mem_nil, and_false, false_or, or_false] at hb hc <;> omega)), ⟨fun _ => rb, fun _ => rb, fun _ => rb, fun _ => rb, fun _ => rb, fun b _ _ => hR b, fun b _ h => h.elim⟩, hbad (.inr fun h => c5 h.2.2.2.2) _ _ (by simp -implicitDefEqProofs (disch := first | omega | (simp -implicitDefEqProofs only [szs, ne_eq] <;> omega) | fail) only [go_sem, seval, ↓reduceIte, t2]) (by simp -implicitDefEqProofs (disch := first | omega | (simp -implicitDefEqProofs only [szs, ne_eq] <;> omega) | fail) only [go_sem, seval, ↓reduceIte]) (by simp only [Heap.n_set]) (fun k hk => qB hlz hk _) ⟨_, qF hlz rfl _, by simp only [Blk.size_set]; exact z2, zput⟩⟩
def WhichQ (h : Heap) (fr ct : Nat) (D : DS) (r : V) (g : Heap) : Prop := ∃ H : Hd, H.Lt ∧ r = .tuple [.agg H.v, .bool (jZ ((ct - 2) / 2) (D.seen fr) (D.seen (fr + 1))).isSome] ∧ (∀ H', jZ ((ct - 2) / 2) (D.seen fr) (D.seen (fr + 1)) = some H' → H' = H) ∧ h.n ≤ g.n ∧ ∀ k, k < h.n → g.get k = h.get k
noncomputable def wI (n : Nat) (b0 b1 : List V) : Nat → Option Hd
 | 0 => some h00
 | 1 => zW n 0 b0 h00
 | _ => jZ n b0 b1
theorem wI_step (n : Nat) (b0 b1 : List V) {i : Nat} (hi : i < 2) : wI n b0 b1 (i + 1) = (wI n b0 b1 i).bind (zW n i (if i = 0 then b0 else b1)) := by
 have hh : i = 0 ∨ i = 1 := by omega
 rcases hh with rfl | rfl
 ·rfl
 ·rfl
theorem wI_none (n : Nat) (b0 b1 : List V) {i : Nat} (hi : i ≤ 2) (h : wI n b0 b1 i = none) : jZ n b0 b1 = none := by
 have hh : i = 0 ∨ i = 1 ∨ i = 2 := by omega
 rcases hh with rfl | rfl | rfl
 ·cases h
 ·unfold jZ; rw [show zW n 0 b0 h00 = none from h]; rfl
 ·exact h
theorem whichS_zero' (n i : Nat) (o : Hd) : zW n i (zB 128) o = some o := by unfold zW; rw [if_pos rfl]
set_option maxHeartbeats 8000000 in
theorem rwhich_ok {HL : Hd} (hx : RkX h M rd D) (hl : RlC h rp rd fr ct HL) (hc : 16 ≤ ct ∧ fr + ct ≤ D.n) (hR : ∀ b, R b) : SF Try.prog 49 [.ptr (some (rp, 0))] h R W (WhichQ h fr ct D) := by
 have hR' : ∀ b, h.n ≤ b ∨ R b := fun b => .inr (hR b)
 have hp := hx.pos
 refine SF.go hm Try.func49 ir49_eq ?_
 simp -implicitDefEqProofs (disch := first | omega | (simp -implicitDefEqProofs only [szs, ne_eq] <;> omega) | fail) only [go_sem, seval, ↓reduceIte, reduceCtorEq, ir49]
 obtain ⟨g0, e0⟩ : ∃ g0, g0 = ((h.push (.cells (Blk.of [.int .u64 0, .int .u64 0, .int .u64 0, .int .u64 0, .int .u64 0]) 107)).push (.cells (Blk.of [.int .u64 0, .int .u64 0, .int .u64 0, .int .u64 0, .int .u64 0]) 107)).set (h.n + 1) (.cells ((((((Blk.of [.int .u64 0, .int .u64 0, .int .u64 0, .int .u64 0, .int .u64 0]).set 0 (.int .u64 0)).set 1 (.int .u64 0)).set 2 (.int .u64 0)).set 3 (.int .u64 0)).set 4 (.int .u64 1)) 107) := ⟨_, rfl⟩
 rw [← e0]
 have n0 : g0.n = h.n + 2 := by rw [e0]; simp only [Heap.qG, Heap.n_set]
 have Z0 : g0.get h.n = some (.cells (Blk.of [.int .u64 0, .int .u64 0, .int .u64 0, .int .u64 0, .int .u64 0]) 107) := by rw [e0, qB (by simp only [Heap.qG]; omega) (by omega), qC (by simp only [Heap.qG]; omega)]; exact qH rfl _
 have O0 : ∃ c, g0.get (h.n + 1) = some (.cells c 107) ∧ c.size = 5 ∧ c.ro = false ∧ c.gets 0 5 = h00.v := ⟨_, by rw [e0]; exact qF (by simp only [Heap.qG]; omega) rfl _, rfl, rfl, rfl⟩
 have k0 : ∀ k, k < h.n → g0.get k = h.get k := fun k hk => by rw [e0, qB (by simp only [Heap.qG]; omega) (by omega), qC (by simp only [Heap.qG]; omega), qC (by omega)]
 clear e0
 obtain ⟨b0, eb0⟩ : ∃ b0, b0 = D.seen fr := ⟨_, rfl⟩
 obtain ⟨b1, eb1⟩ : ∃ b1, b1 = D.seen (fr + 1) := ⟨_, rfl⟩
 refine kE.inv hm (fun k f g => f.mks = [] ∧ f.tm.n = 77 ∧ f.tm.get 0 = some (.ptr (some (rp, 0))) ∧ f.tm.get 2 = some (.ptr (some (h.n, 0))) ∧ f.tm.get 4 = some (.ptr (some (h.n + 1, 0))) ∧ ∃ (i : Nat) (o : Hd), i + k = 2 ∧ f.tm.get 5 = some (.int .i64 (i : Int)) ∧ wI ((ct - 2) / 2) b0 b1 i = some o ∧ o.Lt ∧ (∃ c, g.get (h.n + 1) = some (.cells c 107) ∧ c.size = 5 ∧ c.ro = false ∧ c.gets 0 5 = o.v) ∧ (∃ c, g.get h.n = some (.cells c 107) ∧ c.size = 5 ∧ c.ro = false) ∧ h.n + 2 ≤ g.n ∧ ∀ k, k < h.n → g.get k = h.get k) 2 ?_ ?_
 ·exact ⟨rfl, rfl, by simp -implicitDefEqProofs (disch := first | omega | (simp -implicitDefEqProofs only [szs, ne_eq] <;> omega) | fail) only [go_sem, seval, ↓reduceIte], by simp -implicitDefEqProofs (disch := first | omega | (simp -implicitDefEqProofs only [szs, ne_eq] <;> omega) | fail) only [go_sem, seval, ↓reduceIte, reduceCtorEq], by simp -implicitDefEqProofs (disch := first | omega | (simp -implicitDefEqProofs only [szs, ne_eq] <;> omega) | fail) only [go_sem, seval, ↓reduceIte, reduceCtorEq], 0, h00, by omega, by simp -implicitDefEqProofs (disch := first | omega | (simp -implicitDefEqProofs only [szs, ne_eq] <;> omega) | fail) only [go_sem, seval, ↓reduceIte, reduceCtorEq], rfl, ⟨by decide, by decide, by decide, by decide, by decide⟩, O0, ⟨_, Z0, rfl, rfl⟩, by omega, k0⟩
 rintro k ⟨⟨n', tr⟩, mks⟩ g ⟨hmk, hn', t0, t2, t4, i, o, hik, t5, hw, hoL, ⟨co, o1, o2, o3, o4⟩, ⟨cz, z1, z2, z3⟩, hng, kg⟩
 simp only [Tm.kL] at hmk hn' t0 t2 t4 t5
 subst hmk hn'
 have hlg := hl.old kg
 have hxg : RkX g M rd D := hx.old (by omega) kg
 by_cases hi : i < 2
 rotate_left
 ·have hci : ¬ (i : Int) < 2 := by omega
  obtain rfl : i = 2 := by omega
  have hvl : o.v.length = 5 := rfl
  have hone : allOne o.v = true := rfl
  have hlz := Heap.lt_of_get z1
  have q0 : co.get 0 = .int .u64 (o.ep : Int) := hv_get o4 (j := 0) (by omega)
  have q1 : co.get 1 = .int .u64 (o.si : Int) := hv_get o4 (j := 1) (by omega)
  have q2 : co.get 2 = .int .u64 (o.ha : Int) := hv_get o4 (j := 2) (by omega)
  have q3 : co.get 3 = .int .u64 (o.sz : Int) := hv_get o4 (j := 3) (by omega)
  have q4 : co.get 4 = .int .u64 (o.fi : Int) := hv_get o4 (j := 4) (by omega)
  simp -implicitDefEqProofs (disch := first | omega | (simp -implicitDefEqProofs only [szs, ne_eq] <;> omega) | fail) only [go_sem, seval, ↓reduceIte, ir49_l0, qE, t2, t4, t5, o1, o2, q0, q1, q2, q3, q4, z1, z2, z3]
  have hww : jZ ((ct - 2) / 2) b0 b1 = some o := hw
  unfold WhichQ
  rw [← eb0, ← eb1, hww]
  exact ⟨o, hoL, rfl, (fun H' e => (Option.some.inj e).symm), by rw [Heap.n_set]; omega, fun k hk => by rw [qB hlz (by omega)]; exact kg k hk⟩
 have hci : (i : Int) < 2 := by omega
 have ei : (fr : Int) + (i : Int) = ((fr + i : Nat) : Int) := by omega
 have hlg0 := hlg
 obtain ⟨cl, l1, l2, l3, c0, c1, c2, c3⟩ := hlg
 have hbi : D.seen (fr + i) = if i = 0 then b0 else b1 := by
  have hh : i = 0 ∨ i = 1 := by omega
  rcases hh with rfl | rfl
  ·rw [if_pos rfl, eb0]; rfl
  ·rw [if_neg (by omega), eb1]
 obtain ⟨sl, sb⟩ := hx.sec (s := fr + i) (by omega)
 have hstep := wI_step ((ct - 2) / 2) b0 b1 hi
 rw [hw, ← hbi, Option.bind_some] at hstep
 rw [ir49_l0_c_eq]
 simp -implicitDefEqProofs (disch := first | omega | (simp -implicitDefEqProofs only [szs, ne_eq] <;> omega) | fail) only [go_sem, seval, ↓reduceIte, reduceCtorEq, ir49_l0_c, qE, t0, t5, hci, l1, l2, c0, c1, ei]
 refine qN.of (SF.foot (seen_rk (R := qR) (W := noW) hxg (fun _ => trivial) (s := fr + i) (by omega)) (fun _ h => h) (fun _ h => h)) ?_
 rintro b g ⟨hb, rfl⟩
 obtain ⟨s1, f1, p1⟩ := jI hb.1 sb
 have hbo := hb.one
 simp -implicitDefEqProofs (disch := first | omega | (simp -implicitDefEqProofs only [szs, ne_eq] <;> omega) | fail) only [go_sem, seval, ↓reduceIte, ↓cvSD, f1]
 have ra : h.n ≤ rp ∨ R rp := hR' rp
 refine ⟨⟨fun _ => ra, fun _ => ra, fun b _ _ => hR' b, fun b _ h => h.elim⟩, ?_⟩
 refine qN.of (SF.foot (rfull_ok (R := qR) (W := noW) (S := noW) (l := []) (.inl ⟨rfl, .inl rfl⟩) (fun _ => trivial) (by simp) Byt.nil) (fun _ h => h) (fun _ h => h)) ?_
 rintro r1 g1 ⟨oz, n1, k1⟩
 rw [show padB [] = zB 128 from rfl] at oz
 obtain ⟨s2, f2, p2⟩ := jI oz.lr (byt_zB 128)
 have hsb : (decide (jY (D.seen (fr + i)) = jY (zB 128))) = sameB (D.seen (fr + i)) (zB 128) := rfl
 have hsame := sameB_iff sb (byt_zB 128)
 have kg1 : ∀ k, k < h.n → g1.get k = h.get k := fun k hk => by rw [k1 k (by omega), kg k hk]
 have O1 := (k1 (h.n + 1) (by omega)).trans o1
 have Z1 := (k1 h.n (by omega)).trans z1
 have p1' : ∀ b, b ∈ s1 → b < g.n := fun b hb => (p1 b hb).2
 have p2' : ∀ b, b ∈ s2 → g.n ≤ b := fun b hb => (p2 b hb).1
 by_cases hz : D.seen (fr + i) = zB 128
 ·have ht : sameB (D.seen (fr + i)) (zB 128) = true := hsame.2 hz
  simp -implicitDefEqProofs (disch := first | omega | (simp -implicitDefEqProofs only [szs, ne_eq] <;> omega) | fail) only [go_sem, seval, ↓reduceIte, reduceCtorEq, t0, t2, t4, t5, ↓cvSD, f2, sb_eql, hsb, ht]
  rw [hz, whichS_zero'] at hstep
  exact ⟨by (and_intros; all_goals (intro b hb hc; simp only [noW, qR, List.not_mem_nil, and_false, false_or, or_false] at hb hc <;> omega)), by (and_intros; all_goals (intros; first | exact hR' _ | exact (by assumption : noW _).elim | exact (by assumption : False).elim | exact .inr (hW _ (by assumption)) | omega)), k - 1, by omega, i + 1, o, by omega, by simp, hstep, hoL, ⟨co, O1, o2, o3, o4⟩, ⟨cz, Z1, z2, z3⟩, by omega, kg1⟩
 have ht : sameB (D.seen (fr + i)) (zB 128) = false := by
  cases e : sameB (D.seen (fr + i)) (zB 128) with
  | false => rfl
  | true => exact absurd (hsame.1 e) hz
 simp -implicitDefEqProofs (disch := first | omega | (simp -implicitDefEqProofs only [szs, ne_eq] <;> omega) | fail) only [go_sem, seval, ↓reduceIte, ↓cvSD, f2, sb_eql, hsb, ht]
 refine ⟨by (and_intros; all_goals (intro b hb hc; simp only [noW, qR, List.not_mem_nil, and_false, false_or, or_false] at hb hc <;> omega)), by (and_intros; all_goals (intros; first | exact hR' _ | exact (by assumption : noW _).elim | exact (by assumption : False).elim | exact .inr (hW _ (by assumption)) | omega)), ?_⟩
 simp -implicitDefEqProofs (disch := first | omega | (simp -implicitDefEqProofs only [szs, ne_eq] <;> omega) | fail) only [go_sem, seval, ↓reduceIte, ir49_l0_tk]
 refine qK.of (rtake_ok (hb.1.old k1) (by omega) (by omega) sb hR') ?_
 rintro r2 g2 ⟨H, hHL, rfl, hH, n2, k2⟩
 have hone : allOne H.v = true := rfl
 have hvl : H.v.length = 5 := rfl
 have hn2 : h.n ≤ g2.n := by omega
 simp -implicitDefEqProofs (disch := first | omega | (simp -implicitDefEqProofs only [szs, ne_eq] <;> omega) | fail) only [go_sem, seval, ↓reduceIte, qE, hone, hvl, hn2]
 obtain ⟨g3, e3⟩ : ∃ g3, g3 = (g2.push (.cells (Blk.of [.int .u64 0, .int .u64 0, .int .u64 0, .int .u64 0, .int .u64 0]) 107)).set g2.n (.cells ((Blk.of [.int .u64 0, .int .u64 0, .int .u64 0, .int .u64 0, .int .u64 0]).puts 0 H.v) 107) := ⟨_, rfl⟩
 rw [← e3]
 have n3 : g3.n = g2.n + 1 := by rw [e3]; simp only [Heap.qG, Heap.n_set]
 have H3 : g3.get g2.n = some (.cells ((Blk.of [.int .u64 0, .int .u64 0, .int .u64 0, .int .u64 0, .int .u64 0]).puts 0 H.v) 107) := by rw [e3]; exact qF (by simp only [Heap.qG]; omega) rfl _
 have k3 : ∀ k, k < g2.n → g3.get k = g2.get k := fun k hk => by rw [e3, qB (by simp only [Heap.qG]; omega) (by omega), qC (by omega)]
 clear e3
 have kk : ∀ k, k < g1.n → g3.get k = g1.get k := fun k hk => by rw [k3 k (by omega), k2 k hk]
 have kh : ∀ k, k < h.n → g3.get k = h.get k := fun k hk => by rw [kk k (by omega), kg1 k hk]
 refine wts_ok (HL := HL) (H := H) (o := o) (i := i) (ob := h.n + 1) (zb := h.n) (hb := g2.n) (is := (headA (D.seen (fr + i))).isSome) hR' (.inl (by omega)) (.inl (Nat.le_refl _)) ⟨by omega, by omega, by omega⟩ hi hHL (hl.old kh) ⟨by omega, by omega⟩ (by simp -implicitDefEqProofs (disch := first | omega | (simp -implicitDefEqProofs only [szs, ne_eq] <;> omega) | fail) only [go_sem, seval, ↓reduceIte, reduceCtorEq, t0]) (by simp -implicitDefEqProofs (disch := first | omega | (simp -implicitDefEqProofs only [szs, ne_eq] <;> omega) | fail) only [go_sem, seval, ↓reduceIte, t2]) (by simp -implicitDefEqProofs (disch := first | omega | (simp -implicitDefEqProofs only [szs, ne_eq] <;> omega) | fail) only [go_sem, seval, ↓reduceIte, t4]) (by simp -implicitDefEqProofs (disch := first | omega | (simp -implicitDefEqProofs only [szs, ne_eq] <;> omega) | fail) only [go_sem, seval, ↓reduceIte, t5]) (by simp -implicitDefEqProofs (disch := first | omega | (simp -implicitDefEqProofs only [szs, ne_eq] <;> omega) | fail) only [go_sem, seval, ↓reduceIte]) (by simp -implicitDefEqProofs (disch := first | omega | (simp -implicitDefEqProofs only [szs, ne_eq] <;> omega) | fail) only [go_sem, seval, ↓reduceIte]) ((kk _ (by omega)).trans O1) o2 o3 o4 H3 (by simp only [Blk.zT]; rfl) (xR fun j hj => by rw [Blk.get_puts, if_pos ⟨by omega, by rw [hvl]; omega⟩, Nat.sub_zero]) ((kk _ (by omega)).trans Z1) z2 z3 (fun hb tr' g4 q2 q3 n4 k4 z4 => ?_) fun his hmay tr' g4 q1 n4 k4 o4' => ?_
 ·have hno : jZ ((ct - 2) / 2) b0 b1 = none := by
   refine wI_none _ _ _ (i := i + 1) (by omega) ?_
   rw [hstep]
   unfold zW
   rw [if_neg hz]
   cases hh : headA (D.seen (fr + i)) with
   | none => rfl
   | some H' =>
    obtain rfl := hH H' hh
    simp only
    rw [if_neg]
    rcases hb with hb | hb
    ·rw [hh] at hb; cases hb
    ·exact hb
  obtain ⟨cz', z1', z2', z3'⟩ := z4
  simp -implicitDefEqProofs (disch := first | omega | (simp -implicitDefEqProofs only [szs, ne_eq] <;> omega) | fail) only [go_sem, seval, q2, q3, z1', z2', z3']
  unfold WhichQ
  rw [← eb0, ← eb1, hno]
  exact ⟨Hd.zero, ⟨by decide, by decide, by decide, by decide, by decide⟩, rfl, (fun H' e => by cases e), by omega, fun k hk => by rw [k4 k (by omega)]; exact kh k hk⟩
 ·have hst : wI ((ct - 2) / 2) b0 b1 (i + 1) = some (if o.ep < H.ep then H else o) := by
   rw [hstep]
   unfold zW
   rw [if_neg hz]
   cases hh : headA (D.seen (fr + i)) with
   | none => rw [hh] at his; cases his
   | some H' =>
    obtain rfl := hH H' hh
    simp only
    rw [if_pos hmay]
  have u0 := (q1 0 (by simp)).trans (by simp -implicitDefEqProofs (disch := first | omega | (simp -implicitDefEqProofs only [szs, ne_eq] <;> omega) | fail) only [go_sem, seval, ↓reduceIte, reduceCtorEq, t0] : _ = some (V.ptr (some (rp, 0))))
  have u2 := (q1 2 (by simp)).trans (by simp -implicitDefEqProofs (disch := first | omega | (simp -implicitDefEqProofs only [szs, ne_eq] <;> omega) | fail) only [go_sem, seval, ↓reduceIte, t2] : _ = some (V.ptr (some (h.n, 0))))
  have u4 := (q1 4 (by simp)).trans (by simp -implicitDefEqProofs (disch := first | omega | (simp -implicitDefEqProofs only [szs, ne_eq] <;> omega) | fail) only [go_sem, seval, ↓reduceIte, t4] : _ = some (V.ptr (some (h.n + 1, 0))))
  have u5 := (q1 5 (by simp)).trans (by simp -implicitDefEqProofs (disch := first | omega | (simp -implicitDefEqProofs only [szs, ne_eq] <;> omega) | fail) only [go_sem, seval, ↓reduceIte, t5] : _ = some (V.int .i64 (i : Int)))
  simp -implicitDefEqProofs (disch := first | omega | (simp -implicitDefEqProofs only [szs, ne_eq] <;> omega) | fail) only [go_sem, seval, ↓reduceIte, reduceCtorEq, u0, u2, u4, u5]
  refine ⟨k - 1, by omega, i + 1, (if o.ep < H.ep then H else o), by omega, by simp, hst, ?_, o4', ⟨cz, by rw [k4 _ (by omega), kk _ (by omega)]; exact Z1, z2, z3⟩, by omega, fun k hk => by rw [k4 k (by omega)]; exact kh k hk⟩
  split
  ·exact hHL
  ·exact hoL
end Go.Proofs.Ytakgjjbmniilhaa
set_option maxRecDepth 100000
set_option linter.unusedVariables false
namespace Go.Proofs.Ytakgjjbmniilhaa
open Go Go.Vm
attribute [-go_sem] qQ
variable {h g : Heap} {R W M N : Set'} {rd rp fr ct : Nat} {D : DS} {G : LgS}
noncomputable def ir79_l1_ap : LC := (pk (fun l0 => atP (irl Try.f79 [l0] [] 1) [1, 0, 0, 1, 1, 1, 1, 1]) _) ir79_l0
noncomputable def xA : LC := (pk (fun l0 p0 => jX (atP (irl Try.f79 [l0] [] 1) [1, 0, 0, 1, 1, 1, 1]) [1] p0) _) ir79_l0 ir79_l1_ap
noncomputable def ir79_l1_nn : LC := (pk (fun l0 p0 => jX (atP (irl Try.f79 [l0] [] 1) [1, 0, 0, 1, 1, 1]) [1] p0) _) ir79_l0 xA
noncomputable def ir79_l1_ep : LC := (pk (fun l0 p0 => jX (atP (irl Try.f79 [l0] [] 1) [1, 0, 0, 1, 1]) [1] p0) _) ir79_l0 ir79_l1_nn
noncomputable def ir79_l1_c : LC := (pk (fun l0 p0 => jX (irl Try.f79 [l0] [] 1) [1, 0, 0, 1, 1] p0) _) ir79_l0 ir79_l1_ep
theorem ir79_l1_c_eq : ir79_l1 = ir79_l1_c := rfl
def xB (s : List V) : List V := (s.drop 19).take (bAt s 18)
def chkOK (s : List V) (num ep i of : Nat) : Prop := 1 ≤ of ∧ of ≤ 64 ∧ bAt s 18 ≤ 108 ∧ ¬ (i + 1 < of ∧ bAt s 18 ≠ 108) ∧ ¬ (1 < of ∧ bAt s 18 = 0) ∧ kV num ep i of (xB s) = s
theorem datB_len {s : List V} (hs : s.length = 128) (h : bAt s 18 ≤ 108) : (xB s).length = bAt s 18 := by
 unfold xB; rw [List.length_take, List.length_drop]; omega
theorem chk_good {s : List V} {num ep i of : Nat} (hs : s.length = 128) (hc : chkOK s num ep i of) (hi : i < of) (hn : num < 18446744073709551616) (he : ep < 18446744073709551616) : jT s = some ⟨num, ep, i, of, xB s⟩ := by
 obtain ⟨h1, h2, h3, h4, h5, h6⟩ := hc
 have hl := datB_len hs h3
 have := rec_part (num := num) (ep := ep) (pl := i) (of := of) (dat := xB s) hn he (by
  rw [hl]
  exact ⟨h3, h1, h2, hi, fun h => by omega, fun h => by omega⟩)
 rw [h6] at this
 exact this
theorem chk_bad {s : List V} {num ep i of : Nat} (hc : ¬ chkOK s num ep i of) {r : Rc} (hr : jT s = some r) : ¬ (r.num = num ∧ r.ep = ep ∧ r.pl = i ∧ r.of = of) := by
 rintro ⟨rfl, rfl, rfl, rfl⟩
 obtain ⟨e, ⟨h1, h2, h3, h4, h5, h6⟩, h7⟩ := recA_some hr
 refine hc ⟨h2, h3, h1, fun h => h.2 (h5 h.1), fun h => h6 h.1 h.2, ?_⟩
 have : r.dat = xB s := by rw [e]; rfl
 rw [← this]; exact h7
theorem rec_raw {s : List V} {r : Rc} (hr : jT s = some r) : r.ep = jQ ((s.drop 8).take 8) ∧ r.of = bAt s 17 := by
 obtain ⟨e, _, _⟩ := recA_some hr
 rw [e]; exact ⟨rfl, rfl⟩
theorem sl_19r {v : V} {S : Set'} {l : List V} (hv : LR h S v l) (hc : xU v) (hl : l.length = 128) {n : Nat} (hn : n ≤ 108) : ∃ v', kC Try.prog 22 v (some 19) (some ((19 : Int) + (n : Int))) none = some v' ∧ LR h S v' ((l.drop 19).take n) := by
 rcases hv with ⟨rfl, _⟩ | ⟨b, o, cap, ex, c, ce, rfl, hR, hb, hs, hg⟩
 ·cases hl
 ·have hcl : l.length ≤ cap := hc
  rw [hl] at hcl hs hg ⊢
  have hbv : kJ 128 cap (some 19) (some ((19 : Int) + (n : Int))) none = some (19, 19 + n, cap) := by
   have e : ((19 : Int) + (n : Int)).toNat = 19 + n := by omega
   simp only [kJ, e]
   rw [if_pos (by constructor <;> omega)]
   simp only []
   rw [if_pos (by constructor <;> omega)]; rfl
  have hbe : Nat.beq cap 19 = false := w_beq_f (by omega)
  have hbl : Nat.blt 19 cap = true := w_blt_t (by omega)
  have hln : ((l.drop 19).take n).length = n := by rw [List.length_take, List.length_drop]; omega
  refine ⟨.slice (some (b, o + 19 * 1)) (19 + n - 19) (cap - 19) ex, ?_, .inr ⟨b, o + 19, cap - 19, ex, c, ce, by rw [hln]; simp, hR, hb, by rw [hln]; omega, ?_⟩⟩
  ·simp only [kC, Try.underlying22, sz_5, hbv]
   cases ex with
   | true => simp only [hbe]
   | false => simp only [hbl]; rw [if_pos ⟨hcl, .inl trivial⟩]
  ·rw [hln]
   refine Blk.jH (fun j hj => ?_) hln.symm
   rw [hln] at hj
   have := Blk.qM c 128 o (19 + j) (by omega)
   rw [hg] at this
   rw [List.getD_eq_getElem?_getD, List.getElem?_take, if_pos hj, List.getElem?_drop, this, show o + 19 + j = o + (19 + j) by omega]; rfl
theorem sb_neq (a b : ByteArray) : strBin .neq a b = some (.bool (decide (a ≠ b))) := by
 show some (V.bool (!eqB a.data.toList b.data.toList)) = _
 rw [eqB_eq]
 congr 2
 by_cases h : a = b
 ·subst h; simp
 ·have : a.data.toList ≠ b.data.toList := fun e => h (by
   obtain ⟨⟨a⟩⟩ := a
   obtain ⟨⟨b⟩⟩ := b
   simp only at e
   rw [e])
  have e2 : (a.data.toList == b.data.toList) = false := beq_eq_false_iff_ne.2 this
  simp [e2, h]
set_option maxHeartbeats 16000000 in
theorem rck_ok {Q : Ex → Fr → Heap → Prop} {t : List It} {g : Heap} {num ep i of : Nat} {S : Set'} {sv : V} {s : List V} {tr : Tr V} (hR : ∀ b, R b) (hsv : LRc g S sv s) (hs : s.length = 128) (hby : Byt s) (hS : ∀ b, S b → b < g.n)
  (hnum : num < 18446744073709551616) (hep : ep < 18446744073709551616) (hi : i < 64) (hof : of < 256)
  (t2 : tr.get 2 = some (.int .u64 (num : Int))) (t10 : tr.get 10 = some (.int .u64 (ep : Int))) (t11 : tr.get 11 = some (.int .i64 (of : Int))) (t13 : tr.get 13 = some (.int .i64 (i : Int))) (t14 : tr.get 14 = some sv) (t16 : tr.get 16 = some (.int .i64 (bAt s 18 : Nat)))
  (hbad : ¬ chkOK s num ep i of → ∀ tr' g', tr'.get 6 = some (.int .u64 0) → tr'.get 7 = some (.slice none 0 0 true) → tr'.get 8 = some (.int .i64 0) → tr'.get 9 = some (.bool false) → g.n ≤ g'.n → (∀ k, k < g.n → g'.get k = g.get k) → Q .ret ⟨⟨113, tr'⟩, []⟩ g')
  (hgood : chkOK s num ep i of → ∀ tr' g', (∀ j, j = 0 ∨ j = 1 ∨ j = 2 ∨ j = 10 ∨ j = 11 ∨ j = 12 ∨ j = 13 ∨ j = 14 ∨ j = 16 → tr'.get j = tr.get j) → g.n ≤ g'.n → (∀ k, k < g.n → g'.get k = g.get k) → GO (Try.prog : MP) R W none Q (.code ir79_l1_ap :: t) ⟨⟨113, tr'⟩, []⟩ g') :
  GO (Try.prog : MP) R W none Q (.code xA :: t) ⟨⟨113, tr⟩, []⟩ g := by
 obtain ⟨n, en⟩ : ∃ n, n = bAt s 18 := ⟨_, rfl⟩
 rw [← en] at t16
 by_cases c1 : 1 ≤ of
 rotate_left
 ·have i1 : (of : Int) < 1 := by omega
  simp -implicitDefEqProofs (disch := omega) only [go_sem, seval, ↓reduceIte, xA, qE, t11, i1, false_implies, implies_true, and_false, or_false, false_or, not_false_eq_true]
  exact hbad (fun h => c1 h.1) _ _ (by simp -implicitDefEqProofs (disch := omega) only [go_sem, seval, ↓reduceIte]) (by simp -implicitDefEqProofs (disch := omega) only [go_sem, seval, ↓reduceIte]) (by simp -implicitDefEqProofs (disch := omega) only [go_sem, seval, ↓reduceIte]) (by simp -implicitDefEqProofs (disch := omega) only [go_sem, seval, ↓reduceIte]) (Nat.le_refl _) fun _ _ => rfl
 have i1 : ¬ (of : Int) < 1 := by omega
 by_cases c2 : of ≤ 64
 rotate_left
 ·have i2 : (64 : Int) < (of : Int) := by omega
  simp -implicitDefEqProofs (disch := omega) only [go_sem, seval, ↓reduceIte, xA, qE, t11, i1, i2, false_implies, implies_true, and_false, or_false, false_or, not_false_eq_true]
  exact hbad (fun h => c2 h.2.1) _ _ (by simp -implicitDefEqProofs (disch := omega) only [go_sem, seval, ↓reduceIte]) (by simp -implicitDefEqProofs (disch := omega) only [go_sem, seval, ↓reduceIte]) (by simp -implicitDefEqProofs (disch := omega) only [go_sem, seval, ↓reduceIte]) (by simp -implicitDefEqProofs (disch := omega) only [go_sem, seval, ↓reduceIte]) (Nat.le_refl _) fun _ _ => rfl
 have i2 : ¬ (64 : Int) < (of : Int) := by omega
 by_cases c3 : n ≤ 108
 rotate_left
 ·have i3 : (108 : Int) < (n : Int) := by omega
  simp -implicitDefEqProofs (disch := omega) only [go_sem, seval, ↓reduceIte, xA, qE, t11, t16, i1, i2, i3, false_implies, implies_true, and_false, or_false, false_or, not_false_eq_true]
  exact hbad (fun h => c3 (en ▸ h.2.2.1)) _ _ (by simp -implicitDefEqProofs (disch := omega) only [go_sem, seval, ↓reduceIte]) (by simp -implicitDefEqProofs (disch := omega) only [go_sem, seval, ↓reduceIte]) (by simp -implicitDefEqProofs (disch := omega) only [go_sem, seval, ↓reduceIte]) (by simp -implicitDefEqProofs (disch := omega) only [go_sem, seval, ↓reduceIte]) (Nat.le_refl _) fun _ _ => rfl
 have i3 : ¬ (108 : Int) < (n : Int) := by omega
 have hd3 : bAt s 18 ≤ 108 := by omega
 obtain ⟨s1, f1, p1⟩ := jI hsv.1 hby
 obtain ⟨sl, hs1, hsd⟩ := sl_19r hsv.1 hsv.2 hs c3
 have hdd : (s.drop 19).take n = xB s := by rw [en]; rfl
 rw [hdd] at hsd
 have hdl : (xB s).length ≤ 108 := by rw [datB_len hs hd3]; exact hd3
 have hdb : Byt (xB s) := (hby.drop 19).take _
 by_cases c4 : i + 1 < of
 ·have i4 : (i : Int) + 1 < (of : Int) := by omega
  by_cases c5 : n = 108
  rotate_left
  ·have i5 : ((n : Int) == 108) = false := by simp; omega
   simp -implicitDefEqProofs (disch := omega) only [go_sem, seval, ↓reduceIte, xA, qE, t11, t13, t16, i1, i2, i3, i4, i5, false_implies, implies_true, and_false, or_false, false_or, not_false_eq_true]
   exact hbad (fun h => h.2.2.2.1 ⟨c4, by omega⟩) _ _ (by simp -implicitDefEqProofs (disch := omega) only [go_sem, seval, ↓reduceIte]) (by simp -implicitDefEqProofs (disch := omega) only [go_sem, seval, ↓reduceIte]) (by simp -implicitDefEqProofs (disch := omega) only [go_sem, seval, ↓reduceIte]) (by simp -implicitDefEqProofs (disch := omega) only [go_sem, seval, ↓reduceIte]) (Nat.le_refl _) fun _ _ => rfl
  have i5 : ((n : Int) == 108) = true := by simp; omega
  have i6 : (1 : Int) < (of : Int) := by omega
  have i7 : ((n : Int) == 0) = false := by simp; omega
  simp -implicitDefEqProofs (disch := omega) only [go_sem, seval, ↓reduceIte, xA, t2, t10, t11, t13, t14, t16, i1, i2, i3, i4, i5, i6, i7, ↓cvSD, f1, hs1]
  refine qN.of (SF.foot (rpart_ok (R := qR) (W := noW) (num := num) (ep := ep) (pl := i) (of := of) hnum hep (by omega) hof hsd (fun b hb => hS b hb) hdl hdb (fun _ => trivial)) (fun _ h => h) (fun _ h => h)) ?_
  rintro r1 g1 ⟨o1, n1, k1⟩
  obtain ⟨s2, f2, p2⟩ := jI o1.lr (yT num ep i of hdb)
  have p1' : ∀ b, b ∈ s1 → b < g.n := fun b hb => (p1 b hb).2
  have p2' : ∀ b, b ∈ s2 → g.n ≤ b := fun b hb => (p2 b hb).1
  have hinj : jY s = jY (kV num ep i of (xB s)) ↔ s = kV num ep i of (xB s) := strB_inj hby (yT num ep i of hdb)
  by_cases hq : kV num ep i of (xB s) = s
  ·have hx : (decide (jY s ≠ jY (kV num ep i of (xB s)))) = false := decide_eq_false fun h => h (hinj.2 hq.symm)
   simp -implicitDefEqProofs (disch := omega) only [go_sem, seval, ↓reduceIte, ↓cvSD, f2, sb_neq, hx]
   refine ⟨by (and_intros; all_goals (intro b hb hc; simp only [noW, qR, List.not_mem_nil, and_false, false_or, or_false] at hb hc <;> omega)), ?_, hgood ⟨c1, c2, hd3, ?_, ?_, hq⟩ _ _ (by rintro j (rfl | rfl | rfl | rfl | rfl | rfl | rfl | rfl | rfl) <;> simp -implicitDefEqProofs (disch := omega) only [go_sem, seval, ↓reduceIte, reduceCtorEq]) n1 k1⟩
   ·and_intros
    all_goals (intros; first | exact hR _ | exact (by assumption : noW _).elim)
   ·omega
   ·omega
  ·have hx : (decide (jY s ≠ jY (kV num ep i of (xB s)))) = true := decide_eq_true fun h => hq (hinj.1 h).symm
   simp -implicitDefEqProofs (disch := omega) only [go_sem, seval, ↓reduceIte, ↓cvSD, f2, sb_neq, hx]
   refine ⟨by (and_intros; all_goals (intro b hb hc; simp only [noW, qR, List.not_mem_nil, and_false, false_or, or_false] at hb hc <;> omega)), ?_, hbad (fun h => hq h.2.2.2.2.2) _ _ (by simp -implicitDefEqProofs (disch := omega) only [go_sem, seval, ↓reduceIte]) (by simp -implicitDefEqProofs (disch := omega) only [go_sem, seval, ↓reduceIte]) (by simp -implicitDefEqProofs (disch := omega) only [go_sem, seval, ↓reduceIte]) (by simp -implicitDefEqProofs (disch := omega) only [go_sem, seval, ↓reduceIte]) n1 k1⟩
   and_intros
   all_goals (intros; first | exact hR _ | exact (by assumption : noW _).elim)
 have i4 : ¬ (i : Int) + 1 < (of : Int) := by omega
 by_cases c6 : 1 < of
 ·have i6 : (1 : Int) < (of : Int) := by omega
  by_cases c7 : n = 0
  ·have i7 : ((n : Int) == 0) = true := by simp; omega
   simp -implicitDefEqProofs (disch := omega) only [go_sem, seval, ↓reduceIte, xA, qE, t11, t13, t16, i1, i2, i3, i4, i6, i7, false_implies, implies_true, and_false, or_false, false_or, not_false_eq_true]
   exact hbad (fun h => h.2.2.2.2.1 ⟨c6, by omega⟩) _ _ (by simp -implicitDefEqProofs (disch := omega) only [go_sem, seval, ↓reduceIte]) (by simp -implicitDefEqProofs (disch := omega) only [go_sem, seval, ↓reduceIte]) (by simp -implicitDefEqProofs (disch := omega) only [go_sem, seval, ↓reduceIte]) (by simp -implicitDefEqProofs (disch := omega) only [go_sem, seval, ↓reduceIte]) (Nat.le_refl _) fun _ _ => rfl
  have i7 : ((n : Int) == 0) = false := by simp; omega
  simp -implicitDefEqProofs (disch := omega) only [go_sem, seval, ↓reduceIte, xA, qE, t2, t10, t11, t13, t14, t16, i1, i2, i3, i4, i6, i7, ↓cvSD, f1, hs1]
  refine qN.of (SF.foot (rpart_ok (R := qR) (W := noW) (num := num) (ep := ep) (pl := i) (of := of) hnum hep (by omega) hof hsd (fun b hb => hS b hb) hdl hdb (fun _ => trivial)) (fun _ h => h) (fun _ h => h)) ?_
  rintro r1 g1 ⟨o1, n1, k1⟩
  obtain ⟨s2, f2, p2⟩ := jI o1.lr (yT num ep i of hdb)
  have p1' : ∀ b, b ∈ s1 → b < g.n := fun b hb => (p1 b hb).2
  have p2' : ∀ b, b ∈ s2 → g.n ≤ b := fun b hb => (p2 b hb).1
  have hinj : jY s = jY (kV num ep i of (xB s)) ↔ s = kV num ep i of (xB s) := strB_inj hby (yT num ep i of hdb)
  by_cases hq : kV num ep i of (xB s) = s
  ·have hx : (decide (jY s ≠ jY (kV num ep i of (xB s)))) = false := decide_eq_false fun h => h (hinj.2 hq.symm)
   simp -implicitDefEqProofs (disch := omega) only [go_sem, seval, ↓reduceIte, ↓cvSD, f2, sb_neq, hx, false_implies, implies_true]
   refine ⟨by (and_intros; all_goals (intro b hb hc; simp only [noW, qR, List.not_mem_nil, and_false, false_or, or_false] at hb hc <;> omega)), ?_, hgood ⟨c1, c2, hd3, ?_, ?_, hq⟩ _ _ (by rintro j (rfl | rfl | rfl | rfl | rfl | rfl | rfl | rfl | rfl) <;> simp -implicitDefEqProofs (disch := omega) only [go_sem, seval, ↓reduceIte, reduceCtorEq]) n1 k1⟩
   ·and_intros
    all_goals (intros; first | exact hR _ | exact (by assumption : noW _).elim)
   ·omega
   ·omega
  ·have hx : (decide (jY s ≠ jY (kV num ep i of (xB s)))) = true := decide_eq_true fun h => hq (hinj.1 h).symm
   simp -implicitDefEqProofs (disch := omega) only [go_sem, seval, ↓reduceIte, ↓cvSD, f2, sb_neq, hx, false_implies, implies_true]
   refine ⟨by (and_intros; all_goals (intro b hb hc; simp only [noW, qR, List.not_mem_nil, and_false, false_or, or_false] at hb hc <;> omega)), ?_, hbad (fun h => hq h.2.2.2.2.2) _ _ (by simp -implicitDefEqProofs (disch := omega) only [go_sem, seval, ↓reduceIte]) (by simp -implicitDefEqProofs (disch := omega) only [go_sem, seval, ↓reduceIte]) (by simp -implicitDefEqProofs (disch := omega) only [go_sem, seval, ↓reduceIte]) (by simp -implicitDefEqProofs (disch := omega) only [go_sem, seval, ↓reduceIte]) n1 k1⟩
   and_intros
   all_goals (intros; first | exact hR _ | exact (by assumption : noW _).elim)
 have i6 : ¬ (1 : Int) < (of : Int) := by omega
 simp -implicitDefEqProofs (disch := omega) only [go_sem, seval, ↓reduceIte, xA, qE, t2, t10, t11, t13, t14, t16, i1, i2, i3, i4, i6, ↓cvSD, f1, hs1]
 refine qN.of (SF.foot (rpart_ok (R := qR) (W := noW) (num := num) (ep := ep) (pl := i) (of := of) hnum hep (by omega) hof hsd (fun b hb => hS b hb) hdl hdb (fun _ => trivial)) (fun _ h => h) (fun _ h => h)) ?_
 rintro r1 g1 ⟨o1, n1, k1⟩
 obtain ⟨s2, f2, p2⟩ := jI o1.lr (yT num ep i of hdb)
 have p1' : ∀ b, b ∈ s1 → b < g.n := fun b hb => (p1 b hb).2
 have p2' : ∀ b, b ∈ s2 → g.n ≤ b := fun b hb => (p2 b hb).1
 have hinj : jY s = jY (kV num ep i of (xB s)) ↔ s = kV num ep i of (xB s) := strB_inj hby (yT num ep i of hdb)
 by_cases hq : kV num ep i of (xB s) = s
 ·have hx : (decide (jY s ≠ jY (kV num ep i of (xB s)))) = false := decide_eq_false fun h => h (hinj.2 hq.symm)
  simp -implicitDefEqProofs (disch := omega) only [go_sem, seval, ↓reduceIte, ↓cvSD, f2, sb_neq, hx, false_implies, implies_true]
  refine ⟨by (and_intros; all_goals (intro b hb hc; simp only [noW, qR, List.not_mem_nil, and_false, false_or, or_false] at hb hc <;> omega)), ?_, hgood ⟨c1, c2, hd3, ?_, ?_, hq⟩ _ _ (by rintro j (rfl | rfl | rfl | rfl | rfl | rfl | rfl | rfl | rfl) <;> simp -implicitDefEqProofs (disch := omega) only [go_sem, seval, ↓reduceIte, reduceCtorEq]) n1 k1⟩
  ·and_intros
   all_goals (intros; first | exact hR _ | exact (by assumption : noW _).elim)
  ·omega
  ·omega
 ·have hx : (decide (jY s ≠ jY (kV num ep i of (xB s)))) = true := decide_eq_true fun h => hq (hinj.1 h).symm
  simp -implicitDefEqProofs (disch := omega) only [go_sem, seval, ↓reduceIte, ↓cvSD, f2, sb_neq, hx, false_implies, implies_true]
  refine ⟨by (and_intros; all_goals (intro b hb hc; simp only [noW, qR, List.not_mem_nil, and_false, false_or, or_false] at hb hc <;> omega)), ?_, hbad (fun h => hq h.2.2.2.2.2) _ _ (by simp -implicitDefEqProofs (disch := omega) only [go_sem, seval, ↓reduceIte]) (by simp -implicitDefEqProofs (disch := omega) only [go_sem, seval, ↓reduceIte]) (by simp -implicitDefEqProofs (disch := omega) only [go_sem, seval, ↓reduceIte]) (by simp -implicitDefEqProofs (disch := omega) only [go_sem, seval, ↓reduceIte]) n1 k1⟩
  and_intros
  all_goals (intros; first | exact hR _ | exact (by assumption : noW _).elim)
end Go.Proofs.Ytakgjjbmniilhaa
set_option maxRecDepth 100000
set_option linter.unusedVariables false
namespace Go.Proofs.Ytakgjjbmniilhaa
open Go Go.Vm
attribute [-go_sem] qQ
variable {D : DS} {fr ct : Nat}
theorem seen_write (D : DS) (s : Nat) (l : List V) (x : Nat) : (D.write s l).seen x = if x = s then l else D.seen x := by
 unfold DS.seen DS.write
 simp only
 by_cases h : x = s
 ·rw [if_pos h, if_pos h]; simp
 ·rw [if_neg h, if_neg h]
theorem seen_flush (D : DS) (a m x : Nat) : (D.flush a m).seen x = D.seen x := by
 by_cases h : a ≤ x ∧ x < a + m
 ·unfold DS.seen DS.flush
  simp only [if_pos h, List.getLast?_nil]
  rfl
 ·unfold DS.seen DS.flush
  simp only [if_neg h]
theorem seen_new (n x : Nat) : (DS.new n).seen x = zB 128 := by
 have : (DS.new n).seen x = jD := rfl
 rw [this, ze_eq, zA]; rfl
def Few (D : DS) (k : Nat) : Prop := ∀ s, (D.pe s).length ≤ k
theorem Few.write {k s : Nat} {l : List V} (h : Few D k) : Few (D.write s l) (k + 1) := fun x => by
 unfold DS.write
 simp only
 split
 ·rw [List.length_append]; have := h s; simp; omega
 ·have := h x; omega
theorem Few.flush {k a m : Nat} (h : Few D k) : Few (D.flush a m) k := fun x => by
 unfold DS.flush
 simp only
 split
 ·simp
 ·exact h x
theorem few_new (n : Nat) : Few (DS.new n) 0 := fun s => Nat.le_refl _
theorem Few.lt {k : Nat} (h : Few D k) (hk : k < 1000000000) : ∀ s, (D.pe s).length < 1000000000 := fun s => Nat.lt_of_le_of_lt (h s) hk
theorem few_app {k : Nat} {G : LgS} {l : List V} {n : Nat} (h : Few D k) : ∀ j, Few (appW D fr ct G l n j) (k + j)
 | 0 => h
 | j + 1 => (few_app h j).write
def BlankS (D : DS) (fr ct : Nat) : Prop := ∀ s, fr ≤ s → s < fr + ct → D.seen s = zB 128
theorem blank_new (n fr ct : Nat) : BlankS (DS.new n) fr ct := fun s _ _ => seen_new n s
theorem few_lay {k : Nat} {H : Hd} (h : Few D k) : Few (layD D fr ct H) (k + 1) := h.write.flush
theorem recA_zero : jT (zB 128) = none := by
 unfold jT
 refine if_neg fun h => ?_
 have : bAt (zB 128) 17 = 0 := by decide
 have h2 := h.1.2.1
 omega
def H1 : Hd := ⟨1, 0, 0, 0, 1⟩
def G1 : LgS := ⟨H1, 1, 0, 0, [], []⟩
theorem whichS_zero (n i : Nat) (o : Hd) : zW n i (zB 128) o = some o := by unfold zW; rw [if_pos rfl]
theorem half_lt {ct i : Nat} {ha : Nat} (hha : ha < 2) (hi : i < (ct - 2) / 2) : ha * ((ct - 2) / 2) + i < 2 * ((ct - 2) / 2) := by
 have : ha = 0 ∨ ha = 1 := by omega
 rcases this with e | e <;> rw [e] <;> omega
theorem open_blank (hb : BlankS D fr ct) (hc : 16 ≤ ct) : openA D fr ct = some (layD D fr ct H1, G1) := by
 unfold openA
 rw [hb fr (by omega) (by omega), hb (fr + 1) (by omega) (by omega)]
 have hw : jZ ((ct - 2) / 2) (zB 128) (zB 128) = some h00 := by
  unfold jZ; rw [whichS_zero ((ct - 2) / 2) 0 h00]; exact whichS_zero ((ct - 2) / 2) 1 h00
 rw [hw, Option.map_some]
 have hs : qL h00.sz = 0 := rfl
 have hl : zX D fr ct h00 = ([], 0, 1) := by
  unfold zX
  rw [hs, show (ct - 2) / 2 - 0 = ((ct - 2) / 2 - 1) + 1 by omega, jU]
  have : zH D fr ct h00.ha 0 = zB 128 := hb _ (by omega) (by show fr + 2 + 0 * _ + 0 < _; omega)
  rw [this, recA_zero]; rfl
 rw [hl]
 rfl
theorem okH1 : H1.Ok := ⟨by decide, by decide, by decide, by decide, by decide, by decide⟩
theorem mayH1 (n : Nat) : mayH n 1 H1 := ⟨by decide, by decide, by decide, by decide, Nat.zero_le _⟩
end Go.Proofs.Ytakgjjbmniilhaa
