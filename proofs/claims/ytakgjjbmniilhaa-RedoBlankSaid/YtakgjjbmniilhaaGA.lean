/- The log: which head counts; what a log is in memory. -/
import Derived.Test.YtakgjjbmniilhaaG
set_option linter.unusedVariables false
set_option linter.unusedSimpArgs false
set_option linter.unusedSimpArgs false
set_option maxRecDepth 100000
set_option linter.unusedVariables false
set_option linter.unusedSimpArgs false
namespace Go.Proofs.Ytakgjjbmniilhaa
open Go Go.Vm
attribute [-go_sem] sz_101
variable {h g : Heap} {R W M : Set'} {bd lp fr ct : Nat} {D : DS}
set_option maxHeartbeats 8000000 in
theorem which_ok (hx : DkX h M bd D) (hl : LogC h lp bd fr ct) (hc : 16 ≤ ct ∧ fr + ct ≤ D.n) (hR : ∀ b, R b) : SF Try.prog 34 [.ptr (some (lp, 0))] h R W fun r g => ∃ H : Hd, H.Lt ∧ r = .tuple [.agg H.v, .bool (whichA ((ct - 2) / 2) (D.seen fr) (D.seen (fr + 1))).isSome] ∧ (∀ H', whichA ((ct - 2) / 2) (D.seen fr) (D.seen (fr + 1)) = some H' → H' = H) ∧ h.n ≤ g.n ∧ ∀ k, k < h.n → g.get k = h.get k := by
  have hpos := hx.pos
  have hlp : lp < h.n := by obtain ⟨c, h1, _⟩ := hl; exact Heap.lt_of_get h1
  refine SF.go hm Try.func34 ir34_eq ?_
  simp -implicitDefEqProofs (disch := (first | omega | (simp -implicitDefEqProofs only [szs, ne_eq] <;> omega) | fail)) only [go_sem, seval, ↓reduceIte, reduceCtorEq, ir34, undefV]
  have lq0 : LogC (h.push (.cells (Blk.of [.int .u64 0, .int .u64 0, .int .u64 0, .int .u64 0, .int .u64 0]) 44)) lp bd fr ct := hl.old fun k hk => w_push_ne (by omega) _
  obtain ⟨h0, e0⟩ : ∃ h0, h0 = ((h.push (.cells (Blk.of [.int .u64 0, .int .u64 0, .int .u64 0, .int .u64 0, .int .u64 0]) 44)).push (.cells (Blk.of [.int .u64 0, .int .u64 0, .int .u64 0, .int .u64 0, .int .u64 0]) 44)).set (h.n + 1) (.cells ((((((Blk.of [.int .u64 0, .int .u64 0, .int .u64 0, .int .u64 0, .int .u64 0]).set 0 (.int .u64 0)).set 1 (.int .u64 0)).set 2 (.int .u64 0)).set 3 (.int .u64 0)).set 4 (.int .u64 1)) 44) := ⟨_, rfl⟩
  rw [← e0]
  have n0 : h0.n = h.n + 2 := by rw [e0]; simp
  have k0 : ∀ k, k < h.n → h0.get k = h.get k := fun k hk => by rw [e0, w_set_ne (by simp) (by omega), w_push_ne (by simp; omega), w_push_ne (by omega)]
  have z0 : h0.get h.n = some (.cells (Blk.of [.int .u64 0, .int .u64 0, .int .u64 0, .int .u64 0, .int .u64 0]) 44) := by rw [e0, w_set_ne (by simp) (by omega), w_push_ne (by simp)]; exact w_push_eq rfl _
  have o0 : ∃ c, h0.get (h.n + 1) = some (.cells c 44) ∧ c.size = 5 ∧ c.ro = false ∧ c.gets 0 5 = h00.v := by
    refine ⟨_, by rw [e0]; exact w_set_eq (by simp) rfl _, rfl, rfl, gets5 fun j hj => ?_⟩
    simp only [Blk.get_set]
    have hh : j = 0 ∨ j = 1 ∨ j = 2 ∨ j = 3 ∨ j = 4 := by omega
    rcases hh with rfl | rfl | rfl | rfl | rfl <;> rfl
  clear e0 lq0
  obtain ⟨co, o1, o2, o3, o4⟩ := o0
  refine GCall.of (halves_ok (hl.old k0) ⟨by omega, by omega⟩ (by omega) (fun b => .inr (hR b))) ?_
  rintro r h1 ⟨rfl, n1, k1⟩
  simp -implicitDefEqProofs (disch := (first | omega | (simp -implicitDefEqProofs only [szs, ne_eq] <;> omega) | fail)) only [go_sem, seval, ↓reduceIte, reduceCtorEq, undefV]
  obtain ⟨h2, e2⟩ : ∃ h2, h2 = (h1.push (.cells (Blk.of [.int .i64 0, .int .i64 0]) 86)).set h1.n (.cells (((Blk.of [.int .i64 0, .int .i64 0]).set 0 (.int .i64 ((fr + 2 : Nat) : Int))).set 1 (.int .i64 ((fr + 2 + (ct - 2) / 2 : Nat) : Int))) 86) := ⟨_, rfl⟩
  rw [← e2]
  have n2 : h2.n = h1.n + 1 := by rw [e2]; simp
  have k2 : ∀ k, k < h1.n → h2.get k = h1.get k := fun k hk => by rw [e2, w_set_ne (by simp) (by omega), w_push_ne (by omega)]
  clear e2
  have kk : ∀ k, k < h.n → h2.get k = h.get k := fun k hk => by rw [k2 k (by omega), k1 k (by omega), k0 k hk]
  have z2 := (k2 h.n (by omega)).trans ((k1 h.n (by omega)).trans z0)
  have o5 := (k2 (h.n + 1) (by omega)).trans ((k1 (h.n + 1) (by omega)).trans o1)
  refine ⟨.inl (by omega), ?_⟩
  refine which_loop (R := fun b => h.n ≤ b ∨ R b) (W := fun b => h.n ≤ b ∨ W b) (M := M) (D := D) (ob := h.n + 1) (zb := h.n) (bd := bd) (fr := fr) (ct := ct) (lp := lp) (hx.old (by omega) kk) (hl.old kk) hc (fun b => .inr (hR b)) (.inl (by omega)) (.inl (Nat.le_refl _)) (fun b hb => .inl (by omega)) ⟨by omega, by omega, by omega⟩ (fun k hk => by have : k < h.n := hk.elim (hx.lt k) (fun h => h ▸ hlp); omega) ?_ ?_ ?_ ?_ ?_ ⟨Nat.le_refl _, fun _ _ _ _ => rfl, ⟨co, o5, o2, o3, o4⟩, ⟨_, z2, rfl, rfl⟩⟩ ?_ ?_
  · simp -implicitDefEqProofs (disch := (first | omega | (simp -implicitDefEqProofs only [szs, ne_eq] <;> omega) | fail)) only [go_sem, seval, ↓reduceIte, reduceCtorEq]
  · simp -implicitDefEqProofs (disch := (first | omega | (simp -implicitDefEqProofs only [szs, ne_eq] <;> omega) | fail)) only [go_sem, seval, ↓reduceIte, reduceCtorEq]
  · simp -implicitDefEqProofs (disch := (first | omega | (simp -implicitDefEqProofs only [szs, ne_eq] <;> omega) | fail)) only [go_sem, seval, ↓reduceIte, reduceCtorEq]
  · simp -implicitDefEqProofs (disch := (first | omega | (simp -implicitDefEqProofs only [szs, ne_eq] <;> omega) | fail)) only [go_sem, seval, ↓reduceIte, reduceCtorEq]
  · simp -implicitDefEqProofs (disch := (first | omega | (simp -implicitDefEqProofs only [szs, ne_eq] <;> omega) | fail)) only [go_sem, seval, ↓reduceIte, reduceCtorEq]
  · rintro tr g H hw hLt t2 t4 ⟨gn, gk, ⟨c4, d1, d2, d3, d4⟩, ⟨c5, d5, d6, d7⟩⟩
    have hvl : H.v.length = 5 := rfl
    have hone : allOne H.v = true := rfl
    have hRo := hR (h.n + 1)
    have hput : (c5.puts 0 H.v).gets 0 5 = H.v := gets5 fun j hj => by
      rw [Blk.get_puts, if_pos ⟨by omega, by rw [hvl]; omega⟩, Nat.sub_zero]
    have hputs : (c5.puts 0 H.v).size = 5 := by rw [Blk.size_puts]; exact d6
    have hz := Heap.lt_of_get d5
    rw [whichI_2] at hw
    simp -implicitDefEqProofs (disch := (first | omega | (simp -implicitDefEqProofs only [szs, ne_eq] <;> omega) | fail)) only [go_sem, seval, ↓reduceIte, reduceCtorEq, t2, t4, d1, d2, d4, d5, d6, d7, hRo, hvl, hone, hputs, hput, hz]
    refine ⟨H, hLt, ?_, fun H' h => ?_, by omega, fun k hk => by rw [w_set_ne hz (by omega), gk k (by omega) (by omega) (by omega), kk k hk]⟩
    · have := hw
      simp only [Nat.add_zero] at this
      rw [this]; rfl
    · have := hw
      simp only [Nat.add_zero] at this
      rw [this] at h
      exact (Option.some.inj h).symm
  · rintro tr g hw t2 t3 ⟨H, gn, gk, _, _⟩ ⟨c5, d5, d6, d7⟩
    rw [whichI_2] at hw
    simp -implicitDefEqProofs (disch := (first | omega | (simp -implicitDefEqProofs only [szs, ne_eq] <;> omega) | fail)) only [go_sem, seval, ↓reduceIte, reduceCtorEq, t2, t3, d5, d6, d7]
    have := hw
    simp only [Nat.add_zero] at this
    rw [this]
    exact ⟨Hd.zero, ⟨by decide, by decide, by decide, by decide, by decide⟩, rfl, (fun H' h => by cases h), by omega, fun k hk => by rw [gk k (by omega) (by omega) (by omega), kk k hk]⟩
end Go.Proofs.Ytakgjjbmniilhaa
