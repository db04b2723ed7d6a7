/- The document's Step, whole. -/
import Derived.Test.YtmkdbninmimndaaED
set_option linter.unusedVariables false
set_option maxRecDepth 100000
namespace Go.Proofs.Ytmkdbninmimndaa
open Go Go.Vm
abbrev regs17 (rs : Regs) (pc : BitVec 32) : List V := [U (rs 0), U (rs 1), U (rs 2), U (rs 3), U (rs 4), U (rs 5), U (rs 6), U (rs 7), U (rs 8), U (rs 9), U (rs 10), U (rs 11), U (rs 12), U (rs 13), U (rs 14), U (rs 15), U pc]
theorem SC.of (rs : Regs) (pc : BitVec 32) : SC (Blk.of (regs17 rs pc)) rs pc :=
  ⟨rfl, rfl, fun k hk => by
    rcases (show k = 0 ∨ k = 1 ∨ k = 2 ∨ k = 3 ∨ k = 4 ∨ k = 5 ∨ k = 6 ∨ k = 7 ∨ k = 8 ∨ k = 9 ∨ k = 10 ∨ k = 11 ∨ k = 12 ∨ k = 13 ∨ k = 14 ∨ k = 15 by omega) with rfl | rfl | rfl | rfl | rfl | rfl | rfl | rfl | rfl | rfl | rfl | rfl | rfl | rfl | rfl | rfl <;> rfl, rfl⟩
variable {rm n1 : Nat} {vB vr : V} {L Q : List V} {q : Nat → Int} {rs : Regs} {pc : BitVec 32}
set_option maxHeartbeats 4000000 in
theorem rstep28_ok {h : Heap} (hmem : RM h rm n1 vB vr L) (rig : LV h vr Q ∧ L.length = Q.length * 256 ∧ Q.length ≤ 32 ∧ (∀ i, i < Q.length → Q[i]? = some (.int .i64 (q i))) ∧ BytL L) (lt : n1 ≤ h.n) :
    SF (Try.prog : MP) 28 [stateV rs pc, .ptr (some (rm, 0))] h (fun _ => True) (fun b => b = sblk vB ∧ n1 ≤ b) (RStepQ h rm n1 vB vr L rs pc (stepO q L rs pc)) := by
  rw [show stateV rs pc = .agg (regs17 rs pc) from rfl]
  refine SF.go hm Try.func28 ir28_eq ?_
  rw [ir28_chain]
  simp -implicitDefEqProofs (disch := (first | omega | fail)) only [go_sem, seval, ↓reduceIte, reduceCtorEq, ir28_r0_eq, ir28_s0]
  obtain ⟨g, hg⟩ : ∃ g, g = ((h.push (.cells (Blk.of (regs17 rs pc)) 28)).push (.cells (Blk.of [.int .u32 0, .int .u32 0, .int .u32 0, .int .u32 0, .int .u32 0, .int .u32 0, .int .u32 0, .int .u32 0, .int .u32 0, .int .u32 0, .int .u32 0, .int .u32 0, .int .u32 0, .int .u32 0, .int .u32 0, .int .u32 0, .int .u32 0]) 28)).push (.cells (Blk.of [.int .i64 0, .int .i64 0, .int .u32 0, .int .i64 0, .int .i64 0]) 38) := ⟨_, rfl⟩
  rw [← hg]
  have hn : g.n = h.n + 3 := by rw [hg]; simp
  have old : ∀ b, b < h.n → g.get b = h.get b := fun b hb => by
    rw [hg, w_push_ne (by simp; omega), w_push_ne (by simp; omega), w_push_ne (by omega)]
  have x0 : g.get h.n = some (.cells (Blk.of (regs17 rs pc)) 28) := by rw [hg, w_push_ne (by simp only [Heap.n_push]; omega), w_push_ne (by simp only [Heap.n_push]; omega)]; exact w_push_eq rfl _
  have x1 : g.get (h.n + 1) = some (.cells (Blk.of [.int .u32 0, .int .u32 0, .int .u32 0, .int .u32 0, .int .u32 0, .int .u32 0, .int .u32 0, .int .u32 0, .int .u32 0, .int .u32 0, .int .u32 0, .int .u32 0, .int .u32 0, .int .u32 0, .int .u32 0, .int .u32 0, .int .u32 0]) 28) := by rw [hg, w_push_ne (by simp)]; exact w_push_eq (by simp) _
  have x2 : g.get (h.n + 1 + 1) = some (.cells (Blk.of [.int .i64 0, .int .i64 0, .int .u32 0, .int .i64 0, .int .i64 0]) 38) := by rw [hg]; exact w_push_eq (by simp) _
  clear hg
  exact pre28 (q := q) x0 (SC.of rs pc) x1 ⟨rfl, rfl⟩ x2 ⟨rfl, rfl⟩ ⟨by omega, by omega, by omega⟩ (hmem.keep fun b d e _ _ _ hb => (old b (Heap.lt_of_get hb)).trans hb) ⟨rig.1.old old, rig.2⟩ ⟨.inl (by omega), .inl (by omega), .inl (by omega)⟩ (fun b hb hn => .inr ⟨hb, hn⟩) (fun b hb => .inl (by omega)) (by omega) (by simp -implicitDefEqProofs (disch := (first | omega | fail)) only [go_sem, seval, ↓reduceIte, reduceCtorEq]) (by simp -implicitDefEqProofs (disch := (first | omega | fail)) only [go_sem, seval, ↓reduceIte, reduceCtorEq]) (by simp -implicitDefEqProofs (disch := (first | omega | fail)) only [go_sem, seval, ↓reduceIte, reduceCtorEq]) (by simp -implicitDefEqProofs (disch := (first | omega | fail)) only [go_sem, seval, ↓reduceIte, reduceCtorEq])
end Go.Proofs.Ytmkdbninmimndaa
