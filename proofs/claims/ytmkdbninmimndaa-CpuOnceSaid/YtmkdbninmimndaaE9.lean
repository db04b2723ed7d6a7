/- The document's step: its state. -/
import Derived.Test.YtmkdbninmimndaaE8
set_option linter.unusedVariables false
set_option maxRecDepth 100000
namespace Go.Proofs.Ytmkdbninmimndaa
open Go Go.Vm
theorem ir28_r0_eq : ir28_r0 = .seq ir28_s0 ir28_r1 := rfl
theorem ir28_r1_eq : ir28_r1 = .seq ir28_s1 ir28_r2 := rfl
theorem ir28_r2_eq : ir28_r2 = .seq ir28_s2 ir28_r3 := rfl
theorem ir28_r3_eq : ir28_r3 = .seq ir28_s3 ir28_r4 := rfl
theorem ir28_r4_eq : ir28_r4 = .seq ir28_s4 ir28_r5 := rfl
theorem ir28_r5_eq : ir28_r5 = .seq ir28_s5 ir28_r6 := rfl
theorem ir28_r6_eq : ir28_r6 = .seq ir28_s6 ir28_r7 := rfl
theorem ir28_r7_eq : ir28_r7 = .seq ir28_s7 ir28_r8 := rfl
theorem ir28_r8_eq : ir28_r8 = .seq ir28_s8 ir28_r9 := rfl
theorem ir28_r9_eq : ir28_r9 = .seq ir28_s9 ir28_r10 := rfl
theorem ir28_r10_eq : ir28_r10 = .seq ir28_s10 ir28_r11 := rfl
theorem ir28_r11_eq : ir28_r11 = .seq ir28_s11 ir28_r12 := rfl
theorem ir28_r12_eq : ir28_r12 = .seq ir28_s12 ir28_r13 := rfl
theorem ir28_chain : ir28 = ir28_r0 := rfl
structure SC (c : Blk) (rs : Regs) (pc : BitVec 32) : Prop where
  size : c.size = 17
  ro : c.ro = false
  reg : ∀ k, k < 16 → c.get k = U (rs k)
  pc : c.get 16 = U pc
theorem SC.setR {c : Blk} {rs : Regs} {pc : BitVec 32} (hc : SC c rs pc) {d : Nat} (hd : d < 16) (v : BitVec 32) : SC (c.set d (U v)) (setR rs d v) pc :=
  ⟨by rw [Blk.size_set]; exact hc.size, by rw [Blk.ro_set]; exact hc.ro, fun k hk => by
    rw [Blk.get_set]; unfold Ytmkdbninmimndaa.setR
    by_cases e : k = d
    · rw [if_pos e, if_pos e]
    · rw [if_neg e, if_neg e]; exact hc.reg k hk, by rw [Blk.get_set, if_neg (by omega)]; exact hc.pc⟩
theorem set_e {h : Heap} {xp : Nat} {c c' : Blk} {e0 : TypeId} (hx : h.get xp = some (.cells c e0)) : ∀ b d e, e ≠ e0 → h.get b = some (.cells d e) → (h.set xp (.cells c' e0)).get b = some (.cells d e) := fun b d e he hb => by
  have : b ≠ xp := fun e' => by rw [e', hx] at hb; simp at hb; exact he hb.2.symm
  rw [w_set_ne (Heap.lt_of_get hx) this]; exact hb
def RM (h : Heap) (rm n1 : Nat) (vB vr : V) (L : List V) : Prop := MemAt h rm vB vr ∧ Own n1 h vB L 5
theorem RM.keep {h h' : Heap} {rm n1 : Nat} {vB vr : V} {L : List V} (hr : RM h rm n1 vB vr L) (hk : ∀ b d e, e ≠ 28 → e ≠ 38 → e ≠ 50 → h.get b = some (.cells d e) → h'.get b = some (.cells d e)) : RM h' rm n1 vB vr L := by
  obtain ⟨⟨c, c1, c2⟩, ho⟩ := hr
  exact ⟨⟨c, hk rm c 46 (by decide) (by decide) (by decide) c1, c2⟩, ho.keep fun b c hb => hk b c 5 (by decide) (by decide) (by decide) hb⟩
def RStepQ (h0 : Heap) (rm n1 : Nat) (vB vr : V) (L0 : List V) (rs0 : Regs) (pc0 : BitVec 32) (o : Out) (v : V) (h' : Heap) : Prop :=
  match o with
  | .go rs pc L => v = .tuple [stateV rs pc, stopV 0 0 0 0 0] ∧ RM h' rm n1 vB vr L
  | .stop k c a n => v = .tuple [stateV rs0 pc0, stopV k c a n 0] ∧ RM h' rm n1 vB vr L0
theorem get_put17 {c : Blk} (hs : c.size = 17) (l : List V) (hl : l.length = 17) (j : Nat) (hj : j < 17) : (c.putA 0 l).get j = l.getD j undefV := by
  rw [Blk.get_putA l c 0 j (by omega), if_pos (by omega), Nat.sub_zero]
variable {h0 g : Heap} {sp rm n1 : Nat} {vB vr : V} {L0 L : List V} {rs0 rs : Regs} {pc0 pc pc' : BitVec 32} {W : Set'} {tr : Tr V}
set_option maxHeartbeats 4000000 in
theorem tail28 {c c4 c5 : Blk} {k4 k5 : Nat} (hx : g.get sp = some (.cells c 28)) (hc : SC c rs pc) (h4 : g.get k4 = some (.cells c4 28)) (hc4 : c4.size = 17 ∧ c4.ro = false) (h5 : g.get k5 = some (.cells c5 38)) (hc5 : c5.size = 5 ∧ c5.ro = false) (ne : sp ≠ k4 ∧ sp ≠ k5 ∧ k4 ≠ k5) (hr' : RM g rm n1 vB vr L) (hW : W sp ∧ W k4 ∧ W k5)
    (t2 : tr.get 2 = some (.ptr (some (sp, 0)))) (t4 : tr.get 4 = some (.ptr (some (k4, 0)))) (t5 : tr.get 5 = some (.ptr (some (k5, 0)))) (t14 : tr.get 14 = some (U pc')) :
    GO (Try.prog : MP) (fun _ => True) W none (Vm.Fin (Try.prog : MP) (fun _ => True) W [ResultVar.cell 4 28, ResultVar.cell 5 38] (RStepQ h0 rm n1 vB vr L0 rs0 pc0 (.go rs pc' L))) [.code ir28_r11] ⟨⟨297, tr⟩, []⟩ g := by
  have hs := hc.size; have hr := hc.ro
  obtain ⟨e1, e2, e3⟩ := ne
  obtain ⟨w1, w2, w3⟩ := hW
  obtain ⟨s4, r4⟩ := hc4
  obtain ⟨s5, r5⟩ := hc5
  have a0 := hc.reg 0 (by omega); have a1 := hc.reg 1 (by omega); have a2 := hc.reg 2 (by omega); have a3 := hc.reg 3 (by omega)
  have a4 := hc.reg 4 (by omega); have a5 := hc.reg 5 (by omega); have a6 := hc.reg 6 (by omega); have a7 := hc.reg 7 (by omega)
  have a8 := hc.reg 8 (by omega); have a9 := hc.reg 9 (by omega); have a10 := hc.reg 10 (by omega); have a11 := hc.reg 11 (by omega)
  have a12 := hc.reg 12 (by omega); have a13 := hc.reg 13 (by omega); have a14 := hc.reg 14 (by omega); have a15 := hc.reg 15 (by omega)
  have l1 := Heap.lt_of_get hx; have l4 := Heap.lt_of_get h4; have l5 := Heap.lt_of_get h5
  simp -implicitDefEqProofs (disch := (first | omega | (simp -implicitDefEqProofs only [szs, ne_eq] <;> omega) | fail)) only [go_sem, seval, ↓reduceIte, ir28_r11_eq, ir28_s11, ir28_r12_eq, ir28_s12, ir28_r13, ir28_s13, undefV, t2, t4, t5, t14, hx, hs, hr, h4, s4, r4, h5, s5, r5, w1, w2, w3, a0, a1, a2, a3, a4, a5, a6, a7, a8, a9, a10, a11, a12, a13, a14, a15]
  have hp : ∀ j, j < 17 → (c4.putA 0 [U (rs 0), U (rs 1), U (rs 2), U (rs 3), U (rs 4), U (rs 5), U (rs 6), U (rs 7), U (rs 8), U (rs 9), U (rs 10), U (rs 11), U (rs 12), U (rs 13), U (rs 14), U (rs 15), U pc']).get j = [U (rs 0), U (rs 1), U (rs 2), U (rs 3), U (rs 4), U (rs 5), U (rs 6), U (rs 7), U (rs 8), U (rs 9), U (rs 10), U (rs 11), U (rs 12), U (rs 13), U (rs 14), U (rs 15), U pc'].getD j undefV := fun j hj => get_put17 s4 _ rfl j hj
  rw [hp 0 (by omega), hp 1 (by omega), hp 2 (by omega), hp 3 (by omega), hp 4 (by omega), hp 5 (by omega), hp 6 (by omega), hp 7 (by omega), hp 8 (by omega), hp 9 (by omega), hp 10 (by omega), hp 11 (by omega), hp 12 (by omega), hp 13 (by omega), hp 14 (by omega), hp 15 (by omega), hp 16 (by omega)]
  have y1 : ∀ o, (g.set sp o).get k4 = some (.cells c4 28) := fun o => by rw [w_set_ne l1 e1.symm]; exact h4
  have y2 : ∀ o o', ((g.set sp o).set k4 o').get k5 = some (.cells c5 38) := fun o o' => by rw [w_set_ne (by simpa using l4) e3.symm, w_set_ne l1 e2.symm]; exact h5
  refine ⟨rfl, hr'.keep fun b d e n1 n2 n3 hb => ?_⟩
  exact set_e (y2 _ _) b d e n2 (set_e (y1 _) b d e n1 (set_e hx b d e n1 hb))
end Go.Proofs.Ytmkdbninmimndaa
