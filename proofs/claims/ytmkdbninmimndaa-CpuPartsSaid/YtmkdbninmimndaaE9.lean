/- The document's step: its state. -/
import Derived.Test.YtmkdbninmimndaaE8
set_option linter.unusedVariables false
set_option maxRecDepth 100000
namespace Go.Proofs.Ytmkdbninmimndaa
open Go Go.Vm
structure SC (c : Blk) (rs : Regs) (pc : BitVec 32) : Prop where
  size : c.size = 17
  ro : c.ro = false
  reg : ∀ k, k < 16 → c.get k = U (rs k)
  pc : c.get 16 = U pc
theorem SC.setR {c : Blk} {rs : Regs} {pc : BitVec 32} (hc : SC c rs pc) {d : Nat} (hd : d < 16) (v : BitVec 32) : SC (c.set d (U v)) (setR rs d v) pc :=
  ⟨by rw [Blk.size_set]; exact hc.size, by rw [Blk.ro_set]; exact hc.ro, fun k hk => by
    rw [Blk.get_set]; unfold Ytmkdbninmimndaa.setR
    by_cases e : k = d
    · rw [if_pos e, if_pos e]
    · rw [if_neg e, if_neg e]; exact hc.reg k hk, by rw [Blk.get_set, if_neg (by omega)]; exact hc.pc⟩
theorem set_e {h : Heap} {xp : Nat} {c c' : Blk} {e0 : TypeId} (hx : h.get xp = some (.cells c e0)) : ∀ b d e, e ≠ e0 → h.get b = some (.cells d e) → (h.set xp (.cells c' e0)).get b = some (.cells d e) := fun b d e he hb => by
  have : b ≠ xp := fun e' => by rw [e', hx] at hb; simp at hb; exact he hb.2.symm
  rw [w_set_ne (Heap.lt_of_get hx) this]; exact hb
def RM (h : Heap) (rm n1 : Nat) (vB vr : V) (L : List V) : Prop := MemAt h rm vB vr ∧ Own n1 h vB L 5
theorem RM.keep {h h' : Heap} {rm n1 : Nat} {vB vr : V} {L : List V} (hr : RM h rm n1 vB vr L) (hk : ∀ b d e, e ≠ 28 → e ≠ 38 → e ≠ 50 → h.get b = some (.cells d e) → h'.get b = some (.cells d e)) : RM h' rm n1 vB vr L := by
  obtain ⟨⟨c, c1, c2⟩, ho⟩ := hr
  exact ⟨⟨c, hk rm c 46 (by decide) (by decide) (by decide) c1, c2⟩, ho.keep fun b c hb => hk b c 5 (by decide) (by decide) (by decide) hb⟩
theorem get_put17 {c : Blk} (hs : c.size = 17) (l : List V) (hl : l.length = 17) (j : Nat) (hj : j < 17) : (c.putA 0 l).get j = l.getD j undefV := by
  rw [Blk.get_putA l c 0 j (by omega), if_pos (by omega), Nat.sub_zero]
variable {h0 g : Heap} {sp rm n1 : Nat} {vB vr : V} {L0 L : List V} {rs0 rs : Regs} {pc0 pc pc' : BitVec 32} {W : Set'} {tr : Tr V}
end Go.Proofs.Ytmkdbninmimndaa
