/- A step of the program, op by op. -/
import Derived.Test.YtmkdbninmimndaaCh27
set_option linter.unusedVariables false
set_option maxRecDepth 100000
namespace Go.Proofs.Ytmkdbninmimndaa
open Go Go.Vm
theorem i_im (m : Int) : IntKind.u32.wrap (IntKind.i32.wrap m) = ((imW m).toNat : Int) := by
  rw [u32_wrap]
  congr 1
  congr 1
  unfold imW
  apply BitVec.eq_of_toInt_eq
  rw [BitVec.toInt_ofInt, BitVec.toInt_ofInt]
  have : IntKind.i32.wrap m = m.bmod (2 ^ 32) := by
    rw [show (2 ^ 32 : Nat) = 4294967296 from rfl]
    simp only [IntKind.wrap, IntKind.signed, IntKind.bits, Int.bmod]
    simp
    split <;> split <;> omega
  rw [this, Int.bmod_bmod]
theorem i_im2 (m : Int) : IntKind.u32.wrap m = ((imW m).toNat : Int) := u32_wrap m
variable {h0 g : Heap} {xp fp n0 : Nat} {L0 L Q : List V} {q : Nat → Int} {rs0 rs : Regs} {pc0 pc pc' : BitVec 32} {W : Set'} {tr : Tr V}
set_option maxHeartbeats 4000000 in
theorem tail27 {c : Blk} (hx : g.get xp = some (.cells c 72)) (hc : MC c fp rs pc) (hf : FlatAt g fp n0 L Q q) (hfp : h0.get fp = g.get fp) (hne : fp ≠ xp) (hW : W xp) (t10 : tr.get 10 = some (.ptr (some (xp, 0)))) (t14 : tr.get 14 = some (U pc')) :
    GO (Try.prog : MP) (fun _ => True) W none (Vm.Fin (Try.prog : MP) (fun _ => True) W [ResultVar.tmp 4] (StepQ h0 xp fp n0 Q q L0 rs0 pc0 (.go rs pc' L))) [.code ir27_r11] ⟨⟨301, tr⟩, []⟩ g := by
  have hs := hc.size
  have hr := hc.ro
  simp -implicitDefEqProofs (disch := (first | omega | fail)) only [go_sem, seval, ↓reduceIte, ir27_r11_eq, ir27_s11, ir27_r12_eq, ir27_s12, ir27_r13, ir27_s13, undefV, t10, t14, hx, hs, hr, hW]
  exact ⟨by rw [w_set_ne (Heap.lt_of_get hx) hne]; exact hfp, rfl, ⟨_, w_set_eq (Heap.lt_of_get hx) rfl _, hc.setPC pc'⟩, hf.keep72 (set72 hx)⟩
end Go.Proofs.Ytmkdbninmimndaa
