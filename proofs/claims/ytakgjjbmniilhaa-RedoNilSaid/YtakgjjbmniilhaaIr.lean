/- The code of this seat struck bare (printed by program). -/
import Derived.Test.YtakgjjbmniilhaaProg
import Derived.Test.YtakgjjbmniilhaaVmZ
import Derived.KernelRfl
set_option maxRecDepth 100000
namespace Go.Proofs.Ytakgjjbmniilhaa
open Go Go.Vm
def ir86 : LC := (.seq (.ops [⟨some 2, Op.assign (Operand.const (Value.slice none 0 0)), none⟩])
  (.seq (.ops [⟨some 4, Op.move (Operand.tmp 0), none⟩,
    ⟨some 5, Op.call { callee := Callee.value (Operand.func 97), args := #[Operand.tmp 4], argTypes := #[148] }, none⟩,
    ⟨some 3, Op.assign (Operand.tmp 5), none⟩])
  (.seq (.ops [⟨some 6, Op.move (Operand.tmp 3), none⟩,
    ⟨some 7, Op.call { callee := Callee.value (Operand.func 98), args := #[Operand.tmp 6], argTypes := #[66] }, none⟩])
  (.seq (.ops [⟨some 8, Op.move (Operand.tmp 3), none⟩,
    ⟨some 2, Op.assign (Operand.tmp 8), none⟩])
  .ret))))
theorem ir86_eq : (Try.f86.body.map low, Try.f86.ntmps, Try.f86.results.toList) = (some ir86, 9, [.tmp 2]) := by kernel_rfl
def ir87 : LC := (.seq (.ops [⟨some 1, Op.box 78 (Operand.tmp 0), none⟩,
    ⟨some 2, Op.assign (Operand.const Value.nilFunc), none⟩])
  (.seq (.ops [⟨some 3, Op.makeFunc (Fn.func 99) #[] #[Operand.tmp 1], none⟩,
    ⟨some 2, Op.assign (Operand.tmp 3), none⟩])
  .ret))
theorem ir87_eq : (Try.f87.body.map low, Try.f87.ntmps, Try.f87.results.toList) = (some ir87, 4, [.tmp 2]) := by kernel_rfl
def ir97 : LC := (.seq (.ops [⟨some 2, Op.assign (Operand.const (Value.slice none 0 0)), none⟩])
  (.seq (.ops [⟨some 3, Op.move (Operand.tmp 0), none⟩,
    ⟨some 4, Op.call { callee := Callee.value (Operand.func 102), args := #[Operand.const (Value.slice none 0 0), Operand.tmp 3], argTypes := #[66, 148] }, none⟩,
    ⟨some 2, Op.assign (Operand.tmp 4), none⟩])
  .ret))
theorem ir97_eq : (Try.f97.body.map low, Try.f97.ntmps, Try.f97.results.toList) = (some ir97, 5, [.tmp 2]) := by kernel_rfl
def ir98 : LC := (.seq (.ops [⟨some 3, Op.move (Operand.tmp 0), none⟩,
    ⟨some 4, Op.call { callee := Callee.builtin Builtin.len, args := #[Operand.tmp 3], argTypes := #[66] }, none⟩,
    ⟨some 2, Op.assign (Operand.tmp 4), none⟩])
  (.ops [⟨some 5, Op.move (Operand.tmp 0), none⟩,
    ⟨some 6, Op.move (Operand.tmp 2), none⟩,
    ⟨some 7, Op.move (Operand.tmp 2), none⟩,
    ⟨some 8, Op.convert 3 169 (Operand.tmp 7), none⟩,
    ⟨some 9, Op.call { callee := Callee.value (Operand.func 104), args := #[Operand.tmp 8], argTypes := #[169] }, none⟩,
    ⟨some 10, Op.call { callee := Callee.value (Operand.func 103), args := #[Operand.tmp 5, Operand.const (Value.int IntKind.i64 0), Operand.tmp 6, Operand.tmp 9], argTypes := #[66, 3, 3, 3] }, none⟩]))
theorem ir98_eq : (Try.f98.body.map low, Try.f98.ntmps, Try.f98.results.toList) = (some ir98, 11, []) := by kernel_rfl
def ir99_l0 : LC := (.seq (.ops [⟨some 6, Op.next (Operand.tmp 5) false, none⟩,
    ⟨some 7, Op.extract (Operand.tmp 6) 0, none⟩])
  (.seq (.cond (Operand.tmp 7)
  .skip
  (.exit 0))
  (.block 1 (.seq (.ops [⟨some 8, Op.entry (Operand.tmp 5), none⟩,
    ⟨some 9, Op.extract (Operand.tmp 8) 0, none⟩,
    ⟨some 3, Op.assign (Operand.tmp 9), none⟩])
  (.seq (.ops [⟨some 10, Op.move (Operand.tmp 0), none⟩,
    ⟨some 11, Op.move (Operand.tmp 3), none⟩,
    ⟨some 12, Op.call { callee := Callee.value (Operand.tmp 10), args := #[Operand.tmp 11], argTypes := #[3] }, none⟩,
    ⟨some 13, Op.unOp UnOp.not 4 (Operand.tmp 12), none⟩])
  (.cond (Operand.tmp 13)
  .ret
  .skip))))))
def ir99 : LC := (.seq (.ops [⟨some 4, Op.load 78 (Operand.tmp 1), none⟩,
    ⟨some 5, Op.range 78 (Operand.tmp 4), none⟩])
  (.block 0 (.loop ir99_l0)))
theorem ir99_eq : (Try.f99.body.map low, Try.f99.ntmps, Try.f99.results.toList) = (some ir99, 14, []) := by kernel_rfl
noncomputable def rc102 (i : Nat) : Code × Code := (((Try.f102.body.map rangesOf).getD [])[i]?).getD (.skip, .skip)
noncomputable def ir102_a0 : LC := (.ops [⟨some 5, Op.assign (Operand.tmp 7), none⟩])
noncomputable def ir102_b0 : LC := (.block 1 (.ops [⟨some 8, Op.load 66 (Operand.tmp 2), none⟩,
    ⟨some 9, Op.move (Operand.tmp 5), none⟩,
    ⟨some 10, Op.buildSlice 66 1 #[(0, Operand.tmp 9)], none⟩,
    ⟨some 11, Op.call { callee := Callee.builtin Builtin.append, args := #[Operand.tmp 8, Operand.tmp 10], argTypes := #[66, 66] }, none⟩,
    ⟨none, Op.store 66 (Operand.tmp 2) (Operand.tmp 11), none⟩]))
theorem ir102_a0_eq : low (rc102 0).1 = ir102_a0 := by kernel_rfl
theorem ir102_b0_eq : low (rc102 0).2 = ir102_b0 := by kernel_rfl
noncomputable def ir102 : LC := (.seq (.ops [⟨some 2, Op.box 66 (Operand.tmp 0), none⟩,
    ⟨some 4, Op.assign (Operand.const (Value.slice none 0 0)), none⟩])
  (.seq (.seq (.ops [⟨some 6, Op.move (Operand.tmp 1), none⟩])
  (.block 0 (.range (Operand.tmp 6) #[7] (rc102 0).1 (rc102 0).2)))
  (.seq (.ops [⟨some 12, Op.load 66 (Operand.tmp 2), none⟩,
    ⟨some 4, Op.assign (Operand.tmp 12), none⟩])
  .ret)))
theorem ir102_eq : (Try.f102.body.map low, Try.f102.ntmps, Try.f102.results.toList) = (some ir102, 13, [.tmp 4]) := by kernel_rfl

end Go.Proofs.Ytakgjjbmniilhaa
