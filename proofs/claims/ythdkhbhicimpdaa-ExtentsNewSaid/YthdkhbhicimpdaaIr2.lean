/- The code of this seat struck bare (printed by program). -/
import Derived.Test.YthdkhbhicimpdaaProg
import Derived.Test.YthdkhbhicimpdaaV4
import Derived.KernelRfl
set_option linter.unusedVariables false
set_option linter.unusedSimpArgs false
set_option linter.unusedSimpArgs false
set_option maxRecDepth 100000
namespace Go.Proofs.Ythdkhbhicimpdaa
open Go Go.Vm
def ir72 : LC := (.seq (.ops [⟨some 4, Op.assign (Operand.const (Value.slice none 0 0)), none⟩,
    ⟨some 5, Op.assign (Operand.const (Value.int IntKind.i64 0)), none⟩])
  (.seq (.seq (.ops [⟨some 6, Op.move (Operand.tmp 0), none⟩,
    ⟨some 7, Op.binOp BinOp.eql 65 (Operand.tmp 6) (Operand.const (Value.pointer none)) 65, none⟩])
  (.cond (Operand.tmp 7)
  (.seq (.ops [⟨some 4, Op.assign (Operand.const (Value.slice none 0 0)), none⟩,
    ⟨some 5, Op.assign (Operand.const (Value.int IntKind.i64 1)), none⟩])
  .ret)
  .skip))
  (.seq (.seq (.ops [⟨some 8, Op.move (Operand.tmp 0), none⟩,
    ⟨some 9, Op.move (Operand.tmp 1), none⟩,
    ⟨some 10, Op.call { callee := Callee.value (Operand.func 75), args := #[Operand.tmp 8, Operand.tmp 9], argTypes := #[65, 3] }, none⟩,
    ⟨some 11, Op.unOp UnOp.not 4 (Operand.tmp 10), none⟩])
  (.cond (Operand.tmp 11)
  (.seq (.ops [⟨some 4, Op.assign (Operand.const (Value.slice none 0 0)), none⟩,
    ⟨some 5, Op.assign (Operand.const (Value.int IntKind.i64 2)), none⟩])
  .ret)
  .skip))
  (.seq (.ops [⟨some 12, Op.move (Operand.tmp 0), none⟩,
    ⟨some 13, Op.move (Operand.tmp 1), none⟩,
    ⟨some 14, Op.call { callee := Callee.value (Operand.func 76), args := #[Operand.tmp 12, Operand.tmp 13], argTypes := #[65, 3] }, none⟩,
    ⟨some 4, Op.assign (Operand.tmp 14), none⟩,
    ⟨some 5, Op.assign (Operand.const (Value.int IntKind.i64 0)), none⟩])
  .ret))))
theorem ir72_eq : (Try.f72.body.map low, Try.f72.ntmps, Try.f72.results.toList) = (some ir72, 15, [.tmp 4, .tmp 5]) := by kernel_rfl
def ir75 : LC := (.seq (.ops [⟨some 4, Op.assign (Operand.const (Value.bool false)), none⟩])
  (.seq (.ops [⟨some 5, Op.move (Operand.tmp 1), none⟩,
    ⟨some 6, Op.binOp BinOp.geq 3 (Operand.tmp 5) (Operand.const (Value.int IntKind.i64 0)) 3, none⟩,
    ⟨some 7, Op.move (Operand.tmp 6), none⟩,
    ⟨some 8, Op.move (Operand.tmp 1), some (7, true)⟩,
    ⟨some 9, Op.move (Operand.tmp 0), some (7, true)⟩,
    ⟨some 10, Op.nilCheck (Operand.tmp 9), some (7, true)⟩,
    ⟨some 11, Op.fieldAddr 83 (Operand.tmp 10) 0, some (7, true)⟩,
    ⟨some 12, Op.load 80 (Operand.tmp 11), some (7, true)⟩,
    ⟨some 13, Op.call { callee := Callee.builtin Builtin.len, args := #[Operand.tmp 12], argTypes := #[80] }, some (7, true)⟩,
    ⟨some 14, Op.binOp BinOp.lss 3 (Operand.tmp 8) (Operand.tmp 13) 3, some (7, true)⟩,
    ⟨some 15, Op.pick (Operand.tmp 7) (Operand.tmp 14) (Operand.const (Value.bool false)), none⟩,
    ⟨some 4, Op.assign (Operand.tmp 15), none⟩])
  .ret))
theorem ir75_eq : (Try.f75.body.map low, Try.f75.ntmps, Try.f75.results.toList) = (some ir75, 16, [.tmp 4]) := by kernel_rfl
def ir76 : LC := (.seq (.ops [⟨some 4, Op.assign (Operand.const (Value.slice none 0 0)), none⟩])
  (.seq (.ops [⟨some 6, Op.move (Operand.tmp 0), none⟩,
    ⟨some 7, Op.nilCheck (Operand.tmp 6), none⟩,
    ⟨some 8, Op.fieldAddr 83 (Operand.tmp 7) 1, none⟩,
    ⟨some 9, Op.load 81 (Operand.tmp 8), none⟩,
    ⟨some 10, Op.move (Operand.tmp 1), none⟩,
    ⟨some 11, Op.indexAddr 81 (Operand.tmp 9) (Operand.tmp 10), none⟩,
    ⟨some 12, Op.load 80 (Operand.tmp 11), none⟩,
    ⟨some 13, Op.call { callee := Callee.builtin Builtin.len, args := #[Operand.tmp 12], argTypes := #[80] }, none⟩,
    ⟨some 5, Op.assign (Operand.tmp 13), none⟩])
  (.seq (.seq (.ops [⟨some 14, Op.move (Operand.tmp 5), none⟩,
    ⟨some 15, Op.binOp BinOp.gtr 3 (Operand.tmp 14) (Operand.const (Value.int IntKind.i64 0)) 3, none⟩])
  (.cond (Operand.tmp 15)
  (.seq (.ops [⟨some 16, Op.move (Operand.tmp 0), none⟩,
    ⟨some 17, Op.nilCheck (Operand.tmp 16), none⟩,
    ⟨some 18, Op.fieldAddr 83 (Operand.tmp 17) 1, none⟩,
    ⟨some 19, Op.load 81 (Operand.tmp 18), none⟩,
    ⟨some 20, Op.move (Operand.tmp 1), none⟩,
    ⟨some 21, Op.indexAddr 81 (Operand.tmp 19) (Operand.tmp 20), none⟩,
    ⟨some 22, Op.load 80 (Operand.tmp 21), none⟩,
    ⟨some 23, Op.move (Operand.tmp 5), none⟩,
    ⟨some 24, Op.binOp BinOp.sub 3 (Operand.tmp 23) (Operand.const (Value.int IntKind.i64 1)) 3, none⟩,
    ⟨some 25, Op.indexAddr 80 (Operand.tmp 22) (Operand.tmp 24), none⟩,
    ⟨some 26, Op.load 45 (Operand.tmp 25), none⟩,
    ⟨some 4, Op.assign (Operand.tmp 26), none⟩])
  .ret)
  .skip))
  (.seq (.ops [⟨some 27, Op.move (Operand.tmp 0), none⟩,
    ⟨some 28, Op.nilCheck (Operand.tmp 27), none⟩,
    ⟨some 29, Op.fieldAddr 83 (Operand.tmp 28) 0, none⟩,
    ⟨some 30, Op.load 80 (Operand.tmp 29), none⟩,
    ⟨some 31, Op.move (Operand.tmp 1), none⟩,
    ⟨some 32, Op.indexAddr 80 (Operand.tmp 30) (Operand.tmp 31), none⟩,
    ⟨some 33, Op.load 45 (Operand.tmp 32), none⟩,
    ⟨some 4, Op.assign (Operand.tmp 33), none⟩])
  .ret))))
theorem ir76_eq : (Try.f76.body.map low, Try.f76.ntmps, Try.f76.results.toList) = (some ir76, 34, [.tmp 4]) := by kernel_rfl



end Go.Proofs.Ythdkhbhicimpdaa
