/- The code of this seat struck bare (printed by program). -/
import Derived.Test.YthdkhbhicimpdaaProg
import Derived.Test.YthdkhbhicimpdaaV4
import Derived.KernelRfl
set_option linter.unusedVariables false
set_option linter.unusedSimpArgs false
set_option linter.unusedSimpArgs false
set_option maxRecDepth 100000
namespace Go.Proofs.Ythdkhbhicimpdaa
open Go Go.Vm
def ir8_l0 : LC := (.seq (.seq (.ops [⟨some 9, Op.move (Operand.tmp 8), none⟩,
    ⟨some 10, Op.move (Operand.tmp 2), none⟩,
    ⟨some 11, Op.call { callee := Callee.builtin Builtin.len, args := #[Operand.tmp 10], argTypes := #[36] }, none⟩,
    ⟨some 12, Op.binOp BinOp.lss 3 (Operand.tmp 9) (Operand.tmp 11) 3, none⟩,
    ⟨some 13, Op.move (Operand.tmp 12), none⟩,
    ⟨some 14, Op.move (Operand.tmp 8), some (13, true)⟩,
    ⟨some 15, Op.binOp BinOp.lss 3 (Operand.tmp 14) (Operand.const (Value.int IntKind.i64 60)) 3, some (13, true)⟩,
    ⟨some 16, Op.pick (Operand.tmp 13) (Operand.tmp 15) (Operand.const (Value.bool false)), none⟩])
  (.cond (Operand.tmp 16)
  .skip
  (.exit 0)))
  (.seq (.block 1 (.draw [⟨some 19, Op.move (Operand.tmp 7), none⟩,
    ⟨some 20, Op.move (Operand.tmp 2), none⟩,
    ⟨some 21, Op.move (Operand.tmp 8), none⟩,
    ⟨some 22, Op.indexAddr 36 (Operand.tmp 20) (Operand.tmp 21), none⟩,
    ⟨some 23, Op.fieldAddr 48 (Operand.tmp 22) 4, none⟩,
    ⟨some 24, Op.load 45 (Operand.tmp 23), none⟩,
    ⟨some 25, Op.call { callee := Callee.builtin Builtin.len, args := #[Operand.tmp 24], argTypes := #[45] }, none⟩,
    ⟨some 26, Op.call { callee := Callee.builtin Builtin.min, args := #[Operand.tmp 25, Operand.const (Value.int IntKind.i64 9000)], argTypes := #[3, 3] }, none⟩,
    ⟨some 27, Op.binOp BinOp.add 3 (Operand.tmp 19) (Operand.tmp 26) 3, none⟩,
    ⟨some 28, Op.move (Operand.tmp 2), none⟩,
    ⟨some 29, Op.move (Operand.tmp 8), none⟩,
    ⟨some 30, Op.indexAddr 36 (Operand.tmp 28) (Operand.tmp 29), none⟩,
    ⟨some 31, Op.fieldAddr 48 (Operand.tmp 30) 5, none⟩,
    ⟨some 32, Op.load 46 (Operand.tmp 31), none⟩,
    ⟨some 33, Op.call { callee := Callee.builtin Builtin.len, args := #[Operand.tmp 32], argTypes := #[46] }, none⟩,
    ⟨some 34, Op.call { callee := Callee.builtin Builtin.min, args := #[Operand.tmp 33, Operand.const (Value.int IntKind.i64 9000)], argTypes := #[3, 3] }, none⟩,
    ⟨some 35, Op.binOp BinOp.add 3 (Operand.tmp 27) (Operand.tmp 34) 3, none⟩,
    ⟨some 7, Op.assign (Operand.tmp 35), none⟩] []))
  (.ops [⟨some 17, Op.move (Operand.tmp 8), none⟩,
    ⟨some 18, Op.binOp BinOp.add 3 (Operand.tmp 17) (Operand.const (Value.int IntKind.i64 1)) 3, none⟩,
    ⟨some 8, Op.assign (Operand.tmp 18), none⟩])))
def ir8 : LC := (.seq (.ops [⟨some 6, Op.assign (Operand.const (Value.bool false)), none⟩])
  (.seq (.ops [⟨some 7, Op.assign (Operand.const (Value.int IntKind.i64 0)), none⟩])
  (.seq (.seq (.ops [⟨some 8, Op.assign (Operand.const (Value.int IntKind.i64 0)), none⟩])
  (.block 0 (.loop ir8_l0)))
  (.seq (.ops [⟨some 36, Op.move (Operand.tmp 0), none⟩,
    ⟨some 37, Op.binOp BinOp.gtr 3 (Operand.tmp 36) (Operand.const (Value.int IntKind.i64 64)) 3, none⟩,
    ⟨some 38, Op.move (Operand.tmp 37), none⟩,
    ⟨some 39, Op.move (Operand.tmp 0), some (38, true)⟩,
    ⟨some 40, Op.binOp BinOp.leq 3 (Operand.tmp 39) (Operand.const (Value.int IntKind.i64 4096)) 3, some (38, true)⟩,
    ⟨some 41, Op.pick (Operand.tmp 38) (Operand.tmp 40) (Operand.const (Value.bool false)), none⟩,
    ⟨some 42, Op.move (Operand.tmp 41), none⟩,
    ⟨some 43, Op.move (Operand.tmp 1), some (42, false)⟩,
    ⟨some 44, Op.call { callee := Callee.builtin Builtin.len, args := #[Operand.tmp 43], argTypes := #[22] }, some (42, false)⟩,
    ⟨some 45, Op.binOp BinOp.gtr 3 (Operand.tmp 44) (Operand.const (Value.int IntKind.i64 20)) 3, some (42, false)⟩,
    ⟨some 46, Op.pick (Operand.tmp 42) (Operand.const (Value.bool true)) (Operand.tmp 45), none⟩,
    ⟨some 47, Op.move (Operand.tmp 46), none⟩,
    ⟨some 48, Op.move (Operand.tmp 7), some (47, false)⟩,
    ⟨some 49, Op.binOp BinOp.gtr 3 (Operand.tmp 48) (Operand.const (Value.int IntKind.i64 60000)) 3, some (47, false)⟩,
    ⟨some 50, Op.pick (Operand.tmp 47) (Operand.const (Value.bool true)) (Operand.tmp 49), none⟩,
    ⟨some 6, Op.assign (Operand.tmp 50), none⟩])
  .ret))))
theorem ir8_eq : (Try.f8.body.map low, Try.f8.ntmps, Try.f8.results.toList) = (some ir8, 51, [.tmp 6]) := by kernel_rfl
def ir13 : LC := (.seq (.ops [⟨some 2, Op.assign (Operand.const (Value.pointer none)), none⟩,
    ⟨some 3, Op.assign (Operand.const (Value.int IntKind.i64 0)), none⟩])
  (.seq (.seq (.ops [⟨some 4, Op.move (Operand.tmp 0), none⟩,
    ⟨some 5, Op.binOp BinOp.lss 3 (Operand.tmp 4) (Operand.const (Value.int IntKind.i64 1)) 3, none⟩,
    ⟨some 6, Op.move (Operand.tmp 5), none⟩,
    ⟨some 7, Op.move (Operand.tmp 0), some (6, false)⟩,
    ⟨some 8, Op.binOp BinOp.gtr 3 (Operand.tmp 7) (Operand.const (Value.int IntKind.i64 4096)) 3, some (6, false)⟩,
    ⟨some 9, Op.pick (Operand.tmp 6) (Operand.const (Value.bool true)) (Operand.tmp 8), none⟩])
  (.cond (Operand.tmp 9)
  (.seq (.ops [⟨some 2, Op.assign (Operand.const (Value.pointer none)), none⟩,
    ⟨some 3, Op.assign (Operand.const (Value.int IntKind.i64 2)), none⟩])
  .ret)
  .skip))
  (.seq (.ops [⟨some 10, Op.move (Operand.tmp 0), none⟩,
    ⟨some 11, Op.makeSlice 85 (Operand.tmp 10) (Operand.tmp 10), none⟩,
    ⟨some 12, Op.makeMap 86 none, none⟩,
    ⟨some 13, Op.build 88 #[(0, Operand.tmp 11), (1, Operand.tmp 12)], none⟩,
    ⟨some 14, Op.box 88 (Operand.tmp 13), none⟩,
    ⟨some 2, Op.assign (Operand.tmp 14), none⟩,
    ⟨some 3, Op.assign (Operand.const (Value.int IntKind.i64 0)), none⟩])
  .ret)))
theorem ir13_eq : (Try.f13.body.map low, Try.f13.ntmps, Try.f13.results.toList) = (some ir13, 15, [.tmp 2, .tmp 3]) := by kernel_rfl
def ir14_l0 : LC := (.seq (.ops [⟨some 30, Op.binOp BinOp.lss 3 (Operand.tmp 29) (Operand.tmp 28) 3, none⟩])
  (.seq (.cond (Operand.tmp 30)
  .skip
  (.exit 0))
  (.seq (.block 1 (.seq (.ops [⟨some 31, Op.move (Operand.tmp 29), none⟩,
    ⟨some 32, Op.indexAddr 22 (Operand.tmp 27) (Operand.tmp 29), none⟩,
    ⟨some 33, Op.load 3 (Operand.tmp 32), none⟩,
    ⟨some 9, Op.assign (Operand.tmp 31), none⟩,
    ⟨some 10, Op.assign (Operand.tmp 33), none⟩])
  (.seq (.block 2 (.seq (.ops [⟨some 35, Op.move (Operand.tmp 10), none⟩,
    ⟨some 36, Op.binOp BinOp.lss 3 (Operand.tmp 35) (Operand.const (Value.int IntKind.i64 0)) 3, none⟩,
    ⟨some 34, Op.assign (Operand.tmp 36), none⟩])
  (.cond (Operand.tmp 34)
  (.seq (.ops [⟨some 4, Op.assign (Operand.const (Value.pointer none)), none⟩,
    ⟨some 5, Op.assign (Operand.const (Value.int IntKind.i64 2)), none⟩])
  .ret)
  (.seq (.ops [⟨some 38, Op.move (Operand.tmp 10), none⟩,
    ⟨some 39, Op.move (Operand.tmp 0), none⟩,
    ⟨some 40, Op.call { callee := Callee.value (Operand.func 41), args := #[Operand.tmp 39], argTypes := #[26] }, none⟩,
    ⟨some 41, Op.move (Operand.tmp 7), none⟩,
    ⟨some 42, Op.binOp BinOp.sub 3 (Operand.tmp 40) (Operand.tmp 41) 3, none⟩,
    ⟨some 43, Op.binOp BinOp.gtr 3 (Operand.tmp 38) (Operand.tmp 42) 3, none⟩,
    ⟨some 37, Op.assign (Operand.tmp 43), none⟩])
  (.cond (Operand.tmp 37)
  (.seq (.ops [⟨some 8, Op.assign (Operand.const (Value.bool true)), none⟩])
  (.exit 1))
  .skip)))))
  (.seq (.draw [⟨some 44, Op.move (Operand.tmp 6), none⟩,
    ⟨some 45, Op.move (Operand.tmp 9), none⟩,
    ⟨some 46, Op.move (Operand.tmp 7), none⟩,
    ⟨some 47, Op.move (Operand.tmp 10), none⟩,
    ⟨some 48, Op.move (Operand.tmp 10), none⟩,
    ⟨some 49, Op.binOp BinOp.shr 3 (Operand.tmp 48) (Operand.const (Value.int IntKind.u64 6)) 90, none⟩,
    ⟨some 50, Op.binOp BinOp.add 3 (Operand.tmp 49) (Operand.const (Value.int IntKind.i64 1)) 3, none⟩,
    ⟨some 51, Op.makeSlice 55 (Operand.tmp 50) (Operand.tmp 50), none⟩,
    ⟨some 52, Op.build 57 #[(0, Operand.tmp 46), (1, Operand.tmp 47), (2, Operand.tmp 51)], none⟩,
    ⟨some 53, Op.nilCheck (Operand.tmp 44), none⟩,
    ⟨some 54, Op.fieldAddr 60 (Operand.tmp 53) 1, none⟩,
    ⟨some 55, Op.indexAddr 58 (Operand.tmp 54) (Operand.tmp 45), none⟩,
    ⟨none, Op.store 57 (Operand.tmp 55) (Operand.tmp 52), none⟩] [(0, 7), (1, 7), (2, 7), (3, 7), (7, 9), (7, 10)])
  (.ops [⟨some 56, Op.move (Operand.tmp 7), none⟩,
    ⟨some 57, Op.move (Operand.tmp 10), none⟩,
    ⟨some 58, Op.binOp BinOp.add 3 (Operand.tmp 56) (Operand.tmp 57) 3, none⟩,
    ⟨some 7, Op.assign (Operand.tmp 58), none⟩])))))
  (.ops [⟨some 59, Op.binOp BinOp.add 3 (Operand.tmp 29) (Operand.const (Value.int IntKind.i64 1)) 3, none⟩,
    ⟨some 29, Op.move (Operand.tmp 59), none⟩]))))
def ir14 : LC := (.seq (.ops [⟨some 4, Op.assign (Operand.const (Value.pointer none)), none⟩,
    ⟨some 5, Op.assign (Operand.const (Value.int IntKind.i64 0)), none⟩])
  (.seq (.seq (.ops [⟨some 11, Op.move (Operand.tmp 0), none⟩,
    ⟨some 12, Op.call { callee := Callee.value (Operand.func 41), args := #[Operand.tmp 11], argTypes := #[26] }, none⟩,
    ⟨some 13, Op.binOp BinOp.eql 3 (Operand.tmp 12) (Operand.const (Value.int IntKind.i64 0)) 3, none⟩])
  (.cond (Operand.tmp 13)
  (.seq (.ops [⟨some 4, Op.assign (Operand.const (Value.pointer none)), none⟩,
    ⟨some 5, Op.assign (Operand.const (Value.int IntKind.i64 1)), none⟩])
  .ret)
  .skip))
  (.seq (.seq (.ops [⟨some 14, Op.move (Operand.tmp 1), none⟩,
    ⟨some 15, Op.call { callee := Callee.builtin Builtin.len, args := #[Operand.tmp 14], argTypes := #[22] }, none⟩,
    ⟨some 16, Op.binOp BinOp.eql 3 (Operand.tmp 15) (Operand.const (Value.int IntKind.i64 0)) 3, none⟩,
    ⟨some 17, Op.move (Operand.tmp 16), none⟩,
    ⟨some 18, Op.move (Operand.tmp 1), some (17, false)⟩,
    ⟨some 19, Op.call { callee := Callee.builtin Builtin.len, args := #[Operand.tmp 18], argTypes := #[22] }, some (17, false)⟩,
    ⟨some 20, Op.binOp BinOp.gtr 3 (Operand.tmp 19) (Operand.const (Value.int IntKind.i64 8)) 3, some (17, false)⟩,
    ⟨some 21, Op.pick (Operand.tmp 17) (Operand.const (Value.bool true)) (Operand.tmp 20), none⟩])
  (.cond (Operand.tmp 21)
  (.seq (.ops [⟨some 4, Op.assign (Operand.const (Value.pointer none)), none⟩,
    ⟨some 5, Op.assign (Operand.const (Value.int IntKind.i64 2)), none⟩])
  .ret)
  .skip))
  (.seq (.ops [⟨some 22, Op.move (Operand.tmp 0), none⟩,
    ⟨some 23, Op.move (Operand.tmp 1), none⟩,
    ⟨some 24, Op.call { callee := Callee.builtin Builtin.len, args := #[Operand.tmp 23], argTypes := #[22] }, none⟩,
    ⟨some 25, Op.build 60 #[(0, Operand.tmp 22), (2, Operand.tmp 24)], none⟩,
    ⟨some 26, Op.box 60 (Operand.tmp 25), none⟩,
    ⟨some 6, Op.assign (Operand.tmp 26), none⟩])
  (.seq (.ops [⟨some 7, Op.assign (Operand.const (Value.int IntKind.i64 0)), none⟩,
    ⟨some 8, Op.assign (Operand.const (Value.bool false)), none⟩])
  (.seq (.seq (.ops [⟨some 27, Op.move (Operand.tmp 1), none⟩,
    ⟨some 28, Op.call { callee := Callee.builtin Builtin.len, args := #[Operand.tmp 27], argTypes := #[22] }, none⟩,
    ⟨some 29, Op.move (Operand.const (Value.int IntKind.i64 0)), none⟩])
  (.block 0 (.loop ir14_l0)))
  (.seq (.seq (.ops [⟨some 60, Op.move (Operand.tmp 8), none⟩])
  (.cond (Operand.tmp 60)
  (.seq (.ops [⟨some 4, Op.assign (Operand.const (Value.pointer none)), none⟩,
    ⟨some 5, Op.assign (Operand.const (Value.int IntKind.i64 5)), none⟩])
  .ret)
  .skip))
  (.seq (.ops [⟨some 61, Op.move (Operand.tmp 6), none⟩,
    ⟨some 4, Op.assign (Operand.tmp 61), none⟩,
    ⟨some 5, Op.assign (Operand.const (Value.int IntKind.i64 0)), none⟩])
  .ret))))))))
theorem ir14_eq : (Try.f14.body.map low, Try.f14.ntmps, Try.f14.results.toList) = (some ir14, 62, [.tmp 4, .tmp 5]) := by kernel_rfl
def ir15 : LC := (.seq (.ops [⟨some 2, Op.assign (Operand.const (Value.int IntKind.i64 0)), none⟩])
  (.seq (.ops [⟨some 3, Op.move (Operand.tmp 0), none⟩,
    ⟨some 2, Op.assign (Operand.tmp 3), none⟩])
  .ret))
theorem ir15_eq : (Try.f15.body.map low, Try.f15.ntmps, Try.f15.results.toList) = (some ir15, 4, [.tmp 2]) := by kernel_rfl
def ir16 : LC := (.seq (.seq (.ops [⟨some 8, Op.move (Operand.tmp 2), none⟩,
    ⟨some 9, Op.move (Operand.tmp 1), none⟩,
    ⟨some 10, Op.call { callee := Callee.builtin Builtin.len, args := #[Operand.tmp 9], argTypes := #[36] }, none⟩,
    ⟨some 11, Op.binOp BinOp.geq 3 (Operand.tmp 8) (Operand.tmp 10) 3, none⟩])
  (.cond (Operand.tmp 11)
  .ret
  .skip))
  (.seq (.ops [⟨some 12, Op.move (Operand.tmp 1), none⟩,
    ⟨some 13, Op.move (Operand.tmp 2), none⟩,
    ⟨some 14, Op.indexAddr 36 (Operand.tmp 12) (Operand.tmp 13), none⟩,
    ⟨some 15, Op.load 48 (Operand.tmp 14), none⟩,
    ⟨some 6, Op.alloc 48, none⟩,
    ⟨none, Op.store 48 (Operand.tmp 6) (Operand.tmp 15), none⟩])
  (.seq (.ops [⟨some 16, Op.fieldAddr 48 (Operand.tmp 6) 1, none⟩,
    ⟨some 17, Op.load 3 (Operand.tmp 16), none⟩,
    ⟨some 18, Op.binOp BinOp.and 3 (Operand.tmp 17) (Operand.const (Value.int IntKind.i64 1)) 3, none⟩,
    ⟨some 19, Op.binOp BinOp.mul 3 (Operand.tmp 18) (Operand.const (Value.int IntKind.i64 2)) 3, none⟩,
    ⟨some 7, Op.assign (Operand.tmp 19), none⟩])
  (.seq (.ops [⟨some 20, Op.fieldAddr 48 (Operand.tmp 6) 0, none⟩,
    ⟨some 21, Op.load 3 (Operand.tmp 20), none⟩])
  (.block 0 (.seq (.ops [⟨some 23, Op.binOp BinOp.eql 3 (Operand.tmp 21) (Operand.const (Value.int IntKind.i64 1)) 3, none⟩,
    ⟨some 22, Op.assign (Operand.tmp 23), none⟩])
  (.cond (Operand.tmp 22)
  (.ops [⟨some 24, Op.move (Operand.tmp 0), none⟩,
    ⟨some 25, Op.move (Operand.tmp 7), none⟩,
    ⟨some 26, Op.fieldAddr 48 (Operand.tmp 6) 2, none⟩,
    ⟨some 27, Op.load 3 (Operand.tmp 26), none⟩,
    ⟨some 28, Op.call { callee := Callee.value (Operand.func 19), args := #[Operand.tmp 24, Operand.tmp 25, Operand.tmp 27], argTypes := #[25, 3, 3] }, none⟩])
  (.seq (.ops [⟨some 30, Op.binOp BinOp.eql 3 (Operand.tmp 21) (Operand.const (Value.int IntKind.i64 2)) 3, none⟩,
    ⟨some 29, Op.assign (Operand.tmp 30), none⟩])
  (.cond (Operand.tmp 29)
  (.ops [⟨some 31, Op.move (Operand.tmp 0), none⟩,
    ⟨some 32, Op.move (Operand.tmp 7), none⟩,
    ⟨some 33, Op.fieldAddr 48 (Operand.tmp 6) 2, none⟩,
    ⟨some 34, Op.load 3 (Operand.tmp 33), none⟩,
    ⟨some 35, Op.fieldAddr 48 (Operand.tmp 6) 3, none⟩,
    ⟨some 36, Op.load 3 (Operand.tmp 35), none⟩,
    ⟨some 37, Op.call { callee := Callee.value (Operand.func 20), args := #[Operand.tmp 31, Operand.tmp 32, Operand.tmp 34, Operand.tmp 36], argTypes := #[25, 3, 3, 3] }, none⟩])
  (.seq (.ops [⟨some 39, Op.binOp BinOp.eql 3 (Operand.tmp 21) (Operand.const (Value.int IntKind.i64 3)) 3, none⟩,
    ⟨some 38, Op.assign (Operand.tmp 39), none⟩])
  (.cond (Operand.tmp 38)
  (.ops [⟨some 40, Op.move (Operand.tmp 0), none⟩,
    ⟨some 41, Op.move (Operand.tmp 7), none⟩,
    ⟨some 42, Op.fieldAddr 48 (Operand.tmp 6) 2, none⟩,
    ⟨some 43, Op.load 3 (Operand.tmp 42), none⟩,
    ⟨some 44, Op.fieldAddr 48 (Operand.tmp 6) 4, none⟩,
    ⟨some 45, Op.load 45 (Operand.tmp 44), none⟩,
    ⟨some 46, Op.call { callee := Callee.value (Operand.func 26), args := #[Operand.tmp 40, Operand.tmp 41, Operand.tmp 43, Operand.tmp 45], argTypes := #[25, 3, 3, 45] }, none⟩])
  (.seq (.ops [⟨some 48, Op.binOp BinOp.eql 3 (Operand.tmp 21) (Operand.const (Value.int IntKind.i64 4)) 3, none⟩,
    ⟨some 47, Op.assign (Operand.tmp 48), none⟩])
  (.cond (Operand.tmp 47)
  (.ops [⟨some 49, Op.move (Operand.tmp 0), none⟩,
    ⟨some 50, Op.move (Operand.tmp 7), none⟩,
    ⟨some 51, Op.call { callee := Callee.value (Operand.func 28), args := #[Operand.tmp 49, Operand.tmp 50], argTypes := #[25, 3] }, none⟩])
  .skip)))))))))))))
theorem ir16_eq : (Try.f16.body.map low, Try.f16.ntmps, Try.f16.results.toList) = (some ir16, 52, []) := by kernel_rfl
def ir17_l0 : LC := (.seq (.seq (.ops [⟨some 92, Op.move (Operand.tmp 12), none⟩,
    ⟨some 93, Op.binOp BinOp.lss 3 (Operand.tmp 92) (Operand.const (Value.int IntKind.i64 8)) 3, none⟩])
  (.cond (Operand.tmp 93)
  .skip
  (.exit 1)))
  (.seq (.block 2 (.seq (.ops [⟨some 97, Op.move (Operand.tmp 0), none⟩,
    ⟨some 98, Op.move (Operand.tmp 12), none⟩,
    ⟨some 99, Op.call { callee := Callee.value (Operand.func 42), args := #[Operand.tmp 97, Operand.const (Value.int IntKind.i64 1), Operand.tmp 98], argTypes := #[25, 3, 3] }, none⟩,
    ⟨some 96, Op.move (Operand.tmp 99), none⟩,
    ⟨some 100, Op.extract (Operand.tmp 96) 0, none⟩,
    ⟨some 101, Op.extract (Operand.tmp 96) 1, none⟩,
    ⟨some 13, Op.assign (Operand.tmp 100), none⟩,
    ⟨some 14, Op.assign (Operand.tmp 101), none⟩])
  (.seq (.ops [⟨some 103, Op.move (Operand.tmp 1), none⟩,
    ⟨some 104, Op.move (Operand.tmp 12), none⟩,
    ⟨some 105, Op.call { callee := Callee.value (Operand.func 42), args := #[Operand.tmp 103, Operand.const (Value.int IntKind.i64 1), Operand.tmp 104], argTypes := #[25, 3, 3] }, none⟩,
    ⟨some 102, Op.move (Operand.tmp 105), none⟩,
    ⟨some 106, Op.extract (Operand.tmp 102) 0, none⟩,
    ⟨some 107, Op.extract (Operand.tmp 102) 1, none⟩,
    ⟨some 15, Op.assign (Operand.tmp 106), none⟩,
    ⟨some 16, Op.assign (Operand.tmp 107), none⟩])
  (.seq (.ops [⟨some 109, Op.move (Operand.tmp 0), none⟩,
    ⟨some 110, Op.call { callee := Callee.value (Operand.func 38), args := #[Operand.tmp 109], argTypes := #[25] }, none⟩,
    ⟨some 111, Op.move (Operand.tmp 12), none⟩,
    ⟨some 112, Op.binOp BinOp.add 3 (Operand.const (Value.int IntKind.i64 8)) (Operand.tmp 111) 3, none⟩,
    ⟨some 113, Op.call { callee := Callee.value (Operand.func 43), args := #[Operand.tmp 110, Operand.tmp 112], argTypes := #[26, 3] }, none⟩,
    ⟨some 108, Op.move (Operand.tmp 113), none⟩,
    ⟨some 114, Op.extract (Operand.tmp 108) 0, none⟩,
    ⟨some 115, Op.extract (Operand.tmp 108) 1, none⟩,
    ⟨some 17, Op.assign (Operand.tmp 114), none⟩,
    ⟨some 18, Op.assign (Operand.tmp 115), none⟩])
  (.seq (.ops [⟨some 117, Op.move (Operand.tmp 1), none⟩,
    ⟨some 118, Op.call { callee := Callee.value (Operand.func 38), args := #[Operand.tmp 117], argTypes := #[25] }, none⟩,
    ⟨some 119, Op.move (Operand.tmp 12), none⟩,
    ⟨some 120, Op.binOp BinOp.add 3 (Operand.const (Value.int IntKind.i64 8)) (Operand.tmp 119) 3, none⟩,
    ⟨some 121, Op.call { callee := Callee.value (Operand.func 43), args := #[Operand.tmp 118, Operand.tmp 120], argTypes := #[26, 3] }, none⟩,
    ⟨some 116, Op.move (Operand.tmp 121), none⟩,
    ⟨some 122, Op.extract (Operand.tmp 116) 0, none⟩,
    ⟨some 123, Op.extract (Operand.tmp 116) 1, none⟩,
    ⟨some 19, Op.assign (Operand.tmp 122), none⟩,
    ⟨some 20, Op.assign (Operand.tmp 123), none⟩])
  (.seq (.ops [⟨some 124, Op.move (Operand.tmp 13), none⟩,
    ⟨some 125, Op.convert 45 9 (Operand.tmp 124), none⟩,
    ⟨some 126, Op.move (Operand.tmp 15), none⟩,
    ⟨some 127, Op.convert 45 9 (Operand.tmp 126), none⟩,
    ⟨some 128, Op.binOp BinOp.neq 9 (Operand.tmp 125) (Operand.tmp 127) 9, none⟩,
    ⟨some 129, Op.move (Operand.tmp 128), none⟩,
    ⟨some 130, Op.move (Operand.tmp 14), some (129, false)⟩,
    ⟨some 131, Op.call { callee := Callee.value (Operand.func 15), args := #[Operand.tmp 130], argTypes := #[37] }, some (129, false)⟩,
    ⟨some 132, Op.move (Operand.tmp 16), some (129, false)⟩,
    ⟨some 133, Op.call { callee := Callee.value (Operand.func 15), args := #[Operand.tmp 132], argTypes := #[37] }, some (129, false)⟩,
    ⟨some 134, Op.binOp BinOp.neq 3 (Operand.tmp 131) (Operand.tmp 133) 3, some (129, false)⟩,
    ⟨some 135, Op.pick (Operand.tmp 129) (Operand.const (Value.bool true)) (Operand.tmp 134), none⟩,
    ⟨some 136, Op.move (Operand.tmp 135), none⟩,
    ⟨some 137, Op.move (Operand.tmp 17), some (136, false)⟩,
    ⟨some 138, Op.convert 45 9 (Operand.tmp 137), some (136, false)⟩,
    ⟨some 139, Op.move (Operand.tmp 19), some (136, false)⟩,
    ⟨some 140, Op.convert 45 9 (Operand.tmp 139), some (136, false)⟩,
    ⟨some 141, Op.binOp BinOp.neq 9 (Operand.tmp 138) (Operand.tmp 140) 9, some (136, false)⟩,
    ⟨some 142, Op.pick (Operand.tmp 136) (Operand.const (Value.bool true)) (Operand.tmp 141), none⟩,
    ⟨some 143, Op.move (Operand.tmp 142), none⟩,
    ⟨some 144, Op.move (Operand.tmp 0), some (143, false)⟩,
    ⟨some 145, Op.call { callee := Callee.value (Operand.func 38), args := #[Operand.tmp 144], argTypes := #[25] }, some (143, false)⟩,
    ⟨some 146, Op.move (Operand.tmp 12), some (143, false)⟩,
    ⟨some 147, Op.binOp BinOp.add 3 (Operand.const (Value.int IntKind.i64 8)) (Operand.tmp 146) 3, some (143, false)⟩,
    ⟨some 148, Op.call { callee := Callee.value (Operand.func 29), args := #[Operand.tmp 145, Operand.tmp 147], argTypes := #[26, 3] }, some (143, false)⟩,
    ⟨some 149, Op.move (Operand.tmp 1), some (143, false)⟩,
    ⟨some 150, Op.call { callee := Callee.value (Operand.func 38), args := #[Operand.tmp 149], argTypes := #[25] }, some (143, false)⟩,
    ⟨some 151, Op.move (Operand.tmp 12), some (143, false)⟩,
    ⟨some 152, Op.binOp BinOp.add 3 (Operand.const (Value.int IntKind.i64 8)) (Operand.tmp 151) 3, some (143, false)⟩,
    ⟨some 153, Op.call { callee := Callee.value (Operand.func 29), args := #[Operand.tmp 150, Operand.tmp 152], argTypes := #[26, 3] }, some (143, false)⟩,
    ⟨some 154, Op.binOp BinOp.neq 3 (Operand.tmp 148) (Operand.tmp 153) 3, some (143, false)⟩,
    ⟨some 155, Op.pick (Operand.tmp 143) (Operand.const (Value.bool true)) (Operand.tmp 154), none⟩])
  (.cond (Operand.tmp 155)
  (.seq (.ops [⟨some 6, Op.assign (Operand.const (Value.bool false)), none⟩])
  .ret)
  .skip)))))))
  (.ops [⟨some 94, Op.move (Operand.tmp 12), none⟩,
    ⟨some 95, Op.binOp BinOp.add 3 (Operand.tmp 94) (Operand.const (Value.int IntKind.i64 1)) 3, none⟩,
    ⟨some 12, Op.assign (Operand.tmp 95), none⟩])))
def ir17 : LC := (.seq (.ops [⟨some 5, Op.box 48 (Operand.tmp 2), none⟩,
    ⟨some 6, Op.assign (Operand.const (Value.bool false)), none⟩])
  (.seq (.ops [⟨some 7, Op.assign (Operand.const (Value.bool true)), none⟩])
  (.seq (.seq (.ops [⟨some 21, Op.fieldAddr 48 (Operand.tmp 5) 0, none⟩,
    ⟨some 22, Op.load 3 (Operand.tmp 21), none⟩])
  (.block 0 (.seq (.ops [⟨some 24, Op.binOp BinOp.eql 3 (Operand.tmp 22) (Operand.const (Value.int IntKind.i64 1)) 3, none⟩,
    ⟨some 23, Op.assign (Operand.tmp 24), none⟩])
  (.cond (Operand.tmp 23)
  (.seq (.ops [⟨some 26, Op.move (Operand.tmp 0), none⟩,
    ⟨some 27, Op.fieldAddr 48 (Operand.tmp 5) 2, none⟩,
    ⟨some 28, Op.load 3 (Operand.tmp 27), none⟩,
    ⟨some 29, Op.call { callee := Callee.value (Operand.func 19), args := #[Operand.tmp 26, Operand.const (Value.int IntKind.i64 1), Operand.tmp 28], argTypes := #[25, 3, 3] }, none⟩,
    ⟨some 25, Op.move (Operand.tmp 29), none⟩,
    ⟨some 30, Op.extract (Operand.tmp 25) 0, none⟩,
    ⟨some 31, Op.extract (Operand.tmp 25) 1, none⟩,
    ⟨some 8, Op.assign (Operand.tmp 30), none⟩,
    ⟨some 9, Op.assign (Operand.tmp 31), none⟩])
  (.seq (.ops [⟨some 33, Op.move (Operand.tmp 1), none⟩,
    ⟨some 34, Op.fieldAddr 48 (Operand.tmp 5) 2, none⟩,
    ⟨some 35, Op.load 3 (Operand.tmp 34), none⟩,
    ⟨some 36, Op.call { callee := Callee.value (Operand.func 19), args := #[Operand.tmp 33, Operand.const (Value.int IntKind.i64 1), Operand.tmp 35], argTypes := #[25, 3, 3] }, none⟩,
    ⟨some 32, Op.move (Operand.tmp 36), none⟩,
    ⟨some 37, Op.extract (Operand.tmp 32) 0, none⟩,
    ⟨some 38, Op.extract (Operand.tmp 32) 1, none⟩,
    ⟨some 10, Op.assign (Operand.tmp 37), none⟩,
    ⟨some 11, Op.assign (Operand.tmp 38), none⟩])
  (.ops [⟨some 39, Op.move (Operand.tmp 8), none⟩,
    ⟨some 40, Op.move (Operand.tmp 10), none⟩,
    ⟨some 41, Op.binOp BinOp.eql 3 (Operand.tmp 39) (Operand.tmp 40) 3, none⟩,
    ⟨some 42, Op.move (Operand.tmp 41), none⟩,
    ⟨some 43, Op.move (Operand.tmp 9), some (42, true)⟩,
    ⟨some 44, Op.call { callee := Callee.value (Operand.func 15), args := #[Operand.tmp 43], argTypes := #[37] }, some (42, true)⟩,
    ⟨some 45, Op.move (Operand.tmp 11), some (42, true)⟩,
    ⟨some 46, Op.call { callee := Callee.value (Operand.func 15), args := #[Operand.tmp 45], argTypes := #[37] }, some (42, true)⟩,
    ⟨some 47, Op.binOp BinOp.eql 3 (Operand.tmp 44) (Operand.tmp 46) 3, some (42, true)⟩,
    ⟨some 48, Op.pick (Operand.tmp 42) (Operand.tmp 47) (Operand.const (Value.bool false)), none⟩,
    ⟨some 7, Op.assign (Operand.tmp 48), none⟩])))
  (.seq (.ops [⟨some 50, Op.binOp BinOp.eql 3 (Operand.tmp 22) (Operand.const (Value.int IntKind.i64 2)) 3, none⟩,
    ⟨some 49, Op.assign (Operand.tmp 50), none⟩])
  (.cond (Operand.tmp 49)
  (.draw [⟨some 51, Op.move (Operand.tmp 0), none⟩,
    ⟨some 52, Op.fieldAddr 48 (Operand.tmp 5) 2, none⟩,
    ⟨some 53, Op.load 3 (Operand.tmp 52), none⟩,
    ⟨some 54, Op.fieldAddr 48 (Operand.tmp 5) 3, none⟩,
    ⟨some 55, Op.load 3 (Operand.tmp 54), none⟩,
    ⟨some 56, Op.call { callee := Callee.value (Operand.func 20), args := #[Operand.tmp 51, Operand.const (Value.int IntKind.i64 1), Operand.tmp 53, Operand.tmp 55], argTypes := #[25, 3, 3, 3] }, none⟩,
    ⟨some 57, Op.call { callee := Callee.value (Operand.func 15), args := #[Operand.tmp 56], argTypes := #[37] }, none⟩,
    ⟨some 58, Op.move (Operand.tmp 1), none⟩,
    ⟨some 59, Op.fieldAddr 48 (Operand.tmp 5) 2, none⟩,
    ⟨some 60, Op.load 3 (Operand.tmp 59), none⟩,
    ⟨some 61, Op.fieldAddr 48 (Operand.tmp 5) 3, none⟩,
    ⟨some 62, Op.load 3 (Operand.tmp 61), none⟩,
    ⟨some 63, Op.call { callee := Callee.value (Operand.func 20), args := #[Operand.tmp 58, Operand.const (Value.int IntKind.i64 1), Operand.tmp 60, Operand.tmp 62], argTypes := #[25, 3, 3, 3] }, none⟩,
    ⟨some 64, Op.call { callee := Callee.value (Operand.func 15), args := #[Operand.tmp 63], argTypes := #[37] }, none⟩,
    ⟨some 65, Op.binOp BinOp.eql 3 (Operand.tmp 57) (Operand.tmp 64) 3, none⟩,
    ⟨some 7, Op.assign (Operand.tmp 65), none⟩] [(5, 7), (6, 7), (5, 8), (6, 8), (5, 9), (6, 9), (5, 10), (6, 10), (5, 11), (6, 11)])
  (.seq (.ops [⟨some 67, Op.binOp BinOp.eql 3 (Operand.tmp 22) (Operand.const (Value.int IntKind.i64 3)) 3, none⟩,
    ⟨some 66, Op.assign (Operand.tmp 67), none⟩])
  (.cond (Operand.tmp 66)
  (.draw [⟨some 68, Op.move (Operand.tmp 0), none⟩,
    ⟨some 69, Op.fieldAddr 48 (Operand.tmp 5) 2, none⟩,
    ⟨some 70, Op.load 3 (Operand.tmp 69), none⟩,
    ⟨some 71, Op.fieldAddr 48 (Operand.tmp 5) 4, none⟩,
    ⟨some 72, Op.load 45 (Operand.tmp 71), none⟩,
    ⟨some 73, Op.call { callee := Callee.value (Operand.func 26), args := #[Operand.tmp 68, Operand.const (Value.int IntKind.i64 1), Operand.tmp 70, Operand.tmp 72], argTypes := #[25, 3, 3, 45] }, none⟩,
    ⟨some 74, Op.call { callee := Callee.value (Operand.func 15), args := #[Operand.tmp 73], argTypes := #[37] }, none⟩,
    ⟨some 75, Op.move (Operand.tmp 1), none⟩,
    ⟨some 76, Op.fieldAddr 48 (Operand.tmp 5) 2, none⟩,
    ⟨some 77, Op.load 3 (Operand.tmp 76), none⟩,
    ⟨some 78, Op.fieldAddr 48 (Operand.tmp 5) 4, none⟩,
    ⟨some 79, Op.load 45 (Operand.tmp 78), none⟩,
    ⟨some 80, Op.call { callee := Callee.value (Operand.func 26), args := #[Operand.tmp 75, Operand.const (Value.int IntKind.i64 1), Operand.tmp 77, Operand.tmp 79], argTypes := #[25, 3, 3, 45] }, none⟩,
    ⟨some 81, Op.call { callee := Callee.value (Operand.func 15), args := #[Operand.tmp 80], argTypes := #[37] }, none⟩,
    ⟨some 82, Op.binOp BinOp.eql 3 (Operand.tmp 74) (Operand.tmp 81) 3, none⟩,
    ⟨some 7, Op.assign (Operand.tmp 82), none⟩] [(5, 7), (6, 7), (5, 8), (6, 8), (5, 9), (6, 9), (5, 10), (6, 10), (5, 11), (6, 11)])
  (.seq (.ops [⟨some 84, Op.binOp BinOp.eql 3 (Operand.tmp 22) (Operand.const (Value.int IntKind.i64 4)) 3, none⟩,
    ⟨some 83, Op.assign (Operand.tmp 84), none⟩])
  (.cond (Operand.tmp 83)
  (.ops [⟨some 85, Op.move (Operand.tmp 0), none⟩,
    ⟨some 86, Op.call { callee := Callee.value (Operand.func 28), args := #[Operand.tmp 85, Operand.const (Value.int IntKind.i64 1)], argTypes := #[25, 3] }, none⟩,
    ⟨some 87, Op.call { callee := Callee.value (Operand.func 15), args := #[Operand.tmp 86], argTypes := #[37] }, none⟩,
    ⟨some 88, Op.move (Operand.tmp 1), none⟩,
    ⟨some 89, Op.call { callee := Callee.value (Operand.func 28), args := #[Operand.tmp 88, Operand.const (Value.int IntKind.i64 1)], argTypes := #[25, 3] }, none⟩,
    ⟨some 90, Op.call { callee := Callee.value (Operand.func 15), args := #[Operand.tmp 89], argTypes := #[37] }, none⟩,
    ⟨some 91, Op.binOp BinOp.eql 3 (Operand.tmp 87) (Operand.tmp 90) 3, none⟩,
    ⟨some 7, Op.assign (Operand.tmp 91), none⟩])
  .skip))))))))))
  (.seq (.seq (.ops [⟨some 12, Op.assign (Operand.const (Value.int IntKind.i64 0)), none⟩])
  (.block 1 (.loop ir17_l0)))
  (.seq (.ops [⟨some 156, Op.move (Operand.tmp 7), none⟩,
    ⟨some 157, Op.move (Operand.tmp 156), none⟩,
    ⟨some 158, Op.move (Operand.tmp 0), some (157, true)⟩,
    ⟨some 159, Op.call { callee := Callee.value (Operand.func 24), args := #[Operand.tmp 158, Operand.const (Value.int IntKind.i64 1)], argTypes := #[25, 3] }, some (157, true)⟩,
    ⟨some 160, Op.move (Operand.tmp 1), some (157, true)⟩,
    ⟨some 161, Op.call { callee := Callee.value (Operand.func 24), args := #[Operand.tmp 160, Operand.const (Value.int IntKind.i64 1)], argTypes := #[25, 3] }, some (157, true)⟩,
    ⟨some 162, Op.binOp BinOp.eql 3 (Operand.tmp 159) (Operand.tmp 161) 3, some (157, true)⟩,
    ⟨some 163, Op.pick (Operand.tmp 157) (Operand.tmp 162) (Operand.const (Value.bool false)), none⟩,
    ⟨some 6, Op.assign (Operand.tmp 163), none⟩])
  .ret)))))
theorem ir17_eq : (Try.f17.body.map low, Try.f17.ntmps, Try.f17.results.toList) = (some ir17, 164, [.tmp 6]) := by kernel_rfl
def ir19_l0 : LC := (.seq (.seq (.ops [⟨some 45, Op.move (Operand.tmp 11), none⟩,
    ⟨some 46, Op.move (Operand.tmp 10), none⟩,
    ⟨some 47, Op.move (Operand.tmp 2), none⟩,
    ⟨some 48, Op.binOp BinOp.add 3 (Operand.tmp 46) (Operand.tmp 47) 3, none⟩,
    ⟨some 49, Op.binOp BinOp.lss 3 (Operand.tmp 45) (Operand.tmp 48) 3, none⟩])
  (.cond (Operand.tmp 49)
  .skip
  (.exit 3)))
  (.seq (.block 4 (.seq (.ops [⟨some 52, Op.move (Operand.tmp 8), none⟩,
    ⟨some 53, Op.move (Operand.tmp 11), none⟩,
    ⟨some 54, Op.call { callee := Callee.value (Operand.func 45), args := #[Operand.tmp 52, Operand.tmp 53], argTypes := #[76, 3] }, none⟩])
  (.cond (Operand.tmp 54)
  (.exit 2)
  .skip)))
  (.ops [⟨some 50, Op.move (Operand.tmp 11), none⟩,
    ⟨some 51, Op.binOp BinOp.add 3 (Operand.tmp 50) (Operand.const (Value.int IntKind.i64 1)) 3, none⟩,
    ⟨some 11, Op.assign (Operand.tmp 51), none⟩])))
def ir19_l1 : LC := (.seq (.seq (.ops [⟨some 56, Op.move (Operand.tmp 12), none⟩,
    ⟨some 57, Op.move (Operand.tmp 10), none⟩,
    ⟨some 58, Op.move (Operand.tmp 2), none⟩,
    ⟨some 59, Op.binOp BinOp.add 3 (Operand.tmp 57) (Operand.tmp 58) 3, none⟩,
    ⟨some 60, Op.binOp BinOp.lss 3 (Operand.tmp 56) (Operand.tmp 59) 3, none⟩])
  (.cond (Operand.tmp 60)
  .skip
  (.exit 5)))
  (.seq (.block 6 (.ops [⟨some 63, Op.move (Operand.tmp 8), none⟩,
    ⟨some 64, Op.move (Operand.tmp 12), none⟩,
    ⟨some 65, Op.call { callee := Callee.value (Operand.func 46), args := #[Operand.tmp 63, Operand.tmp 64, Operand.const (Value.bool true)], argTypes := #[76, 3, 4] }, none⟩]))
  (.ops [⟨some 61, Op.move (Operand.tmp 12), none⟩,
    ⟨some 62, Op.binOp BinOp.add 3 (Operand.tmp 61) (Operand.const (Value.int IntKind.i64 1)) 3, none⟩,
    ⟨some 12, Op.assign (Operand.tmp 62), none⟩])))
def ir19_l2 : LC := (.seq (.seq (.ops [⟨some 26, Op.move (Operand.tmp 10), none⟩,
    ⟨some 27, Op.move (Operand.tmp 8), none⟩,
    ⟨some 28, Op.nilCheck (Operand.tmp 27), none⟩,
    ⟨some 29, Op.fieldAddr 57 (Operand.tmp 28) 1, none⟩,
    ⟨some 30, Op.load 3 (Operand.tmp 29), none⟩,
    ⟨some 31, Op.binOp BinOp.lss 3 (Operand.tmp 26) (Operand.tmp 30) 3, none⟩,
    ⟨some 32, Op.move (Operand.tmp 31), none⟩,
    ⟨some 33, Op.move (Operand.tmp 2), some (32, true)⟩,
    ⟨some 34, Op.move (Operand.tmp 8), some (32, true)⟩,
    ⟨some 35, Op.nilCheck (Operand.tmp 34), some (32, true)⟩,
    ⟨some 36, Op.fieldAddr 57 (Operand.tmp 35) 1, some (32, true)⟩,
    ⟨some 37, Op.load 3 (Operand.tmp 36), some (32, true)⟩,
    ⟨some 38, Op.move (Operand.tmp 10), some (32, true)⟩,
    ⟨some 39, Op.binOp BinOp.sub 3 (Operand.tmp 37) (Operand.tmp 38) 3, some (32, true)⟩,
    ⟨some 40, Op.binOp BinOp.leq 3 (Operand.tmp 33) (Operand.tmp 39) 3, some (32, true)⟩,
    ⟨some 41, Op.pick (Operand.tmp 32) (Operand.tmp 40) (Operand.const (Value.bool false)), none⟩])
  (.cond (Operand.tmp 41)
  .skip
  (.exit 1)))
  (.seq (.block 2 (.seq (.seq (.ops [⟨some 44, Op.move (Operand.tmp 10), none⟩,
    ⟨some 11, Op.assign (Operand.tmp 44), none⟩])
  (.block 3 (.loop ir19_l0)))
  (.seq (.seq (.ops [⟨some 55, Op.move (Operand.tmp 10), none⟩,
    ⟨some 12, Op.assign (Operand.tmp 55), none⟩])
  (.block 5 (.loop ir19_l1)))
  (.seq (.ops [⟨some 66, Op.move (Operand.tmp 10), none⟩,
    ⟨some 6, Op.assign (Operand.tmp 66), none⟩,
    ⟨some 7, Op.assign (Operand.const (Value.int IntKind.i64 0)), none⟩])
  .ret))))
  (.ops [⟨some 42, Op.move (Operand.tmp 10), none⟩,
    ⟨some 43, Op.binOp BinOp.add 3 (Operand.tmp 42) (Operand.const (Value.int IntKind.i64 1)) 3, none⟩,
    ⟨some 10, Op.assign (Operand.tmp 43), none⟩])))
def ir19 : LC := (.seq (.ops [⟨some 6, Op.assign (Operand.const (Value.int IntKind.i64 0)), none⟩,
    ⟨some 7, Op.assign (Operand.const (Value.int IntKind.i64 0)), none⟩])
  (.seq (.ops [⟨some 14, Op.move (Operand.tmp 0), none⟩,
    ⟨some 15, Op.move (Operand.tmp 1), none⟩,
    ⟨some 16, Op.call { callee := Callee.value (Operand.func 32), args := #[Operand.tmp 14, Operand.tmp 15], argTypes := #[25, 3] }, none⟩,
    ⟨some 13, Op.move (Operand.tmp 16), none⟩,
    ⟨some 17, Op.extract (Operand.tmp 13) 0, none⟩,
    ⟨some 18, Op.extract (Operand.tmp 13) 1, none⟩,
    ⟨some 8, Op.assign (Operand.tmp 17), none⟩,
    ⟨some 9, Op.assign (Operand.tmp 18), none⟩])
  (.seq (.block 0 (.seq (.ops [⟨some 20, Op.move (Operand.tmp 9), none⟩,
    ⟨some 21, Op.binOp BinOp.neq 37 (Operand.tmp 20) (Operand.const (Value.int IntKind.i64 0)) 37, none⟩,
    ⟨some 19, Op.assign (Operand.tmp 21), none⟩])
  (.cond (Operand.tmp 19)
  (.seq (.ops [⟨some 22, Op.move (Operand.tmp 9), none⟩,
    ⟨some 6, Op.assign (Operand.const (Value.int IntKind.i64 0)), none⟩,
    ⟨some 7, Op.assign (Operand.tmp 22), none⟩])
  .ret)
  (.seq (.ops [⟨some 24, Op.move (Operand.tmp 2), none⟩,
    ⟨some 25, Op.binOp BinOp.lss 3 (Operand.tmp 24) (Operand.const (Value.int IntKind.i64 1)) 3, none⟩,
    ⟨some 23, Op.assign (Operand.tmp 25), none⟩])
  (.cond (Operand.tmp 23)
  (.seq (.ops [⟨some 6, Op.assign (Operand.const (Value.int IntKind.i64 0)), none⟩,
    ⟨some 7, Op.assign (Operand.const (Value.int IntKind.i64 2)), none⟩])
  .ret)
  .skip)))))
  (.seq .skip
  (.seq (.seq (.ops [⟨some 10, Op.assign (Operand.const (Value.int IntKind.i64 0)), none⟩])
  (.block 1 (.loop ir19_l2)))
  (.seq (.ops [⟨some 6, Op.assign (Operand.const (Value.int IntKind.i64 0)), none⟩,
    ⟨some 7, Op.assign (Operand.const (Value.int IntKind.i64 5)), none⟩])
  .ret))))))
theorem ir19_eq : (Try.f19.body.map low, Try.f19.ntmps, Try.f19.results.toList) = (some ir19, 67, [.tmp 6, .tmp 7]) := by kernel_rfl
def ir20_l0 : LC := (.seq (.seq (.ops [⟨some 48, Op.move (Operand.tmp 11), none⟩,
    ⟨some 49, Op.move (Operand.tmp 2), none⟩,
    ⟨some 50, Op.move (Operand.tmp 3), none⟩,
    ⟨some 51, Op.binOp BinOp.add 3 (Operand.tmp 49) (Operand.tmp 50) 3, none⟩,
    ⟨some 52, Op.binOp BinOp.lss 3 (Operand.tmp 48) (Operand.tmp 51) 3, none⟩])
  (.cond (Operand.tmp 52)
  .skip
  (.exit 1)))
  (.seq (.block 2 (.seq (.ops [⟨some 55, Op.move (Operand.tmp 9), none⟩,
    ⟨some 56, Op.move (Operand.tmp 11), none⟩,
    ⟨some 57, Op.call { callee := Callee.value (Operand.func 45), args := #[Operand.tmp 55, Operand.tmp 56], argTypes := #[76, 3] }, none⟩,
    ⟨some 58, Op.unOp UnOp.not 4 (Operand.tmp 57), none⟩])
  (.cond (Operand.tmp 58)
  (.seq (.ops [⟨some 8, Op.assign (Operand.const (Value.int IntKind.i64 6)), none⟩])
  .ret)
  .skip)))
  (.ops [⟨some 53, Op.move (Operand.tmp 11), none⟩,
    ⟨some 54, Op.binOp BinOp.add 3 (Operand.tmp 53) (Operand.const (Value.int IntKind.i64 1)) 3, none⟩,
    ⟨some 11, Op.assign (Operand.tmp 54), none⟩])))
def ir20_l1 : LC := (.seq (.seq (.ops [⟨some 60, Op.move (Operand.tmp 12), none⟩,
    ⟨some 61, Op.move (Operand.tmp 2), none⟩,
    ⟨some 62, Op.move (Operand.tmp 3), none⟩,
    ⟨some 63, Op.binOp BinOp.add 3 (Operand.tmp 61) (Operand.tmp 62) 3, none⟩,
    ⟨some 64, Op.binOp BinOp.lss 3 (Operand.tmp 60) (Operand.tmp 63) 3, none⟩])
  (.cond (Operand.tmp 64)
  .skip
  (.exit 3)))
  (.seq (.block 4 (.ops [⟨some 67, Op.move (Operand.tmp 9), none⟩,
    ⟨some 68, Op.move (Operand.tmp 12), none⟩,
    ⟨some 69, Op.call { callee := Callee.value (Operand.func 46), args := #[Operand.tmp 67, Operand.tmp 68, Operand.const (Value.bool false)], argTypes := #[76, 3, 4] }, none⟩]))
  (.ops [⟨some 65, Op.move (Operand.tmp 12), none⟩,
    ⟨some 66, Op.binOp BinOp.add 3 (Operand.tmp 65) (Operand.const (Value.int IntKind.i64 1)) 3, none⟩,
    ⟨some 12, Op.assign (Operand.tmp 66), none⟩])))
def ir20 : LC := (.seq (.ops [⟨some 8, Op.assign (Operand.const (Value.int IntKind.i64 0)), none⟩])
  (.seq (.ops [⟨some 14, Op.move (Operand.tmp 0), none⟩,
    ⟨some 15, Op.move (Operand.tmp 1), none⟩,
    ⟨some 16, Op.call { callee := Callee.value (Operand.func 32), args := #[Operand.tmp 14, Operand.tmp 15], argTypes := #[25, 3] }, none⟩,
    ⟨some 13, Op.move (Operand.tmp 16), none⟩,
    ⟨some 17, Op.extract (Operand.tmp 13) 0, none⟩,
    ⟨some 18, Op.extract (Operand.tmp 13) 1, none⟩,
    ⟨some 9, Op.assign (Operand.tmp 17), none⟩,
    ⟨some 10, Op.assign (Operand.tmp 18), none⟩])
  (.seq (.block 0 (.seq (.ops [⟨some 20, Op.move (Operand.tmp 10), none⟩,
    ⟨some 21, Op.binOp BinOp.neq 37 (Operand.tmp 20) (Operand.const (Value.int IntKind.i64 0)) 37, none⟩,
    ⟨some 19, Op.assign (Operand.tmp 21), none⟩])
  (.cond (Operand.tmp 19)
  (.seq (.ops [⟨some 22, Op.move (Operand.tmp 10), none⟩,
    ⟨some 8, Op.assign (Operand.tmp 22), none⟩])
  .ret)
  (.seq (.ops [⟨some 24, Op.move (Operand.tmp 3), none⟩,
    ⟨some 25, Op.binOp BinOp.lss 3 (Operand.tmp 24) (Operand.const (Value.int IntKind.i64 1)) 3, none⟩,
    ⟨some 26, Op.move (Operand.tmp 25), none⟩,
    ⟨some 27, Op.move (Operand.tmp 2), some (26, false)⟩,
    ⟨some 28, Op.binOp BinOp.lss 3 (Operand.tmp 27) (Operand.const (Value.int IntKind.i64 0)) 3, some (26, false)⟩,
    ⟨some 29, Op.pick (Operand.tmp 26) (Operand.const (Value.bool true)) (Operand.tmp 28), none⟩,
    ⟨some 23, Op.assign (Operand.tmp 29), none⟩])
  (.cond (Operand.tmp 23)
  (.seq (.ops [⟨some 8, Op.assign (Operand.const (Value.int IntKind.i64 2)), none⟩])
  .ret)
  (.seq (.ops [⟨some 31, Op.move (Operand.tmp 2), none⟩,
    ⟨some 32, Op.move (Operand.tmp 9), none⟩,
    ⟨some 33, Op.nilCheck (Operand.tmp 32), none⟩,
    ⟨some 34, Op.fieldAddr 57 (Operand.tmp 33) 1, none⟩,
    ⟨some 35, Op.load 3 (Operand.tmp 34), none⟩,
    ⟨some 36, Op.binOp BinOp.gtr 3 (Operand.tmp 31) (Operand.tmp 35) 3, none⟩,
    ⟨some 37, Op.move (Operand.tmp 36), none⟩,
    ⟨some 38, Op.move (Operand.tmp 3), some (37, false)⟩,
    ⟨some 39, Op.move (Operand.tmp 9), some (37, false)⟩,
    ⟨some 40, Op.nilCheck (Operand.tmp 39), some (37, false)⟩,
    ⟨some 41, Op.fieldAddr 57 (Operand.tmp 40) 1, some (37, false)⟩,
    ⟨some 42, Op.load 3 (Operand.tmp 41), some (37, false)⟩,
    ⟨some 43, Op.move (Operand.tmp 2), some (37, false)⟩,
    ⟨some 44, Op.binOp BinOp.sub 3 (Operand.tmp 42) (Operand.tmp 43) 3, some (37, false)⟩,
    ⟨some 45, Op.binOp BinOp.gtr 3 (Operand.tmp 38) (Operand.tmp 44) 3, some (37, false)⟩,
    ⟨some 46, Op.pick (Operand.tmp 37) (Operand.const (Value.bool true)) (Operand.tmp 45), none⟩,
    ⟨some 30, Op.assign (Operand.tmp 46), none⟩])
  (.cond (Operand.tmp 30)
  (.seq (.ops [⟨some 8, Op.assign (Operand.const (Value.int IntKind.i64 6)), none⟩])
  .ret)
  .skip)))))))
  (.seq (.seq (.ops [⟨some 47, Op.move (Operand.tmp 2), none⟩,
    ⟨some 11, Op.assign (Operand.tmp 47), none⟩])
  (.block 1 (.loop ir20_l0)))
  (.seq (.seq (.ops [⟨some 59, Op.move (Operand.tmp 2), none⟩,
    ⟨some 12, Op.assign (Operand.tmp 59), none⟩])
  (.block 3 (.loop ir20_l1)))
  (.seq (.ops [⟨some 8, Op.assign (Operand.const (Value.int IntKind.i64 0)), none⟩])
  .ret))))))
theorem ir20_eq : (Try.f20.body.map low, Try.f20.ntmps, Try.f20.results.toList) = (some ir20, 70, [.tmp 8]) := by kernel_rfl
noncomputable def rc24 (i : Nat) : Code × Code := (((Try.f24.body.map rangesOf).getD [])[i]?).getD (.skip, .skip)
noncomputable def ir24_a0 : LC := (.ops [⟨some 6, Op.alloc 118, none⟩,
    ⟨none, Op.store 118 (Operand.tmp 6) (Operand.tmp 10), none⟩])
noncomputable def ir24_b0 : LC := (.block 1 (.ops [⟨some 11, Op.load 3 (Operand.tmp 5), none⟩,
    ⟨some 12, Op.fieldAddr 118 (Operand.tmp 6) 1, none⟩,
    ⟨some 13, Op.load 3 (Operand.tmp 12), none⟩,
    ⟨some 14, Op.binOp BinOp.add 3 (Operand.tmp 11) (Operand.tmp 13) 3, none⟩,
    ⟨none, Op.store 3 (Operand.tmp 5) (Operand.tmp 14), none⟩]))
theorem ir24_a0_eq : low (rc24 0).1 = ir24_a0 := by kernel_rfl
theorem ir24_b0_eq : low (rc24 0).2 = ir24_b0 := by kernel_rfl
noncomputable def ir24 : LC := (.seq (.ops [⟨some 4, Op.assign (Operand.const (Value.int IntKind.i64 0)), none⟩])
  (.seq (.ops [⟨some 5, Op.alloc 3, none⟩,
    ⟨none, Op.store 3 (Operand.tmp 5) (Operand.const (Value.int IntKind.i64 0)), none⟩])
  (.seq (.seq (.ops [⟨some 7, Op.move (Operand.tmp 0), none⟩,
    ⟨some 8, Op.move (Operand.tmp 1), none⟩,
    ⟨some 9, Op.call { callee := Callee.value (Operand.func 48), args := #[Operand.tmp 7, Operand.tmp 8], argTypes := #[25, 3] }, none⟩])
  (.block 0 (.range (Operand.tmp 9) #[10] (rc24 0).1 (rc24 0).2)))
  (.seq (.ops [⟨some 15, Op.load 3 (Operand.tmp 5), none⟩,
    ⟨some 4, Op.assign (Operand.tmp 15), none⟩])
  .ret))))
theorem ir24_eq : (Try.f24.body.map low, Try.f24.ntmps, Try.f24.results.toList) = (some ir24, 16, [.tmp 4]) := by kernel_rfl
def ir26 : LC := (.seq (.ops [⟨some 8, Op.assign (Operand.const (Value.int IntKind.i64 0)), none⟩])
  (.seq (.ops [⟨some 12, Op.move (Operand.tmp 0), none⟩,
    ⟨some 13, Op.move (Operand.tmp 1), none⟩,
    ⟨some 14, Op.move (Operand.tmp 2), none⟩,
    ⟨some 15, Op.call { callee := Callee.value (Operand.func 61), args := #[Operand.tmp 12, Operand.tmp 13, Operand.tmp 14], argTypes := #[25, 3, 3] }, none⟩,
    ⟨some 11, Op.move (Operand.tmp 15), none⟩,
    ⟨some 16, Op.extract (Operand.tmp 11) 0, none⟩,
    ⟨some 17, Op.extract (Operand.tmp 11) 1, none⟩,
    ⟨some 9, Op.assign (Operand.tmp 16), none⟩,
    ⟨some 10, Op.assign (Operand.tmp 17), none⟩])
  (.seq (.seq (.ops [⟨some 18, Op.move (Operand.tmp 10), none⟩,
    ⟨some 19, Op.binOp BinOp.neq 37 (Operand.tmp 18) (Operand.const (Value.int IntKind.i64 0)) 37, none⟩])
  (.cond (Operand.tmp 19)
  (.seq (.ops [⟨some 20, Op.move (Operand.tmp 10), none⟩,
    ⟨some 8, Op.assign (Operand.tmp 20), none⟩])
  .ret)
  .skip))
  (.seq (.ops [⟨some 21, Op.move (Operand.tmp 0), none⟩,
    ⟨some 22, Op.nilCheck (Operand.tmp 21), none⟩,
    ⟨some 23, Op.fieldAddr 60 (Operand.tmp 22) 0, none⟩,
    ⟨some 24, Op.load 26 (Operand.tmp 23), none⟩,
    ⟨some 25, Op.move (Operand.tmp 9), none⟩,
    ⟨some 26, Op.move (Operand.tmp 3), none⟩,
    ⟨some 27, Op.call { callee := Callee.value (Operand.func 62), args := #[Operand.tmp 24, Operand.tmp 25, Operand.tmp 26], argTypes := #[26, 3, 45] }, none⟩,
    ⟨some 8, Op.assign (Operand.tmp 27), none⟩])
  .ret))))
theorem ir26_eq : (Try.f26.body.map low, Try.f26.ntmps, Try.f26.results.toList) = (some ir26, 28, [.tmp 8]) := by kernel_rfl
def ir28 : LC := (.seq (.ops [⟨some 4, Op.assign (Operand.const (Value.int IntKind.i64 0)), none⟩])
  (.seq (.ops [⟨some 8, Op.move (Operand.tmp 0), none⟩,
    ⟨some 9, Op.move (Operand.tmp 1), none⟩,
    ⟨some 10, Op.call { callee := Callee.value (Operand.func 32), args := #[Operand.tmp 8, Operand.tmp 9], argTypes := #[25, 3] }, none⟩,
    ⟨some 7, Op.move (Operand.tmp 10), none⟩,
    ⟨some 11, Op.extract (Operand.tmp 7) 0, none⟩,
    ⟨some 12, Op.extract (Operand.tmp 7) 1, none⟩,
    ⟨some 5, Op.assign (Operand.tmp 11), none⟩,
    ⟨some 6, Op.assign (Operand.tmp 12), none⟩])
  (.seq (.seq (.ops [⟨some 13, Op.move (Operand.tmp 6), none⟩,
    ⟨some 14, Op.binOp BinOp.neq 37 (Operand.tmp 13) (Operand.const (Value.int IntKind.i64 0)) 37, none⟩])
  (.cond (Operand.tmp 14)
  (.seq (.ops [⟨some 15, Op.move (Operand.tmp 6), none⟩,
    ⟨some 4, Op.assign (Operand.tmp 15), none⟩])
  .ret)
  .skip))
  (.seq (.draw [⟨some 16, Op.move (Operand.tmp 0), none⟩,
    ⟨some 17, Op.nilCheck (Operand.tmp 16), none⟩,
    ⟨some 18, Op.fieldAddr 60 (Operand.tmp 17) 0, none⟩,
    ⟨some 19, Op.load 26 (Operand.tmp 18), none⟩,
    ⟨some 20, Op.move (Operand.tmp 5), none⟩,
    ⟨some 21, Op.nilCheck (Operand.tmp 20), none⟩,
    ⟨some 22, Op.fieldAddr 57 (Operand.tmp 21) 0, none⟩,
    ⟨some 23, Op.load 3 (Operand.tmp 22), none⟩,
    ⟨some 24, Op.move (Operand.tmp 5), none⟩,
    ⟨some 25, Op.nilCheck (Operand.tmp 24), none⟩,
    ⟨some 26, Op.fieldAddr 57 (Operand.tmp 25) 1, none⟩,
    ⟨some 27, Op.load 3 (Operand.tmp 26), none⟩,
    ⟨some 28, Op.call { callee := Callee.value (Operand.func 63), args := #[Operand.tmp 19, Operand.tmp 23, Operand.tmp 27], argTypes := #[26, 3, 3] }, none⟩,
    ⟨some 4, Op.assign (Operand.tmp 28), none⟩] [])
  .ret))))
theorem ir28_eq : (Try.f28.body.map low, Try.f28.ntmps, Try.f28.results.toList) = (some ir28, 29, [.tmp 4]) := by kernel_rfl
def ir29 : LC := (.seq (.ops [⟨some 4, Op.assign (Operand.const (Value.int IntKind.i64 0)), none⟩])
  (.seq (.seq (.ops [⟨some 5, Op.move (Operand.tmp 0), none⟩,
    ⟨some 6, Op.move (Operand.tmp 1), none⟩,
    ⟨some 7, Op.call { callee := Callee.value (Operand.func 64), args := #[Operand.tmp 5, Operand.tmp 6], argTypes := #[26, 3] }, none⟩,
    ⟨some 8, Op.binOp BinOp.neq 37 (Operand.tmp 7) (Operand.const (Value.int IntKind.i64 0)) 37, none⟩])
  (.cond (Operand.tmp 8)
  (.seq (.ops [⟨some 4, Op.assign (Operand.const (Value.int IntKind.i64 0)), none⟩])
  .ret)
  .skip))
  (.seq (.ops [⟨some 9, Op.move (Operand.tmp 0), none⟩,
    ⟨some 10, Op.nilCheck (Operand.tmp 9), none⟩,
    ⟨some 11, Op.fieldAddr 88 (Operand.tmp 10) 1, none⟩,
    ⟨some 12, Op.load 86 (Operand.tmp 11), none⟩,
    ⟨some 13, Op.move (Operand.tmp 1), none⟩,
    ⟨some 14, Op.lookup 86 (Operand.tmp 12) (Operand.tmp 13) false, none⟩,
    ⟨some 15, Op.call { callee := Callee.builtin Builtin.len, args := #[Operand.tmp 14], argTypes := #[85] }, none⟩,
    ⟨some 4, Op.assign (Operand.tmp 15), none⟩])
  .ret)))
theorem ir29_eq : (Try.f29.body.map low, Try.f29.ntmps, Try.f29.results.toList) = (some ir29, 16, [.tmp 4]) := by kernel_rfl
def ir32 : LC := (.seq (.ops [⟨some 4, Op.assign (Operand.const (Value.pointer none)), none⟩,
    ⟨some 5, Op.assign (Operand.const (Value.int IntKind.i64 0)), none⟩])
  (.seq (.block 0 (.seq (.ops [⟨some 7, Op.move (Operand.tmp 0), none⟩,
    ⟨some 8, Op.call { callee := Callee.value (Operand.func 44), args := #[Operand.tmp 7], argTypes := #[25] }, none⟩,
    ⟨some 9, Op.unOp UnOp.not 4 (Operand.tmp 8), none⟩,
    ⟨some 6, Op.assign (Operand.tmp 9), none⟩])
  (.cond (Operand.tmp 6)
  (.seq (.ops [⟨some 4, Op.assign (Operand.const (Value.pointer none)), none⟩,
    ⟨some 5, Op.assign (Operand.const (Value.int IntKind.i64 1)), none⟩])
  .ret)
  (.seq (.ops [⟨some 11, Op.move (Operand.tmp 1), none⟩,
    ⟨some 12, Op.binOp BinOp.lss 3 (Operand.tmp 11) (Operand.const (Value.int IntKind.i64 0)) 3, none⟩,
    ⟨some 13, Op.move (Operand.tmp 12), none⟩,
    ⟨some 14, Op.move (Operand.tmp 1), some (13, false)⟩,
    ⟨some 15, Op.move (Operand.tmp 0), some (13, false)⟩,
    ⟨some 16, Op.nilCheck (Operand.tmp 15), some (13, false)⟩,
    ⟨some 17, Op.fieldAddr 60 (Operand.tmp 16) 2, some (13, false)⟩,
    ⟨some 18, Op.load 3 (Operand.tmp 17), some (13, false)⟩,
    ⟨some 19, Op.binOp BinOp.geq 3 (Operand.tmp 14) (Operand.tmp 18) 3, some (13, false)⟩,
    ⟨some 20, Op.pick (Operand.tmp 13) (Operand.const (Value.bool true)) (Operand.tmp 19), none⟩,
    ⟨some 10, Op.assign (Operand.tmp 20), none⟩])
  (.cond (Operand.tmp 10)
  (.seq (.ops [⟨some 4, Op.assign (Operand.const (Value.pointer none)), none⟩,
    ⟨some 5, Op.assign (Operand.const (Value.int IntKind.i64 2)), none⟩])
  .ret)
  .skip)))))
  (.seq (.ops [⟨some 21, Op.move (Operand.tmp 0), none⟩,
    ⟨some 22, Op.move (Operand.tmp 1), none⟩,
    ⟨some 23, Op.nilCheck (Operand.tmp 21), none⟩,
    ⟨some 24, Op.fieldAddr 60 (Operand.tmp 23) 1, none⟩,
    ⟨some 25, Op.indexAddr 58 (Operand.tmp 24) (Operand.tmp 22), none⟩,
    ⟨some 4, Op.assign (Operand.tmp 25), none⟩,
    ⟨some 5, Op.assign (Operand.const (Value.int IntKind.i64 0)), none⟩])
  .ret)))
theorem ir32_eq : (Try.f32.body.map low, Try.f32.ntmps, Try.f32.results.toList) = (some ir32, 26, [.tmp 4, .tmp 5]) := by kernel_rfl
def ir38 : LC := (.seq (.ops [⟨some 2, Op.assign (Operand.const (Value.pointer none)), none⟩])
  (.seq (.seq (.ops [⟨some 3, Op.move (Operand.tmp 0), none⟩,
    ⟨some 4, Op.call { callee := Callee.value (Operand.func 44), args := #[Operand.tmp 3], argTypes := #[25] }, none⟩,
    ⟨some 5, Op.unOp UnOp.not 4 (Operand.tmp 4), none⟩])
  (.cond (Operand.tmp 5)
  (.seq (.ops [⟨some 2, Op.assign (Operand.const (Value.pointer none)), none⟩])
  .ret)
  .skip))
  (.seq (.ops [⟨some 6, Op.move (Operand.tmp 0), none⟩,
    ⟨some 7, Op.nilCheck (Operand.tmp 6), none⟩,
    ⟨some 8, Op.fieldAddr 60 (Operand.tmp 7) 0, none⟩,
    ⟨some 9, Op.load 26 (Operand.tmp 8), none⟩,
    ⟨some 2, Op.assign (Operand.tmp 9), none⟩])
  .ret)))
theorem ir38_eq : (Try.f38.body.map low, Try.f38.ntmps, Try.f38.results.toList) = (some ir38, 10, [.tmp 2]) := by kernel_rfl
def ir41 : LC := (.seq (.ops [⟨some 2, Op.assign (Operand.const (Value.int IntKind.i64 0)), none⟩])
  (.seq (.seq (.ops [⟨some 3, Op.move (Operand.tmp 0), none⟩,
    ⟨some 4, Op.call { callee := Callee.value (Operand.func 58), args := #[Operand.tmp 3], argTypes := #[26] }, none⟩,
    ⟨some 5, Op.unOp UnOp.not 4 (Operand.tmp 4), none⟩])
  (.cond (Operand.tmp 5)
  (.seq (.ops [⟨some 2, Op.assign (Operand.const (Value.int IntKind.i64 0)), none⟩])
  .ret)
  .skip))
  (.seq (.ops [⟨some 6, Op.move (Operand.tmp 0), none⟩,
    ⟨some 7, Op.nilCheck (Operand.tmp 6), none⟩,
    ⟨some 8, Op.fieldAddr 88 (Operand.tmp 7) 0, none⟩,
    ⟨some 9, Op.load 85 (Operand.tmp 8), none⟩,
    ⟨some 10, Op.call { callee := Callee.builtin Builtin.len, args := #[Operand.tmp 9], argTypes := #[85] }, none⟩,
    ⟨some 2, Op.assign (Operand.tmp 10), none⟩])
  .ret)))
theorem ir41_eq : (Try.f41.body.map low, Try.f41.ntmps, Try.f41.results.toList) = (some ir41, 11, [.tmp 2]) := by kernel_rfl
def ir42 : LC := (.seq (.ops [⟨some 6, Op.assign (Operand.const (Value.slice none 0 0)), none⟩,
    ⟨some 7, Op.assign (Operand.const (Value.int IntKind.i64 0)), none⟩])
  (.seq (.ops [⟨some 11, Op.move (Operand.tmp 0), none⟩,
    ⟨some 12, Op.move (Operand.tmp 1), none⟩,
    ⟨some 13, Op.move (Operand.tmp 2), none⟩,
    ⟨some 14, Op.call { callee := Callee.value (Operand.func 61), args := #[Operand.tmp 11, Operand.tmp 12, Operand.tmp 13], argTypes := #[25, 3, 3] }, none⟩,
    ⟨some 10, Op.move (Operand.tmp 14), none⟩,
    ⟨some 15, Op.extract (Operand.tmp 10) 0, none⟩,
    ⟨some 16, Op.extract (Operand.tmp 10) 1, none⟩,
    ⟨some 8, Op.assign (Operand.tmp 15), none⟩,
    ⟨some 9, Op.assign (Operand.tmp 16), none⟩])
  (.seq (.seq (.ops [⟨some 17, Op.move (Operand.tmp 9), none⟩,
    ⟨some 18, Op.binOp BinOp.neq 37 (Operand.tmp 17) (Operand.const (Value.int IntKind.i64 0)) 37, none⟩])
  (.cond (Operand.tmp 18)
  (.seq (.ops [⟨some 19, Op.move (Operand.tmp 9), none⟩,
    ⟨some 6, Op.assign (Operand.const (Value.slice none 0 0)), none⟩,
    ⟨some 7, Op.assign (Operand.tmp 19), none⟩])
  .ret)
  .skip))
  (.seq (.ops [⟨some 20, Op.move (Operand.tmp 0), none⟩,
    ⟨some 21, Op.nilCheck (Operand.tmp 20), none⟩,
    ⟨some 22, Op.fieldAddr 60 (Operand.tmp 21) 0, none⟩,
    ⟨some 23, Op.load 26 (Operand.tmp 22), none⟩,
    ⟨some 24, Op.move (Operand.tmp 8), none⟩,
    ⟨some 25, Op.call { callee := Callee.value (Operand.func 67), args := #[Operand.tmp 23, Operand.tmp 24], argTypes := #[26, 3] }, none⟩,
    ⟨some 26, Op.extract (Operand.tmp 25) 0, none⟩,
    ⟨some 27, Op.extract (Operand.tmp 25) 1, none⟩,
    ⟨some 6, Op.assign (Operand.tmp 26), none⟩,
    ⟨some 7, Op.assign (Operand.tmp 27), none⟩])
  .ret))))
theorem ir42_eq : (Try.f42.body.map low, Try.f42.ntmps, Try.f42.results.toList) = (some ir42, 28, [.tmp 6, .tmp 7]) := by kernel_rfl
def ir43 : LC := (.seq (.ops [⟨some 4, Op.assign (Operand.const (Value.slice none 0 0)), none⟩,
    ⟨some 5, Op.assign (Operand.const (Value.int IntKind.i64 0)), none⟩])
  (.seq (.seq (.ops [⟨some 8, Op.move (Operand.tmp 0), none⟩,
    ⟨some 9, Op.move (Operand.tmp 1), none⟩,
    ⟨some 10, Op.call { callee := Callee.value (Operand.func 64), args := #[Operand.tmp 8, Operand.tmp 9], argTypes := #[26, 3] }, none⟩,
    ⟨some 6, Op.assign (Operand.tmp 10), none⟩])
  (.seq (.ops [⟨some 11, Op.move (Operand.tmp 6), none⟩,
    ⟨some 12, Op.binOp BinOp.neq 37 (Operand.tmp 11) (Operand.const (Value.int IntKind.i64 0)) 37, none⟩])
  (.cond (Operand.tmp 12)
  (.seq (.ops [⟨some 13, Op.move (Operand.tmp 6), none⟩,
    ⟨some 4, Op.assign (Operand.const (Value.slice none 0 0)), none⟩,
    ⟨some 5, Op.assign (Operand.tmp 13), none⟩])
  .ret)
  .skip)))
  (.seq (.ops [⟨some 14, Op.move (Operand.tmp 0), none⟩,
    ⟨some 15, Op.nilCheck (Operand.tmp 14), none⟩,
    ⟨some 16, Op.fieldAddr 88 (Operand.tmp 15) 0, none⟩,
    ⟨some 17, Op.load 85 (Operand.tmp 16), none⟩,
    ⟨some 18, Op.move (Operand.tmp 1), none⟩,
    ⟨some 19, Op.indexAddr 85 (Operand.tmp 17) (Operand.tmp 18), none⟩,
    ⟨some 20, Op.load 113 (Operand.tmp 19), none⟩,
    ⟨some 7, Op.alloc 113, none⟩,
    ⟨none, Op.store 113 (Operand.tmp 7) (Operand.tmp 20), none⟩])
  (.seq (.ops [⟨some 21, Op.slice 113 (Operand.tmp 7) none none none, none⟩,
    ⟨some 4, Op.assign (Operand.tmp 21), none⟩,
    ⟨some 5, Op.assign (Operand.const (Value.int IntKind.i64 0)), none⟩])
  .ret))))
theorem ir43_eq : (Try.f43.body.map low, Try.f43.ntmps, Try.f43.results.toList) = (some ir43, 22, [.tmp 4, .tmp 5]) := by kernel_rfl
def ir44 : LC := (.seq (.ops [⟨some 2, Op.assign (Operand.const (Value.bool false)), none⟩])
  (.seq (.ops [⟨some 3, Op.move (Operand.tmp 0), none⟩,
    ⟨some 4, Op.binOp BinOp.neq 25 (Operand.tmp 3) (Operand.const (Value.pointer none)) 25, none⟩,
    ⟨some 5, Op.move (Operand.tmp 4), none⟩,
    ⟨some 6, Op.move (Operand.tmp 0), some (5, true)⟩,
    ⟨some 7, Op.nilCheck (Operand.tmp 6), some (5, true)⟩,
    ⟨some 8, Op.fieldAddr 60 (Operand.tmp 7) 2, some (5, true)⟩,
    ⟨some 9, Op.load 3 (Operand.tmp 8), some (5, true)⟩,
    ⟨some 10, Op.binOp BinOp.gtr 3 (Operand.tmp 9) (Operand.const (Value.int IntKind.i64 0)) 3, some (5, true)⟩,
    ⟨some 11, Op.pick (Operand.tmp 5) (Operand.tmp 10) (Operand.const (Value.bool false)), none⟩,
    ⟨some 2, Op.assign (Operand.tmp 11), none⟩])
  .ret))
theorem ir44_eq : (Try.f44.body.map low, Try.f44.ntmps, Try.f44.results.toList) = (some ir44, 12, [.tmp 2]) := by kernel_rfl
def ir45 : LC := (.seq (.ops [⟨some 4, Op.assign (Operand.const (Value.bool false)), none⟩])
  (.seq (.ops [⟨some 5, Op.move (Operand.tmp 0), none⟩,
    ⟨some 6, Op.nilCheck (Operand.tmp 5), none⟩,
    ⟨some 7, Op.fieldAddr 57 (Operand.tmp 6) 2, none⟩,
    ⟨some 8, Op.load 55 (Operand.tmp 7), none⟩,
    ⟨some 9, Op.move (Operand.tmp 1), none⟩,
    ⟨some 10, Op.binOp BinOp.shr 3 (Operand.tmp 9) (Operand.const (Value.int IntKind.u64 6)) 90, none⟩,
    ⟨some 11, Op.indexAddr 55 (Operand.tmp 8) (Operand.tmp 10), none⟩,
    ⟨some 12, Op.load 123 (Operand.tmp 11), none⟩,
    ⟨some 13, Op.move (Operand.tmp 1), none⟩,
    ⟨some 14, Op.binOp BinOp.and 3 (Operand.tmp 13) (Operand.const (Value.int IntKind.i64 63)) 3, none⟩,
    ⟨some 15, Op.binOp BinOp.shr 123 (Operand.tmp 12) (Operand.tmp 14) 3, none⟩,
    ⟨some 16, Op.binOp BinOp.and 123 (Operand.tmp 15) (Operand.const (Value.int IntKind.u64 1)) 123, none⟩,
    ⟨some 17, Op.binOp BinOp.eql 123 (Operand.tmp 16) (Operand.const (Value.int IntKind.u64 1)) 123, none⟩,
    ⟨some 4, Op.assign (Operand.tmp 17), none⟩])
  .ret))
theorem ir45_eq : (Try.f45.body.map low, Try.f45.ntmps, Try.f45.results.toList) = (some ir45, 18, [.tmp 4]) := by kernel_rfl
def ir46 : LC := (.seq (.draw [⟨some 6, Op.move (Operand.tmp 0), none⟩,
    ⟨some 7, Op.nilCheck (Operand.tmp 6), none⟩,
    ⟨some 8, Op.fieldAddr 57 (Operand.tmp 7) 2, none⟩,
    ⟨some 9, Op.load 55 (Operand.tmp 8), none⟩,
    ⟨some 10, Op.move (Operand.tmp 1), none⟩,
    ⟨some 11, Op.binOp BinOp.shr 3 (Operand.tmp 10) (Operand.const (Value.int IntKind.u64 6)) 90, none⟩,
    ⟨some 12, Op.indexAddr 55 (Operand.tmp 9) (Operand.tmp 11), none⟩,
    ⟨some 13, Op.load 123 (Operand.tmp 12), none⟩,
    ⟨some 14, Op.move (Operand.tmp 1), none⟩,
    ⟨some 15, Op.binOp BinOp.and 3 (Operand.tmp 14) (Operand.const (Value.int IntKind.i64 63)) 3, none⟩,
    ⟨some 16, Op.binOp BinOp.shl 123 (Operand.const (Value.int IntKind.u64 1)) (Operand.tmp 15) 3, none⟩,
    ⟨some 17, Op.binOp BinOp.andNot 123 (Operand.tmp 13) (Operand.tmp 16) 123, none⟩,
    ⟨some 18, Op.indexAddr 55 (Operand.tmp 9) (Operand.tmp 11), none⟩,
    ⟨none, Op.store 123 (Operand.tmp 18) (Operand.tmp 17), none⟩] [])
  (.seq (.ops [⟨some 19, Op.move (Operand.tmp 2), none⟩])
  (.cond (Operand.tmp 19)
  (.draw [⟨some 20, Op.move (Operand.tmp 0), none⟩,
    ⟨some 21, Op.nilCheck (Operand.tmp 20), none⟩,
    ⟨some 22, Op.fieldAddr 57 (Operand.tmp 21) 2, none⟩,
    ⟨some 23, Op.load 55 (Operand.tmp 22), none⟩,
    ⟨some 24, Op.move (Operand.tmp 1), none⟩,
    ⟨some 25, Op.binOp BinOp.shr 3 (Operand.tmp 24) (Operand.const (Value.int IntKind.u64 6)) 90, none⟩,
    ⟨some 26, Op.indexAddr 55 (Operand.tmp 23) (Operand.tmp 25), none⟩,
    ⟨some 27, Op.load 123 (Operand.tmp 26), none⟩,
    ⟨some 28, Op.move (Operand.tmp 1), none⟩,
    ⟨some 29, Op.binOp BinOp.and 3 (Operand.tmp 28) (Operand.const (Value.int IntKind.i64 63)) 3, none⟩,
    ⟨some 30, Op.binOp BinOp.shl 123 (Operand.const (Value.int IntKind.u64 1)) (Operand.tmp 29) 3, none⟩,
    ⟨some 31, Op.binOp BinOp.or 123 (Operand.tmp 27) (Operand.tmp 30) 123, none⟩,
    ⟨some 32, Op.indexAddr 55 (Operand.tmp 23) (Operand.tmp 25), none⟩,
    ⟨none, Op.store 123 (Operand.tmp 32) (Operand.tmp 31), none⟩] [])
  .skip)))
theorem ir46_eq : (Try.f46.body.map low, Try.f46.ntmps, Try.f46.results.toList) = (some ir46, 33, []) := by kernel_rfl
def ir48 : LC := (.seq (.ops [⟨some 2, Op.box 25 (Operand.tmp 0), none⟩,
    ⟨some 3, Op.box 3 (Operand.tmp 1), none⟩,
    ⟨some 4, Op.assign (Operand.const Value.nilFunc), none⟩])
  (.seq (.ops [⟨some 5, Op.makeFunc (Fn.func 68) #[] #[Operand.tmp 2, Operand.tmp 3], none⟩,
    ⟨some 4, Op.assign (Operand.tmp 5), none⟩])
  .ret))
theorem ir48_eq : (Try.f48.body.map low, Try.f48.ntmps, Try.f48.results.toList) = (some ir48, 6, [.tmp 4]) := by kernel_rfl
def ir58 : LC := (.seq (.ops [⟨some 2, Op.assign (Operand.const (Value.bool false)), none⟩])
  (.seq (.ops [⟨some 3, Op.move (Operand.tmp 0), none⟩,
    ⟨some 4, Op.binOp BinOp.neq 26 (Operand.tmp 3) (Operand.const (Value.pointer none)) 26, none⟩,
    ⟨some 5, Op.move (Operand.tmp 4), none⟩,
    ⟨some 6, Op.move (Operand.tmp 0), some (5, true)⟩,
    ⟨some 7, Op.nilCheck (Operand.tmp 6), some (5, true)⟩,
    ⟨some 8, Op.fieldAddr 88 (Operand.tmp 7) 0, some (5, true)⟩,
    ⟨some 9, Op.load 85 (Operand.tmp 8), some (5, true)⟩,
    ⟨some 10, Op.call { callee := Callee.builtin Builtin.len, args := #[Operand.tmp 9], argTypes := #[85] }, some (5, true)⟩,
    ⟨some 11, Op.binOp BinOp.gtr 3 (Operand.tmp 10) (Operand.const (Value.int IntKind.i64 0)) 3, some (5, true)⟩,
    ⟨some 12, Op.pick (Operand.tmp 5) (Operand.tmp 11) (Operand.const (Value.bool false)), none⟩,
    ⟨some 2, Op.assign (Operand.tmp 12), none⟩])
  .ret))
theorem ir58_eq : (Try.f58.body.map low, Try.f58.ntmps, Try.f58.results.toList) = (some ir58, 13, [.tmp 2]) := by kernel_rfl
def ir61 : LC := (.seq (.ops [⟨some 6, Op.assign (Operand.const (Value.int IntKind.i64 0)), none⟩,
    ⟨some 7, Op.assign (Operand.const (Value.int IntKind.i64 0)), none⟩])
  (.seq (.ops [⟨some 11, Op.move (Operand.tmp 0), none⟩,
    ⟨some 12, Op.move (Operand.tmp 1), none⟩,
    ⟨some 13, Op.call { callee := Callee.value (Operand.func 32), args := #[Operand.tmp 11, Operand.tmp 12], argTypes := #[25, 3] }, none⟩,
    ⟨some 10, Op.move (Operand.tmp 13), none⟩,
    ⟨some 14, Op.extract (Operand.tmp 10) 0, none⟩,
    ⟨some 15, Op.extract (Operand.tmp 10) 1, none⟩,
    ⟨some 8, Op.assign (Operand.tmp 14), none⟩,
    ⟨some 9, Op.assign (Operand.tmp 15), none⟩])
  (.seq (.block 0 (.seq (.ops [⟨some 17, Op.move (Operand.tmp 9), none⟩,
    ⟨some 18, Op.binOp BinOp.neq 37 (Operand.tmp 17) (Operand.const (Value.int IntKind.i64 0)) 37, none⟩,
    ⟨some 16, Op.assign (Operand.tmp 18), none⟩])
  (.cond (Operand.tmp 16)
  (.seq (.ops [⟨some 19, Op.move (Operand.tmp 9), none⟩,
    ⟨some 6, Op.assign (Operand.const (Value.int IntKind.i64 0)), none⟩,
    ⟨some 7, Op.assign (Operand.tmp 19), none⟩])
  .ret)
  (.seq (.ops [⟨some 21, Op.move (Operand.tmp 2), none⟩,
    ⟨some 22, Op.binOp BinOp.lss 3 (Operand.tmp 21) (Operand.const (Value.int IntKind.i64 0)) 3, none⟩,
    ⟨some 23, Op.move (Operand.tmp 22), none⟩,
    ⟨some 24, Op.move (Operand.tmp 2), some (23, false)⟩,
    ⟨some 25, Op.move (Operand.tmp 8), some (23, false)⟩,
    ⟨some 26, Op.nilCheck (Operand.tmp 25), some (23, false)⟩,
    ⟨some 27, Op.fieldAddr 57 (Operand.tmp 26) 1, some (23, false)⟩,
    ⟨some 28, Op.load 3 (Operand.tmp 27), some (23, false)⟩,
    ⟨some 29, Op.binOp BinOp.geq 3 (Operand.tmp 24) (Operand.tmp 28) 3, some (23, false)⟩,
    ⟨some 30, Op.pick (Operand.tmp 23) (Operand.const (Value.bool true)) (Operand.tmp 29), none⟩,
    ⟨some 31, Op.move (Operand.tmp 30), none⟩,
    ⟨some 32, Op.move (Operand.tmp 8), some (31, false)⟩,
    ⟨some 33, Op.move (Operand.tmp 2), some (31, false)⟩,
    ⟨some 34, Op.call { callee := Callee.value (Operand.func 45), args := #[Operand.tmp 32, Operand.tmp 33], argTypes := #[76, 3] }, some (31, false)⟩,
    ⟨some 35, Op.unOp UnOp.not 4 (Operand.tmp 34), some (31, false)⟩,
    ⟨some 36, Op.pick (Operand.tmp 31) (Operand.const (Value.bool true)) (Operand.tmp 35), none⟩,
    ⟨some 20, Op.assign (Operand.tmp 36), none⟩])
  (.cond (Operand.tmp 20)
  (.seq (.ops [⟨some 6, Op.assign (Operand.const (Value.int IntKind.i64 0)), none⟩,
    ⟨some 7, Op.assign (Operand.const (Value.int IntKind.i64 6)), none⟩])
  .ret)
  .skip)))))
  (.seq (.ops [⟨some 37, Op.move (Operand.tmp 8), none⟩,
    ⟨some 38, Op.nilCheck (Operand.tmp 37), none⟩,
    ⟨some 39, Op.fieldAddr 57 (Operand.tmp 38) 0, none⟩,
    ⟨some 40, Op.load 3 (Operand.tmp 39), none⟩,
    ⟨some 41, Op.move (Operand.tmp 2), none⟩,
    ⟨some 42, Op.binOp BinOp.add 3 (Operand.tmp 40) (Operand.tmp 41) 3, none⟩,
    ⟨some 6, Op.assign (Operand.tmp 42), none⟩,
    ⟨some 7, Op.assign (Operand.const (Value.int IntKind.i64 0)), none⟩])
  .ret))))
theorem ir61_eq : (Try.f61.body.map low, Try.f61.ntmps, Try.f61.results.toList) = (some ir61, 43, [.tmp 6, .tmp 7]) := by kernel_rfl
def ir62 : LC := (.seq (.ops [⟨some 6, Op.assign (Operand.const (Value.int IntKind.i64 0)), none⟩])
  (.seq (.seq (.ops [⟨some 8, Op.move (Operand.tmp 0), none⟩,
    ⟨some 9, Op.move (Operand.tmp 1), none⟩,
    ⟨some 10, Op.call { callee := Callee.value (Operand.func 64), args := #[Operand.tmp 8, Operand.tmp 9], argTypes := #[26, 3] }, none⟩,
    ⟨some 7, Op.assign (Operand.tmp 10), none⟩])
  (.seq (.ops [⟨some 11, Op.move (Operand.tmp 7), none⟩,
    ⟨some 12, Op.binOp BinOp.neq 37 (Operand.tmp 11) (Operand.const (Value.int IntKind.i64 0)) 37, none⟩])
  (.cond (Operand.tmp 12)
  (.seq (.ops [⟨some 13, Op.move (Operand.tmp 7), none⟩,
    ⟨some 6, Op.assign (Operand.tmp 13), none⟩])
  .ret)
  .skip)))
  (.seq (.seq (.ops [⟨some 14, Op.move (Operand.tmp 2), none⟩,
    ⟨some 15, Op.call { callee := Callee.builtin Builtin.len, args := #[Operand.tmp 14], argTypes := #[45] }, none⟩,
    ⟨some 16, Op.binOp BinOp.neq 3 (Operand.tmp 15) (Operand.const (Value.int IntKind.i64 128)) 3, none⟩])
  (.cond (Operand.tmp 16)
  (.seq (.ops [⟨some 6, Op.assign (Operand.const (Value.int IntKind.i64 2)), none⟩])
  .ret)
  .skip))
  (.seq (.draw [⟨some 17, Op.move (Operand.tmp 0), none⟩,
    ⟨some 18, Op.nilCheck (Operand.tmp 17), none⟩,
    ⟨some 19, Op.fieldAddr 88 (Operand.tmp 18) 1, none⟩,
    ⟨some 20, Op.load 86 (Operand.tmp 19), none⟩,
    ⟨some 21, Op.move (Operand.tmp 1), none⟩,
    ⟨some 22, Op.move (Operand.tmp 0), none⟩,
    ⟨some 23, Op.nilCheck (Operand.tmp 22), none⟩,
    ⟨some 24, Op.fieldAddr 88 (Operand.tmp 23) 1, none⟩,
    ⟨some 25, Op.load 86 (Operand.tmp 24), none⟩,
    ⟨some 26, Op.move (Operand.tmp 1), none⟩,
    ⟨some 27, Op.lookup 86 (Operand.tmp 25) (Operand.tmp 26) false, none⟩,
    ⟨some 28, Op.move (Operand.tmp 2), none⟩,
    ⟨some 29, Op.sliceToArrayPointer 113 (Operand.tmp 28), none⟩,
    ⟨some 30, Op.load 113 (Operand.tmp 29), none⟩,
    ⟨some 31, Op.buildSlice 85 1 #[(0, Operand.tmp 30)], none⟩,
    ⟨some 32, Op.call { callee := Callee.builtin Builtin.append, args := #[Operand.tmp 27, Operand.tmp 31], argTypes := #[85, 85] }, none⟩,
    ⟨none, Op.mapUpdate 86 (Operand.tmp 20) (Operand.tmp 21) (Operand.tmp 32), none⟩] [(0, 14), (1, 14), (2, 14), (3, 14), (4, 14), (5, 14), (6, 14), (7, 14), (8, 14), (9, 14), (10, 14), (0, 15), (1, 15), (2, 15), (3, 15), (4, 15)])
  (.seq (.ops [⟨some 33, Op.move (Operand.tmp 0), none⟩,
    ⟨some 34, Op.nilCheck (Operand.tmp 33), none⟩,
    ⟨some 35, Op.fieldAddr 88 (Operand.tmp 34) 2, none⟩,
    ⟨some 36, Op.load 2 (Operand.tmp 35), none⟩,
    ⟨some 37, Op.binOp BinOp.add 2 (Operand.tmp 36) (Operand.const (Value.int IntKind.i64 1)) 2, none⟩,
    ⟨some 38, Op.nilCheck (Operand.tmp 33), none⟩,
    ⟨some 39, Op.fieldAddr 88 (Operand.tmp 38) 2, none⟩,
    ⟨none, Op.store 2 (Operand.tmp 39) (Operand.tmp 37), none⟩])
  (.seq (.ops [⟨some 6, Op.assign (Operand.const (Value.int IntKind.i64 0)), none⟩])
  .ret))))))
theorem ir62_eq : (Try.f62.body.map low, Try.f62.ntmps, Try.f62.results.toList) = (some ir62, 40, [.tmp 6]) := by kernel_rfl
def ir63_l0 : LC := (.seq (.seq (.ops [⟨some 40, Op.move (Operand.tmp 7), none⟩,
    ⟨some 41, Op.move (Operand.tmp 1), none⟩,
    ⟨some 42, Op.move (Operand.tmp 2), none⟩,
    ⟨some 43, Op.binOp BinOp.add 3 (Operand.tmp 41) (Operand.tmp 42) 3, none⟩,
    ⟨some 44, Op.binOp BinOp.lss 3 (Operand.tmp 40) (Operand.tmp 43) 3, none⟩])
  (.cond (Operand.tmp 44)
  .skip
  (.exit 1)))
  (.seq (.block 2 (.seq (.draw [⟨some 47, Op.move (Operand.tmp 0), none⟩,
    ⟨some 48, Op.nilCheck (Operand.tmp 47), none⟩,
    ⟨some 49, Op.fieldAddr 88 (Operand.tmp 48) 0, none⟩,
    ⟨some 50, Op.load 85 (Operand.tmp 49), none⟩,
    ⟨some 51, Op.move (Operand.tmp 7), none⟩,
    ⟨some 52, Op.move (Operand.tmp 0), none⟩,
    ⟨some 53, Op.move (Operand.tmp 7), none⟩,
    ⟨some 54, Op.call { callee := Callee.value (Operand.func 74), args := #[Operand.tmp 52, Operand.tmp 53], argTypes := #[26, 3] }, none⟩,
    ⟨some 55, Op.indexAddr 85 (Operand.tmp 50) (Operand.tmp 51), none⟩,
    ⟨none, Op.store 113 (Operand.tmp 55) (Operand.tmp 54), none⟩] [(0, 7), (1, 7), (2, 7), (3, 7), (4, 7)])
  (.ops [⟨some 56, Op.move (Operand.tmp 0), none⟩,
    ⟨some 57, Op.nilCheck (Operand.tmp 56), none⟩,
    ⟨some 58, Op.fieldAddr 88 (Operand.tmp 57) 1, none⟩,
    ⟨some 59, Op.load 86 (Operand.tmp 58), none⟩,
    ⟨some 60, Op.move (Operand.tmp 7), none⟩,
    ⟨none, Op.call { callee := Callee.builtin Builtin.delete, args := #[Operand.tmp 59, Operand.tmp 60], argTypes := #[86, 3] }, none⟩])))
  (.ops [⟨some 45, Op.move (Operand.tmp 7), none⟩,
    ⟨some 46, Op.binOp BinOp.add 3 (Operand.tmp 45) (Operand.const (Value.int IntKind.i64 1)) 3, none⟩,
    ⟨some 7, Op.assign (Operand.tmp 46), none⟩])))
def ir63 : LC := (.seq (.ops [⟨some 6, Op.assign (Operand.const (Value.int IntKind.i64 0)), none⟩])
  (.seq (.block 0 (.seq (.ops [⟨some 9, Op.move (Operand.tmp 0), none⟩,
    ⟨some 10, Op.call { callee := Callee.value (Operand.func 58), args := #[Operand.tmp 9], argTypes := #[26] }, none⟩,
    ⟨some 11, Op.unOp UnOp.not 4 (Operand.tmp 10), none⟩,
    ⟨some 8, Op.assign (Operand.tmp 11), none⟩])
  (.cond (Operand.tmp 8)
  (.seq (.ops [⟨some 6, Op.assign (Operand.const (Value.int IntKind.i64 1)), none⟩])
  .ret)
  (.seq (.ops [⟨some 13, Op.move (Operand.tmp 2), none⟩,
    ⟨some 14, Op.binOp BinOp.lss 3 (Operand.tmp 13) (Operand.const (Value.int IntKind.i64 0)) 3, none⟩,
    ⟨some 15, Op.move (Operand.tmp 14), none⟩,
    ⟨some 16, Op.move (Operand.tmp 1), some (15, false)⟩,
    ⟨some 17, Op.binOp BinOp.lss 3 (Operand.tmp 16) (Operand.const (Value.int IntKind.i64 0)) 3, some (15, false)⟩,
    ⟨some 18, Op.pick (Operand.tmp 15) (Operand.const (Value.bool true)) (Operand.tmp 17), none⟩,
    ⟨some 19, Op.move (Operand.tmp 18), none⟩,
    ⟨some 20, Op.move (Operand.tmp 1), some (19, false)⟩,
    ⟨some 21, Op.move (Operand.tmp 0), some (19, false)⟩,
    ⟨some 22, Op.nilCheck (Operand.tmp 21), some (19, false)⟩,
    ⟨some 23, Op.fieldAddr 88 (Operand.tmp 22) 0, some (19, false)⟩,
    ⟨some 24, Op.load 85 (Operand.tmp 23), some (19, false)⟩,
    ⟨some 25, Op.call { callee := Callee.builtin Builtin.len, args := #[Operand.tmp 24], argTypes := #[85] }, some (19, false)⟩,
    ⟨some 26, Op.binOp BinOp.gtr 3 (Operand.tmp 20) (Operand.tmp 25) 3, some (19, false)⟩,
    ⟨some 27, Op.pick (Operand.tmp 19) (Operand.const (Value.bool true)) (Operand.tmp 26), none⟩,
    ⟨some 28, Op.move (Operand.tmp 27), none⟩,
    ⟨some 29, Op.move (Operand.tmp 2), some (28, false)⟩,
    ⟨some 30, Op.move (Operand.tmp 0), some (28, false)⟩,
    ⟨some 31, Op.nilCheck (Operand.tmp 30), some (28, false)⟩,
    ⟨some 32, Op.fieldAddr 88 (Operand.tmp 31) 0, some (28, false)⟩,
    ⟨some 33, Op.load 85 (Operand.tmp 32), some (28, false)⟩,
    ⟨some 34, Op.call { callee := Callee.builtin Builtin.len, args := #[Operand.tmp 33], argTypes := #[85] }, some (28, false)⟩,
    ⟨some 35, Op.move (Operand.tmp 1), some (28, false)⟩,
    ⟨some 36, Op.binOp BinOp.sub 3 (Operand.tmp 34) (Operand.tmp 35) 3, some (28, false)⟩,
    ⟨some 37, Op.binOp BinOp.gtr 3 (Operand.tmp 29) (Operand.tmp 36) 3, some (28, false)⟩,
    ⟨some 38, Op.pick (Operand.tmp 28) (Operand.const (Value.bool true)) (Operand.tmp 37), none⟩,
    ⟨some 12, Op.assign (Operand.tmp 38), none⟩])
  (.cond (Operand.tmp 12)
  (.seq (.ops [⟨some 6, Op.assign (Operand.const (Value.int IntKind.i64 2)), none⟩])
  .ret)
  .skip)))))
  (.seq (.seq (.ops [⟨some 39, Op.move (Operand.tmp 1), none⟩,
    ⟨some 7, Op.assign (Operand.tmp 39), none⟩])
  (.block 1 (.loop ir63_l0)))
  (.seq (.ops [⟨some 6, Op.assign (Operand.const (Value.int IntKind.i64 0)), none⟩])
  .ret))))
theorem ir63_eq : (Try.f63.body.map low, Try.f63.ntmps, Try.f63.results.toList) = (some ir63, 61, [.tmp 6]) := by kernel_rfl
def ir64 : LC := (.seq (.ops [⟨some 4, Op.assign (Operand.const (Value.int IntKind.i64 0)), none⟩])
  (.seq (.block 0 (.seq (.ops [⟨some 6, Op.move (Operand.tmp 0), none⟩,
    ⟨some 7, Op.call { callee := Callee.value (Operand.func 58), args := #[Operand.tmp 6], argTypes := #[26] }, none⟩,
    ⟨some 8, Op.unOp UnOp.not 4 (Operand.tmp 7), none⟩,
    ⟨some 5, Op.assign (Operand.tmp 8), none⟩])
  (.cond (Operand.tmp 5)
  (.seq (.ops [⟨some 4, Op.assign (Operand.const (Value.int IntKind.i64 1)), none⟩])
  .ret)
  (.seq (.ops [⟨some 10, Op.move (Operand.tmp 1), none⟩,
    ⟨some 11, Op.binOp BinOp.lss 3 (Operand.tmp 10) (Operand.const (Value.int IntKind.i64 0)) 3, none⟩,
    ⟨some 12, Op.move (Operand.tmp 11), none⟩,
    ⟨some 13, Op.move (Operand.tmp 1), some (12, false)⟩,
    ⟨some 14, Op.move (Operand.tmp 0), some (12, false)⟩,
    ⟨some 15, Op.nilCheck (Operand.tmp 14), some (12, false)⟩,
    ⟨some 16, Op.fieldAddr 88 (Operand.tmp 15) 0, some (12, false)⟩,
    ⟨some 17, Op.load 85 (Operand.tmp 16), some (12, false)⟩,
    ⟨some 18, Op.call { callee := Callee.builtin Builtin.len, args := #[Operand.tmp 17], argTypes := #[85] }, some (12, false)⟩,
    ⟨some 19, Op.binOp BinOp.geq 3 (Operand.tmp 13) (Operand.tmp 18) 3, some (12, false)⟩,
    ⟨some 20, Op.pick (Operand.tmp 12) (Operand.const (Value.bool true)) (Operand.tmp 19), none⟩,
    ⟨some 9, Op.assign (Operand.tmp 20), none⟩])
  (.cond (Operand.tmp 9)
  (.seq (.ops [⟨some 4, Op.assign (Operand.const (Value.int IntKind.i64 2)), none⟩])
  .ret)
  .skip)))))
  (.seq (.ops [⟨some 4, Op.assign (Operand.const (Value.int IntKind.i64 0)), none⟩])
  .ret)))
theorem ir64_eq : (Try.f64.body.map low, Try.f64.ntmps, Try.f64.results.toList) = (some ir64, 21, [.tmp 4]) := by kernel_rfl
def ir67 : LC := (.seq (.ops [⟨some 4, Op.assign (Operand.const (Value.slice none 0 0)), none⟩,
    ⟨some 5, Op.assign (Operand.const (Value.int IntKind.i64 0)), none⟩])
  (.seq (.seq (.ops [⟨some 8, Op.move (Operand.tmp 0), none⟩,
    ⟨some 9, Op.move (Operand.tmp 1), none⟩,
    ⟨some 10, Op.call { callee := Callee.value (Operand.func 64), args := #[Operand.tmp 8, Operand.tmp 9], argTypes := #[26, 3] }, none⟩,
    ⟨some 6, Op.assign (Operand.tmp 10), none⟩])
  (.seq (.ops [⟨some 11, Op.move (Operand.tmp 6), none⟩,
    ⟨some 12, Op.binOp BinOp.neq 37 (Operand.tmp 11) (Operand.const (Value.int IntKind.i64 0)) 37, none⟩])
  (.cond (Operand.tmp 12)
  (.seq (.ops [⟨some 13, Op.move (Operand.tmp 6), none⟩,
    ⟨some 4, Op.assign (Operand.const (Value.slice none 0 0)), none⟩,
    ⟨some 5, Op.assign (Operand.tmp 13), none⟩])
  .ret)
  .skip)))
  (.seq (.ops [⟨some 14, Op.move (Operand.tmp 0), none⟩,
    ⟨some 15, Op.move (Operand.tmp 1), none⟩,
    ⟨some 16, Op.call { callee := Callee.value (Operand.func 74), args := #[Operand.tmp 14, Operand.tmp 15], argTypes := #[26, 3] }, none⟩,
    ⟨some 7, Op.alloc 113, none⟩,
    ⟨none, Op.store 113 (Operand.tmp 7) (Operand.tmp 16), none⟩])
  (.seq (.ops [⟨some 17, Op.slice 113 (Operand.tmp 7) none none none, none⟩,
    ⟨some 4, Op.assign (Operand.tmp 17), none⟩,
    ⟨some 5, Op.assign (Operand.const (Value.int IntKind.i64 0)), none⟩])
  .ret))))
theorem ir67_eq : (Try.f67.body.map low, Try.f67.ntmps, Try.f67.results.toList) = (some ir67, 18, [.tmp 4, .tmp 5]) := by kernel_rfl
def ir68_l0 : LC := (.seq (.seq (.ops [⟨some 26, Op.move (Operand.tmp 6), none⟩,
    ⟨some 27, Op.move (Operand.tmp 4), none⟩,
    ⟨some 28, Op.nilCheck (Operand.tmp 27), none⟩,
    ⟨some 29, Op.fieldAddr 57 (Operand.tmp 28) 1, none⟩,
    ⟨some 30, Op.load 3 (Operand.tmp 29), none⟩,
    ⟨some 31, Op.binOp BinOp.lss 3 (Operand.tmp 26) (Operand.tmp 30) 3, none⟩,
    ⟨some 32, Op.move (Operand.tmp 31), none⟩,
    ⟨some 33, Op.move (Operand.tmp 4), some (32, true)⟩,
    ⟨some 34, Op.move (Operand.tmp 6), some (32, true)⟩,
    ⟨some 35, Op.call { callee := Callee.value (Operand.func 45), args := #[Operand.tmp 33, Operand.tmp 34], argTypes := #[76, 3] }, some (32, true)⟩,
    ⟨some 36, Op.pick (Operand.tmp 32) (Operand.tmp 35) (Operand.const (Value.bool false)), none⟩])
  (.cond (Operand.tmp 36)
  .skip
  (.exit 2)))
  (.block 3 (.seq (.ops [⟨some 37, Op.fieldAddr 118 (Operand.tmp 7) 1, none⟩,
    ⟨some 38, Op.load 3 (Operand.tmp 37), none⟩,
    ⟨some 39, Op.binOp BinOp.add 3 (Operand.tmp 38) (Operand.const (Value.int IntKind.i64 1)) 3, none⟩,
    ⟨some 40, Op.fieldAddr 118 (Operand.tmp 7) 1, none⟩,
    ⟨none, Op.store 3 (Operand.tmp 40) (Operand.tmp 39), none⟩])
  (.ops [⟨some 41, Op.move (Operand.tmp 6), none⟩,
    ⟨some 42, Op.binOp BinOp.add 3 (Operand.tmp 41) (Operand.const (Value.int IntKind.i64 1)) 3, none⟩,
    ⟨some 6, Op.assign (Operand.tmp 42), none⟩]))))
def ir68_l1 : LC := (.seq (.seq (.ops [⟨some 16, Op.move (Operand.tmp 6), none⟩,
    ⟨some 17, Op.move (Operand.tmp 4), none⟩,
    ⟨some 18, Op.nilCheck (Operand.tmp 17), none⟩,
    ⟨some 19, Op.fieldAddr 57 (Operand.tmp 18) 1, none⟩,
    ⟨some 20, Op.load 3 (Operand.tmp 19), none⟩,
    ⟨some 21, Op.binOp BinOp.lss 3 (Operand.tmp 16) (Operand.tmp 20) 3, none⟩])
  (.cond (Operand.tmp 21)
  .skip
  (.exit 0)))
  (.seq (.block 1 (.seq (.ops [⟨some 24, Op.move (Operand.tmp 6), none⟩,
    ⟨some 25, Op.build 118 #[(0, Operand.tmp 24)], none⟩,
    ⟨some 7, Op.alloc 118, none⟩,
    ⟨none, Op.store 118 (Operand.tmp 7) (Operand.tmp 25), none⟩])
  (.seq (.block 2 (.loop ir68_l0))
  (.seq (.ops [⟨some 43, Op.fieldAddr 118 (Operand.tmp 7) 1, none⟩,
    ⟨some 44, Op.load 3 (Operand.tmp 43), none⟩,
    ⟨some 45, Op.binOp BinOp.gtr 3 (Operand.tmp 44) (Operand.const (Value.int IntKind.i64 0)) 3, none⟩,
    ⟨some 46, Op.move (Operand.tmp 45), none⟩,
    ⟨some 47, Op.move (Operand.tmp 0), some (46, true)⟩,
    ⟨some 48, Op.load 118 (Operand.tmp 7), some (46, true)⟩,
    ⟨some 49, Op.call { callee := Callee.value (Operand.tmp 47), args := #[Operand.tmp 48], argTypes := #[118] }, some (46, true)⟩,
    ⟨some 50, Op.unOp UnOp.not 4 (Operand.tmp 49), some (46, true)⟩,
    ⟨some 51, Op.pick (Operand.tmp 46) (Operand.tmp 50) (Operand.const (Value.bool false)), none⟩])
  (.cond (Operand.tmp 51)
  .ret
  .skip)))))
  (.ops [⟨some 22, Op.move (Operand.tmp 6), none⟩,
    ⟨some 23, Op.binOp BinOp.add 3 (Operand.tmp 22) (Operand.const (Value.int IntKind.i64 1)) 3, none⟩,
    ⟨some 6, Op.assign (Operand.tmp 23), none⟩])))
def ir68 : LC := (.seq (.ops [⟨some 9, Op.load 25 (Operand.tmp 1), none⟩,
    ⟨some 10, Op.load 3 (Operand.tmp 2), none⟩,
    ⟨some 11, Op.call { callee := Callee.value (Operand.func 32), args := #[Operand.tmp 9, Operand.tmp 10], argTypes := #[25, 3] }, none⟩,
    ⟨some 8, Op.move (Operand.tmp 11), none⟩,
    ⟨some 12, Op.extract (Operand.tmp 8) 0, none⟩,
    ⟨some 13, Op.extract (Operand.tmp 8) 1, none⟩,
    ⟨some 4, Op.assign (Operand.tmp 12), none⟩,
    ⟨some 5, Op.assign (Operand.tmp 13), none⟩])
  (.seq (.seq (.ops [⟨some 14, Op.move (Operand.tmp 5), none⟩,
    ⟨some 15, Op.binOp BinOp.neq 37 (Operand.tmp 14) (Operand.const (Value.int IntKind.i64 0)) 37, none⟩])
  (.cond (Operand.tmp 15)
  .ret
  .skip))
  (.seq (.ops [⟨some 6, Op.assign (Operand.const (Value.int IntKind.i64 0)), none⟩])
  (.block 0 (.loop ir68_l1)))))
theorem ir68_eq : (Try.f68.body.map low, Try.f68.ntmps, Try.f68.results.toList) = (some ir68, 52, []) := by kernel_rfl
def ir74 : LC := (.seq (.ops [⟨some 4, Op.alloc 113, none⟩])
  (.seq (.seq (.ops [⟨some 6, Op.move (Operand.tmp 0), none⟩,
    ⟨some 7, Op.nilCheck (Operand.tmp 6), none⟩,
    ⟨some 8, Op.fieldAddr 88 (Operand.tmp 7) 1, none⟩,
    ⟨some 9, Op.load 86 (Operand.tmp 8), none⟩,
    ⟨some 10, Op.move (Operand.tmp 1), none⟩,
    ⟨some 11, Op.lookup 86 (Operand.tmp 9) (Operand.tmp 10) false, none⟩,
    ⟨some 5, Op.assign (Operand.tmp 11), none⟩])
  (.seq (.ops [⟨some 12, Op.move (Operand.tmp 5), none⟩,
    ⟨some 13, Op.call { callee := Callee.builtin Builtin.len, args := #[Operand.tmp 12], argTypes := #[85] }, none⟩,
    ⟨some 14, Op.binOp BinOp.gtr 3 (Operand.tmp 13) (Operand.const (Value.int IntKind.i64 0)) 3, none⟩])
  (.cond (Operand.tmp 14)
  (.seq (.ops [⟨some 15, Op.move (Operand.tmp 5), none⟩,
    ⟨some 16, Op.move (Operand.tmp 5), none⟩,
    ⟨some 17, Op.call { callee := Callee.builtin Builtin.len, args := #[Operand.tmp 16], argTypes := #[85] }, none⟩,
    ⟨some 18, Op.binOp BinOp.sub 3 (Operand.tmp 17) (Operand.const (Value.int IntKind.i64 1)) 3, none⟩,
    ⟨some 19, Op.indexAddr 85 (Operand.tmp 15) (Operand.tmp 18), none⟩,
    ⟨some 20, Op.load 113 (Operand.tmp 19), none⟩,
    ⟨none, Op.store 113 (Operand.tmp 4) (Operand.tmp 20), none⟩])
  .ret)
  .skip)))
  (.seq (.ops [⟨some 21, Op.move (Operand.tmp 0), none⟩,
    ⟨some 22, Op.nilCheck (Operand.tmp 21), none⟩,
    ⟨some 23, Op.fieldAddr 88 (Operand.tmp 22) 0, none⟩,
    ⟨some 24, Op.load 85 (Operand.tmp 23), none⟩,
    ⟨some 25, Op.move (Operand.tmp 1), none⟩,
    ⟨some 26, Op.indexAddr 85 (Operand.tmp 24) (Operand.tmp 25), none⟩,
    ⟨some 27, Op.load 113 (Operand.tmp 26), none⟩,
    ⟨none, Op.store 113 (Operand.tmp 4) (Operand.tmp 27), none⟩])
  .ret)))
theorem ir74_eq : (Try.f74.body.map low, Try.f74.ntmps, Try.f74.results.toList) = (some ir74, 28, [.cell 4 113]) := by kernel_rfl


end Go.Proofs.Ythdkhbhicimpdaa
