/- The code of this seat struck bare (printed by program). -/
import Derived.Test.YtmkdbninmimndaaProg
import Derived.Test.YtmkdbninmimndaaV4
import Derived.KernelRfl
set_option linter.unusedVariables false
set_option maxRecDepth 100000
namespace Go.Proofs.Ytmkdbninmimndaa
open Go Go.Vm
def ir17_l0 : LC := (.seq (.ops [⟨some 37, .binOp .lss 3 (.tmp 36) (.tmp 35) 3, none⟩])
 (.seq (.cond (.tmp 37)
 .skip
 (.exit 0))
 (.seq (.block 1 (.seq (.ops [⟨some 38, .move (.tmp 36), none⟩,
 ⟨some 14, .assign (.tmp 38), none⟩])
 (.ops [⟨some 39, .move (.tmp 13), none⟩,
 ⟨some 40, .move (.tmp 0), none⟩,
 ⟨some 41, .move (.tmp 1), none⟩,
 ⟨some 42, .move (.tmp 14), none⟩,
 ⟨some 43, .convert 3 25 (.tmp 42), none⟩,
 ⟨some 44, .binOp .add 25 (.tmp 41) (.tmp 43) 25, none⟩,
 ⟨some 45, .call ⟨.invoke (.tmp 40) "Get", #[.tmp 44], #[25]⟩, none⟩,
 ⟨some 46, .buildSlice 23 1 #[(0, .tmp 45)], none⟩,
 ⟨some 47, .call ⟨.builtin .append, #[.tmp 39, .tmp 46], #[23, 23]⟩, none⟩,
 ⟨some 13, .assign (.tmp 47), none⟩])))
 (.ops [⟨some 48, .binOp .add 3 (.tmp 36) (.const (.int .i64 1)) 3, none⟩,
 ⟨some 36, .move (.tmp 48), none⟩]))))
def ir17 : LC := (.seq (.ops [⟨some 8, .assign (.const (.slice none 0 0)), none⟩,
 ⟨some 9, .assign (.const (.int .u32 0)), none⟩,
 ⟨some 10, .assign (.const (.bool false)), none⟩])
 (.seq (.seq (.ops [⟨some 15, .move (.tmp 0), none⟩,
 ⟨some 16, .binOp .eql 69 (.tmp 15) (.const .nilIface) 69, none⟩,
 ⟨some 17, .move (.tmp 16), none⟩,
 ⟨some 18, .move (.tmp 2), some (17, false)⟩,
 ⟨some 19, .binOp .lss 3 (.tmp 18) (.const (.int .i64 0)) 3, some (17, false)⟩,
 ⟨some 20, .pick (.tmp 17) (.const (.bool true)) (.tmp 19), none⟩,
 ⟨some 21, .move (.tmp 20), none⟩,
 ⟨some 22, .move (.tmp 2), some (21, false)⟩,
 ⟨some 23, .binOp .gtr 3 (.tmp 22) (.const (.int .i64 65536)) 3, some (21, false)⟩,
 ⟨some 24, .pick (.tmp 21) (.const (.bool true)) (.tmp 23), none⟩])
 (.cond (.tmp 24)
 (.seq (.ops [⟨some 8, .assign (.const (.slice none 0 0)), none⟩,
 ⟨some 9, .assign (.const (.int .u32 0)), none⟩,
 ⟨some 10, .assign (.const (.bool false)), none⟩])
 .ret)
 .skip))
 (.seq (.seq (.ops [⟨some 26, .move (.tmp 0), none⟩,
 ⟨some 27, .move (.tmp 1), none⟩,
 ⟨some 28, .move (.tmp 2), none⟩,
 ⟨some 29, .move (.tmp 3), none⟩,
 ⟨some 30, .call ⟨.value (.func 32), #[.tmp 26, .tmp 27, .tmp 28, .tmp 29], #[69, 25, 3, 3]⟩, none⟩,
 ⟨some 25, .move (.tmp 30), none⟩,
 ⟨some 31, .extract (.tmp 25) 0, none⟩,
 ⟨some 32, .extract (.tmp 25) 1, none⟩,
 ⟨some 11, .assign (.tmp 31), none⟩,
 ⟨some 12, .assign (.tmp 32), none⟩])
 (.seq (.ops [⟨some 33, .move (.tmp 12), none⟩])
 (.cond (.tmp 33)
 (.seq (.ops [⟨some 34, .move (.tmp 11), none⟩,
 ⟨some 8, .assign (.const (.slice none 0 0)), none⟩,
 ⟨some 9, .assign (.tmp 34), none⟩,
 ⟨some 10, .assign (.const (.bool false)), none⟩])
 .ret)
 .skip)))
 (.seq (.ops [⟨some 13, .assign (.const (.slice none 0 0)), none⟩])
 (.seq (.seq (.ops [⟨some 35, .move (.tmp 2), none⟩,
 ⟨some 36, .move (.const (.int .i64 0)), none⟩])
 (.block 0 (.loop ir17_l0)))
 (.seq (.ops [⟨some 49, .move (.tmp 13), none⟩,
 ⟨some 8, .assign (.tmp 49), none⟩,
 ⟨some 9, .assign (.const (.int .u32 0)), none⟩,
 ⟨some 10, .assign (.const (.bool true)), none⟩])
 .ret))))))
theorem ir17_eq : (Try.f17.body.map low, Try.f17.ntmps, Try.f17.results.toList) = (some ir17, 50, [.tmp 8, .tmp 9, .tmp 10]) := by kernel_rfl
def ir19_l0 : LC := (.seq (.ops [⟨some 32, .binOp .lss 3 (.tmp 31) (.tmp 30) 3, none⟩])
 (.seq (.cond (.tmp 32)
 .skip
 (.exit 0))
 (.seq (.block 1 (.seq (.ops [⟨some 33, .move (.tmp 31), none⟩,
 ⟨some 34, .indexAddr 23 (.tmp 29) (.tmp 31), none⟩,
 ⟨some 35, .load 5 (.tmp 34), none⟩,
 ⟨some 10, .assign (.tmp 33), none⟩,
 ⟨some 11, .assign (.tmp 35), none⟩])
 (.ops [⟨some 36, .move (.tmp 0), none⟩,
 ⟨some 37, .move (.tmp 1), none⟩,
 ⟨some 38, .move (.tmp 10), none⟩,
 ⟨some 39, .convert 3 25 (.tmp 38), none⟩,
 ⟨some 40, .binOp .add 25 (.tmp 37) (.tmp 39) 25, none⟩,
 ⟨some 41, .move (.tmp 11), none⟩,
 ⟨some 42, .call ⟨.invoke (.tmp 36) "Set", #[.tmp 40, .tmp 41], #[25, 5]⟩, none⟩])))
 (.ops [⟨some 43, .binOp .add 3 (.tmp 31) (.const (.int .i64 1)) 3, none⟩,
 ⟨some 31, .move (.tmp 43), none⟩]))))
def ir19 : LC := (.seq (.ops [⟨some 6, .assign (.const (.int .u32 0)), none⟩,
 ⟨some 7, .assign (.const (.bool false)), none⟩])
 (.seq (.seq (.ops [⟨some 12, .move (.tmp 0), none⟩,
 ⟨some 13, .binOp .eql 69 (.tmp 12) (.const .nilIface) 69, none⟩,
 ⟨some 14, .move (.tmp 13), none⟩,
 ⟨some 15, .move (.tmp 2), some (14, false)⟩,
 ⟨some 16, .call ⟨.builtin .len, #[.tmp 15], #[23]⟩, some (14, false)⟩,
 ⟨some 17, .binOp .gtr 3 (.tmp 16) (.const (.int .i64 65536)) 3, some (14, false)⟩,
 ⟨some 18, .pick (.tmp 14) (.const (.bool true)) (.tmp 17), none⟩])
 (.cond (.tmp 18)
 (.seq (.ops [⟨some 6, .assign (.const (.int .u32 0)), none⟩,
 ⟨some 7, .assign (.const (.bool false)), none⟩])
 .ret)
 .skip))
 (.seq (.seq (.ops [⟨some 20, .move (.tmp 0), none⟩,
 ⟨some 21, .move (.tmp 1), none⟩,
 ⟨some 22, .move (.tmp 2), none⟩,
 ⟨some 23, .call ⟨.builtin .len, #[.tmp 22], #[23]⟩, none⟩,
 ⟨some 24, .call ⟨.value (.func 32), #[.tmp 20, .tmp 21, .tmp 23, .const (.int .i64 2)], #[69, 25, 3, 3]⟩, none⟩,
 ⟨some 19, .move (.tmp 24), none⟩,
 ⟨some 25, .extract (.tmp 19) 0, none⟩,
 ⟨some 26, .extract (.tmp 19) 1, none⟩,
 ⟨some 8, .assign (.tmp 25), none⟩,
 ⟨some 9, .assign (.tmp 26), none⟩])
 (.seq (.ops [⟨some 27, .move (.tmp 9), none⟩])
 (.cond (.tmp 27)
 (.seq (.ops [⟨some 28, .move (.tmp 8), none⟩,
 ⟨some 6, .assign (.tmp 28), none⟩,
 ⟨some 7, .assign (.const (.bool false)), none⟩])
 .ret)
 .skip)))
 (.seq (.seq (.ops [⟨some 29, .move (.tmp 2), none⟩,
 ⟨some 30, .call ⟨.builtin .len, #[.tmp 29], #[23]⟩, none⟩,
 ⟨some 31, .move (.const (.int .i64 0)), none⟩])
 (.block 0 (.loop ir19_l0)))
 (.seq (.ops [⟨some 6, .assign (.const (.int .u32 0)), none⟩,
 ⟨some 7, .assign (.const (.bool true)), none⟩])
 .ret)))))
theorem ir19_eq : (Try.f19.body.map low, Try.f19.ntmps, Try.f19.results.toList) = (some ir19, 44, [.tmp 6, .tmp 7]) := by kernel_rfl
def ir32_l0 : LC := (.seq (.ops [⟨some 16, .binOp .lss 3 (.tmp 15) (.tmp 14) 3, none⟩])
 (.seq (.cond (.tmp 16)
 .skip
 (.exit 0))
 (.seq (.block 1 (.seq (.ops [⟨some 17, .move (.tmp 15), none⟩,
 ⟨some 12, .assign (.tmp 17), none⟩])
 (.seq (.ops [⟨some 18, .move (.tmp 1), none⟩,
 ⟨some 19, .move (.tmp 12), none⟩,
 ⟨some 20, .convert 3 25 (.tmp 19), none⟩,
 ⟨some 21, .binOp .add 25 (.tmp 18) (.tmp 20) 25, none⟩,
 ⟨some 13, .assign (.tmp 21), none⟩])
 (.seq (.ops [⟨some 22, .move (.tmp 0), none⟩,
 ⟨some 23, .move (.tmp 13), none⟩,
 ⟨some 24, .move (.tmp 3), none⟩,
 ⟨some 25, .call ⟨.invoke (.tmp 22) "May", #[.tmp 23, .tmp 24], #[25, 3]⟩, none⟩,
 ⟨some 26, .unOp .not 4 (.tmp 25), none⟩])
 (.cond (.tmp 26)
 (.seq (.ops [⟨some 27, .move (.tmp 13), none⟩,
 ⟨some 10, .assign (.tmp 27), none⟩,
 ⟨some 11, .assign (.const (.bool true)), none⟩])
 (.exit 0))
 .skip)))))
 (.ops [⟨some 28, .binOp .add 3 (.tmp 15) (.const (.int .i64 1)) 3, none⟩,
 ⟨some 15, .move (.tmp 28), none⟩]))))
def ir32 : LC := (.seq (.ops [⟨some 8, .assign (.const (.int .u32 0)), none⟩,
 ⟨some 9, .assign (.const (.bool false)), none⟩])
 (.seq (.ops [⟨some 10, .assign (.const (.int .u32 0)), none⟩,
 ⟨some 11, .assign (.const (.bool false)), none⟩])
 (.seq .skip
 (.seq (.seq (.ops [⟨some 14, .move (.tmp 2), none⟩,
 ⟨some 15, .move (.const (.int .i64 0)), none⟩])
 (.block 0 (.loop ir32_l0)))
 (.seq (.ops [⟨some 29, .move (.tmp 10), none⟩,
 ⟨some 30, .move (.tmp 11), none⟩,
 ⟨some 8, .assign (.tmp 29), none⟩,
 ⟨some 9, .assign (.tmp 30), none⟩])
 .ret)))))
theorem ir32_eq : (Try.f32.body.map low, Try.f32.ntmps, Try.f32.results.toList) = (some ir32, 31, [.tmp 8, .tmp 9]) := by kernel_rfl



end Go.Proofs.Ytmkdbninmimndaa
