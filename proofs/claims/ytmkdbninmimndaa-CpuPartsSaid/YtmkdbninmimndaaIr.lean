/- The code of this seat struck bare (printed by program). -/
import Derived.Test.YtmkdbninmimndaaProg
import Derived.Test.YtmkdbninmimndaaV4
import Derived.KernelRfl
set_option linter.unusedVariables false
set_option maxRecDepth 100000
namespace Go.Proofs.Ytmkdbninmimndaa
open Go Go.Vm
def ir14 : LC := (.seq (.ops [⟨some 2, .assign (.const (.slice none 0 0)), none⟩])
 (.seq (.seq (.ops [⟨some 3, .move (.tmp 0), none⟩,
 ⟨some 4, .binOp .eql 32 (.tmp 3) (.const (.pointer none)) 32, none⟩])
 (.cond (.tmp 4)
 (.seq (.ops [⟨some 2, .assign (.const (.slice none 0 0)), none⟩])
 .ret)
 .skip))
 (.seq (.ops [⟨some 5, .move (.tmp 0), none⟩,
 ⟨some 6, .nilCheck (.tmp 5), none⟩,
 ⟨some 7, .fieldAddr 80 (.tmp 6) 0, none⟩,
 ⟨some 8, .load 23 (.tmp 7), none⟩,
 ⟨some 9, .call ⟨.value (.func 29), #[.tmp 8], #[23]⟩, none⟩,
 ⟨some 2, .assign (.tmp 9), none⟩])
 .ret)))
theorem ir14_eq : (Try.f14.body.map low, Try.f14.ntmps, Try.f14.results.toList) = (some ir14, 10, [.tmp 2]) := by kernel_rfl
def ir16_l0 : LC := (.seq (.ops [⟨some 18, .binOp .lss 3 (.tmp 17) (.tmp 16) 3, none⟩])
 (.seq (.cond (.tmp 18)
 .skip
 (.exit 0))
 (.seq (.block 1 (.seq (.ops [⟨some 19, .indexAddr 24 (.tmp 15) (.tmp 17), none⟩,
 ⟨some 20, .load 3 (.tmp 19), none⟩,
 ⟨some 8, .assign (.tmp 20), none⟩])
 (.ops [⟨some 21, .move (.tmp 6), none⟩,
 ⟨some 22, .move (.tmp 21), none⟩,
 ⟨some 23, .move (.tmp 8), some (22, false)⟩,
 ⟨some 24, .binOp .lss 3 (.tmp 23) (.const (.int .i64 0)) 3, some (22, false)⟩,
 ⟨some 25, .pick (.tmp 22) (.const (.bool true)) (.tmp 24), none⟩,
 ⟨some 26, .move (.tmp 25), none⟩,
 ⟨some 27, .move (.tmp 8), some (26, false)⟩,
 ⟨some 28, .binOp .gtr 3 (.tmp 27) (.const (.int .i64 7)) 3, some (26, false)⟩,
 ⟨some 29, .pick (.tmp 26) (.const (.bool true)) (.tmp 28), none⟩,
 ⟨some 6, .assign (.tmp 29), none⟩])))
 (.ops [⟨some 30, .binOp .add 3 (.tmp 17) (.const (.int .i64 1)) 3, none⟩,
 ⟨some 17, .move (.tmp 30), none⟩]))))
def ir16 : LC := (.seq (.ops [⟨some 4, .assign (.const (.pointer none)), none⟩,
 ⟨some 5, .assign (.const (.int .i64 0)), none⟩])
 (.seq (.seq (.ops [⟨some 9, .move (.tmp 0), none⟩,
 ⟨some 10, .call ⟨.builtin .len, #[.tmp 9], #[23]⟩, none⟩,
 ⟨some 11, .binOp .gtr 3 (.tmp 10) (.const (.int .i64 8192)) 3, none⟩])
 (.cond (.tmp 11)
 (.seq (.ops [⟨some 4, .assign (.const (.pointer none)), none⟩,
 ⟨some 5, .assign (.const (.int .i64 3)), none⟩])
 .ret)
 .skip))
 (.seq (.ops [⟨some 12, .move (.tmp 1), none⟩,
 ⟨some 13, .call ⟨.builtin .len, #[.tmp 12], #[24]⟩, none⟩,
 ⟨some 14, .binOp .gtr 3 (.tmp 13) (.const (.int .i64 32)) 3, none⟩,
 ⟨some 6, .assign (.tmp 14), none⟩])
 (.seq (.seq (.ops [⟨some 15, .move (.tmp 1), none⟩,
 ⟨some 16, .call ⟨.builtin .len, #[.tmp 15], #[24]⟩, none⟩,
 ⟨some 17, .move (.const (.int .i64 0)), none⟩])
 (.block 0 (.loop ir16_l0)))
 (.seq (.block 2 (.seq (.ops [⟨some 32, .move (.tmp 6), none⟩,
 ⟨some 31, .assign (.tmp 32), none⟩])
 (.cond (.tmp 31)
 (.seq (.ops [⟨some 4, .assign (.const (.pointer none)), none⟩,
 ⟨some 5, .assign (.const (.int .i64 2)), none⟩])
 .ret)
 (.seq (.ops [⟨some 34, .move (.tmp 0), none⟩,
 ⟨some 35, .call ⟨.builtin .len, #[.tmp 34], #[23]⟩, none⟩,
 ⟨some 36, .move (.tmp 1), none⟩,
 ⟨some 37, .call ⟨.builtin .len, #[.tmp 36], #[24]⟩, none⟩,
 ⟨some 38, .binOp .mul 3 (.tmp 37) (.const (.int .i64 256)) 3, none⟩,
 ⟨some 39, .binOp .gtr 3 (.tmp 35) (.tmp 38) 3, none⟩,
 ⟨some 33, .assign (.tmp 39), none⟩])
 (.cond (.tmp 33)
 (.seq (.ops [⟨some 4, .assign (.const (.pointer none)), none⟩,
 ⟨some 5, .assign (.const (.int .i64 3)), none⟩])
 .ret)
 .skip)))))
 (.seq (.ops [⟨some 40, .move (.tmp 0), none⟩,
 ⟨some 41, .call ⟨.value (.func 29), #[.tmp 40], #[23]⟩, none⟩,
 ⟨some 42, .move (.tmp 1), none⟩,
 ⟨some 43, .call ⟨.builtin .len, #[.tmp 42], #[24]⟩, none⟩,
 ⟨some 44, .binOp .mul 3 (.tmp 43) (.const (.int .i64 256)) 3, none⟩,
 ⟨some 45, .move (.tmp 0), none⟩,
 ⟨some 46, .call ⟨.builtin .len, #[.tmp 45], #[23]⟩, none⟩,
 ⟨some 47, .binOp .sub 3 (.tmp 44) (.tmp 46) 3, none⟩,
 ⟨some 48, .call ⟨.builtin .append, #[.tmp 41, .tmp 47], #[23, 3]⟩, none⟩,
 ⟨some 49, .move (.tmp 1), none⟩,
 ⟨some 50, .call ⟨.value (.func 31), #[.tmp 49], #[24]⟩, none⟩,
 ⟨some 51, .build 80 #[(0, .tmp 48), (1, .tmp 50)], none⟩,
 ⟨some 52, .box 80 (.tmp 51), none⟩,
 ⟨some 4, .assign (.tmp 52), none⟩,
 ⟨some 5, .assign (.const (.int .i64 0)), none⟩])
 .ret))))))
theorem ir16_eq : (Try.f16.body.map low, Try.f16.ntmps, Try.f16.results.toList) = (some ir16, 53, [.tmp 4, .tmp 5]) := by kernel_rfl
def ir20 : LC := (.seq (.ops [⟨some 2, .assign (.const (.pointer none)), none⟩])
 (.seq (.seq (.ops [⟨some 3, .move (.tmp 0), none⟩,
 ⟨some 4, .binOp .eql 32 (.tmp 3) (.const (.pointer none)) 32, none⟩])
 (.cond (.tmp 4)
 (.seq (.ops [⟨some 2, .assign (.const (.pointer none)), none⟩])
 .ret)
 .skip))
 (.seq (.draw [⟨some 5, .move (.tmp 0), none⟩,
 ⟨some 6, .nilCheck (.tmp 5), none⟩,
 ⟨some 7, .fieldAddr 80 (.tmp 6) 0, none⟩,
 ⟨some 8, .load 23 (.tmp 7), none⟩,
 ⟨some 9, .call ⟨.value (.func 29), #[.tmp 8], #[23]⟩, none⟩,
 ⟨some 10, .move (.tmp 0), none⟩,
 ⟨some 11, .nilCheck (.tmp 10), none⟩,
 ⟨some 12, .fieldAddr 80 (.tmp 11) 1, none⟩,
 ⟨some 13, .load 24 (.tmp 12), none⟩,
 ⟨some 14, .call ⟨.value (.func 31), #[.tmp 13], #[24]⟩, none⟩,
 ⟨some 15, .build 80 #[(0, .tmp 9), (1, .tmp 14)], none⟩,
 ⟨some 16, .box 80 (.tmp 15), none⟩,
 ⟨some 2, .assign (.tmp 16), none⟩] [(4, 5), (4, 6), (4, 7), (4, 8)])
 .ret)))
theorem ir20_eq : (Try.f20.body.map low, Try.f20.ntmps, Try.f20.results.toList) = (some ir20, 17, [.tmp 2]) := by kernel_rfl
def ir21 : LC := (.seq (.ops [⟨some 6, .assign (.const (.bool false)), none⟩])
 (.seq (.seq (.ops [⟨some 7, .move (.tmp 0), none⟩,
 ⟨some 8, .binOp .eql 32 (.tmp 7) (.const (.pointer none)) 32, none⟩,
 ⟨some 9, .move (.tmp 8), none⟩,
 ⟨some 10, .move (.tmp 2), some (9, false)⟩,
 ⟨some 11, .binOp .lss 3 (.tmp 10) (.const (.int .i64 1)) 3, some (9, false)⟩,
 ⟨some 12, .pick (.tmp 9) (.const (.bool true)) (.tmp 11), none⟩,
 ⟨some 13, .move (.tmp 12), none⟩,
 ⟨some 14, .move (.tmp 2), some (13, false)⟩,
 ⟨some 15, .binOp .gtr 3 (.tmp 14) (.const (.int .i64 7)) 3, some (13, false)⟩,
 ⟨some 16, .pick (.tmp 13) (.const (.bool true)) (.tmp 15), none⟩,
 ⟨some 17, .move (.tmp 16), none⟩,
 ⟨some 18, .move (.tmp 1), some (17, false)⟩,
 ⟨some 19, .convert 25 85 (.tmp 18), some (17, false)⟩,
 ⟨some 20, .move (.tmp 0), some (17, false)⟩,
 ⟨some 21, .nilCheck (.tmp 20), some (17, false)⟩,
 ⟨some 22, .fieldAddr 80 (.tmp 21) 0, some (17, false)⟩,
 ⟨some 23, .load 23 (.tmp 22), some (17, false)⟩,
 ⟨some 24, .call ⟨.builtin .len, #[.tmp 23], #[23]⟩, some (17, false)⟩,
 ⟨some 25, .convert 3 85 (.tmp 24), some (17, false)⟩,
 ⟨some 26, .binOp .geq 85 (.tmp 19) (.tmp 25) 85, some (17, false)⟩,
 ⟨some 27, .pick (.tmp 17) (.const (.bool true)) (.tmp 26), none⟩])
 (.cond (.tmp 27)
 (.seq (.ops [⟨some 6, .assign (.const (.bool false)), none⟩])
 .ret)
 .skip))
 (.seq (.ops [⟨some 28, .move (.tmp 0), none⟩,
 ⟨some 29, .nilCheck (.tmp 28), none⟩,
 ⟨some 30, .fieldAddr 80 (.tmp 29) 1, none⟩,
 ⟨some 31, .load 24 (.tmp 30), none⟩,
 ⟨some 32, .move (.tmp 1), none⟩,
 ⟨some 33, .binOp .quo 25 (.tmp 32) (.const (.int .u32 256)) 25, none⟩,
 ⟨some 34, .indexAddr 24 (.tmp 31) (.tmp 33), none⟩,
 ⟨some 35, .load 3 (.tmp 34), none⟩,
 ⟨some 36, .move (.tmp 2), none⟩,
 ⟨some 37, .binOp .and 3 (.tmp 35) (.tmp 36) 3, none⟩,
 ⟨some 38, .move (.tmp 2), none⟩,
 ⟨some 39, .binOp .eql 3 (.tmp 37) (.tmp 38) 3, none⟩,
 ⟨some 6, .assign (.tmp 39), none⟩])
 .ret)))
theorem ir21_eq : (Try.f21.body.map low, Try.f21.ntmps, Try.f21.results.toList) = (some ir21, 40, [.tmp 6]) := by kernel_rfl
def ir23 : LC := (.seq (.ops [⟨some 6, .move (.tmp 0), none⟩,
 ⟨some 7, .binOp .neq 32 (.tmp 6) (.const (.pointer none)) 32, none⟩,
 ⟨some 8, .move (.tmp 7), none⟩,
 ⟨some 9, .move (.tmp 1), some (8, true)⟩,
 ⟨some 10, .convert 25 85 (.tmp 9), some (8, true)⟩,
 ⟨some 11, .move (.tmp 0), some (8, true)⟩,
 ⟨some 12, .nilCheck (.tmp 11), some (8, true)⟩,
 ⟨some 13, .fieldAddr 80 (.tmp 12) 0, some (8, true)⟩,
 ⟨some 14, .load 23 (.tmp 13), some (8, true)⟩,
 ⟨some 15, .call ⟨.builtin .len, #[.tmp 14], #[23]⟩, some (8, true)⟩,
 ⟨some 16, .convert 3 85 (.tmp 15), some (8, true)⟩,
 ⟨some 17, .binOp .lss 85 (.tmp 10) (.tmp 16) 85, some (8, true)⟩,
 ⟨some 18, .pick (.tmp 8) (.tmp 17) (.const (.bool false)), none⟩])
 (.cond (.tmp 18)
 (.ops [⟨some 19, .move (.tmp 0), none⟩,
 ⟨some 20, .nilCheck (.tmp 19), none⟩,
 ⟨some 21, .fieldAddr 80 (.tmp 20) 0, none⟩,
 ⟨some 22, .load 23 (.tmp 21), none⟩,
 ⟨some 23, .move (.tmp 1), none⟩,
 ⟨some 24, .move (.tmp 2), none⟩,
 ⟨some 25, .indexAddr 23 (.tmp 22) (.tmp 23), none⟩,
 ⟨none, .store 5 (.tmp 25) (.tmp 24), none⟩])
 .skip))
theorem ir23_eq : (Try.f23.body.map low, Try.f23.ntmps, Try.f23.results.toList) = (some ir23, 26, []) := by kernel_rfl
def ir24 : LC := (.seq (.ops [⟨some 4, .assign (.const (.int .u8 0)), none⟩])
 (.seq (.seq (.ops [⟨some 5, .move (.tmp 0), none⟩,
 ⟨some 6, .binOp .eql 32 (.tmp 5) (.const (.pointer none)) 32, none⟩,
 ⟨some 7, .move (.tmp 6), none⟩,
 ⟨some 8, .move (.tmp 1), some (7, false)⟩,
 ⟨some 9, .convert 25 85 (.tmp 8), some (7, false)⟩,
 ⟨some 10, .move (.tmp 0), some (7, false)⟩,
 ⟨some 11, .nilCheck (.tmp 10), some (7, false)⟩,
 ⟨some 12, .fieldAddr 80 (.tmp 11) 0, some (7, false)⟩,
 ⟨some 13, .load 23 (.tmp 12), some (7, false)⟩,
 ⟨some 14, .call ⟨.builtin .len, #[.tmp 13], #[23]⟩, some (7, false)⟩,
 ⟨some 15, .convert 3 85 (.tmp 14), some (7, false)⟩,
 ⟨some 16, .binOp .geq 85 (.tmp 9) (.tmp 15) 85, some (7, false)⟩,
 ⟨some 17, .pick (.tmp 7) (.const (.bool true)) (.tmp 16), none⟩])
 (.cond (.tmp 17)
 (.seq (.ops [⟨some 4, .assign (.const (.int .u8 0)), none⟩])
 .ret)
 .skip))
 (.seq (.ops [⟨some 18, .move (.tmp 0), none⟩,
 ⟨some 19, .nilCheck (.tmp 18), none⟩,
 ⟨some 20, .fieldAddr 80 (.tmp 19) 0, none⟩,
 ⟨some 21, .load 23 (.tmp 20), none⟩,
 ⟨some 22, .move (.tmp 1), none⟩,
 ⟨some 23, .indexAddr 23 (.tmp 21) (.tmp 22), none⟩,
 ⟨some 24, .load 5 (.tmp 23), none⟩,
 ⟨some 4, .assign (.tmp 24), none⟩])
 .ret)))
theorem ir24_eq : (Try.f24.body.map low, Try.f24.ntmps, Try.f24.results.toList) = (some ir24, 25, [.tmp 4]) := by kernel_rfl
def ir29 : LC := (.seq (.ops [⟨some 2, .assign (.const (.slice none 0 0)), none⟩])
 (.seq (.seq (.ops [⟨some 3, .move (.tmp 0), none⟩,
 ⟨some 4, .binOp .eql 23 (.tmp 3) (.const (.slice none 0 0)) 23, none⟩])
 (.cond (.tmp 4)
 (.seq (.ops [⟨some 2, .assign (.const (.slice none 0 0)), none⟩])
 .ret)
 .skip))
 (.seq (.ops [⟨some 5, .buildSlice 23 0 #[], none⟩,
 ⟨some 6, .move (.tmp 0), none⟩,
 ⟨some 7, .call ⟨.builtin .append, #[.tmp 5, .tmp 6], #[23, 23]⟩, none⟩,
 ⟨some 2, .assign (.tmp 7), none⟩])
 .ret)))
theorem ir29_eq : (Try.f29.body.map low, Try.f29.ntmps, Try.f29.results.toList) = (some ir29, 8, [.tmp 2]) := by kernel_rfl
def ir31 : LC := (.seq (.ops [⟨some 2, .assign (.const (.slice none 0 0)), none⟩])
 (.seq (.seq (.ops [⟨some 3, .move (.tmp 0), none⟩,
 ⟨some 4, .binOp .eql 24 (.tmp 3) (.const (.slice none 0 0)) 24, none⟩])
 (.cond (.tmp 4)
 (.seq (.ops [⟨some 2, .assign (.const (.slice none 0 0)), none⟩])
 .ret)
 .skip))
 (.seq (.ops [⟨some 5, .buildSlice 24 0 #[], none⟩,
 ⟨some 6, .move (.tmp 0), none⟩,
 ⟨some 7, .call ⟨.builtin .append, #[.tmp 5, .tmp 6], #[24, 24]⟩, none⟩,
 ⟨some 2, .assign (.tmp 7), none⟩])
 .ret)))
theorem ir31_eq : (Try.f31.body.map low, Try.f31.ntmps, Try.f31.results.toList) = (some ir31, 8, [.tmp 2]) := by kernel_rfl



end Go.Proofs.Ytmkdbninmimndaa
